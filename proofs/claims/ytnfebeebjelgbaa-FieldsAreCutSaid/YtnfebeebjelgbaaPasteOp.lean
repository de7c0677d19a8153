import Derived.Test.YtnfebeebjelgbaaPasteRef
import Derived.Test.YtnfebeebjelgbaaBlendFn
import Derived.Test.YtnfebeebjelgbaaCount
import Derived.Deep.RegionHeld3
import Derived.BigQuiet
namespace Go.Proofs.Ytnfebeebjelgbaa
open Go.ChangeShapes Go.WideShapes Go.ChangeAt Go.RowKit
open Ieee.Format (fin finE htE allFin allHt all_true all_false mulF subF addF Ht Bd divF rootF floorF easeF mixF)
set_option linter.unusedVariables false

theorem infoSz2 : (Try.prog.info? 37).map (·.size) = some 1 := by kernel_rfl
theorem fls_one2 (l : List Nat) : ∀ v ∈ fls l, v.oneCell' = true := by
  intro v hv
  unfold fls at hv
  obtain ⟨x, _, rfl⟩ := List.mem_map.1 hv
  rfl
theorem but_setRow (w : World) (g : Nat) (cs : Array Value) : But w.heap.size (fun j => j = g) w (w.setRow g cs) := ⟨rfl, rfl, rfl, by simp [World.setRow], fun k _ hk => setRow_other w g k cs (fun e => hk e)⟩
/-- copy into a row of the call's own, one step of a region that draws its order: no other block has changed -/
theorem step_copy_but {P : Program} {ops : Array Oper} {o : Oper} {a : Act} {w : World} {K : Act → World → Prop} {Q : Exit → Act → World → Prop} {E : Prop} (hgd : o.guard = none) (d s : Operand) (dT sT : TypeId)
    (ho : o.op = .call { callee := .builtin .copy, args := #[d, s], argTypes := #[dT, sT] }) (elem : TypeId) (hu : P.underlying dT = some (.slice elem)) (hsz : (P.info? elem).map (·.size) = some 1)
    (g off dLen dCap : Nat) (ad : Addr) (sLen sCap : Nat) (hd : a.eval d = .slice (some ⟨g, off, none⟩) dLen dCap) (hs : a.eval s = .slice (some ad) sLen sCap)
    (cur : List Value) (t : TypeId) (hg : w.heap[g]? = some (.cells cur.toArray t (0, 0))) (cs : List Value) (hn : cs.length = Nat.min sLen dLen)
    (hsrc : ∀ j v, cs[j]? = some v → w.cell? (ad.add j) = some v) (hfit : off + cs.length ≤ cur.length) (h1 : ∀ v ∈ cs, v.oneCell' = true)
    (h : ∀ w', Hid (w'.heap[g]? = some (.cells (splice cur off cs).toArray t (0, 0))) → But w.heap.size (fun j => j = g) w w' → K (a.put o.dst (goInt cs.length)) w') :
    if Region.wanted o (yielded ops a.tmps) = true then Oper.wp P o a w K Q else E := by
  have hw : Region.wanted o (yielded ops a.tmps) = true := by simp [Region.wanted, hgd]
  rw [if_pos hw]
  have hrun := run_copy_row (P := P) w dT sT o.type elem g off dLen dCap ad sLen sCap cur.toArray t cs hu hsz hg hn hsrc (by simpa using hfit) h1
  unfold Oper.wp
  simp [execOp, ho, resolve, invoke, builtin, hd, hs, hrun, Result.andThen]
  exact h _ (show _ = _ by simpa [splice] using setRow_heap w g _ _ t _ hg) (but_setRow _ _ _)

theorem splice_take (L : List Value) (n off : Nat) (cs : List Value) (h : off + cs.length ≤ n) (hn : n ≤ L.length) : (splice L off cs).take n = splice (L.take n) off cs := by
  unfold splice
  rw [List.take_append, List.take_append, List.length_take, Nat.min_eq_left (by omega), List.take_take, Nat.min_eq_right (by omega), List.take_take, Nat.min_eq_left (by omega), List.take_of_length_le (l := cs) (by omega)]
  congr 2
  rw [List.drop_take]
  congr 1
  omega
/-- the whole row -/
theorem OwnF.cur {w : World} {B g cap : Nat} {m : List Nat} (h : OwnF w B g cap m) : ∃ cur : List Value, w.heap[g]? = some (.cells cur.toArray 37 (0, 0)) ∧ m.length ≤ cur.length ∧ cur.take m.length = fls m ∧ cur.length = cap := by
  obtain ⟨h1, h2⟩ := h.1
  rcases h2 with ⟨hv, _⟩ | ⟨g', cap', cur, hv, hB, hh, hn, hc, hs, ht⟩
  · simp at hv
  · simp only [Value.slice.injEq, Option.some.injEq, Addr.mk.injEq, and_true, true_and] at hv
    obtain ⟨rfl, rfl⟩ := hv
    refine ⟨cur.toList, by simpa using hh, by simp; omega, ?_, by simp; omega⟩
    rw [Nat.mul_one] at ht
    exact ht
theorem fls_splice2 (m : List Nat) (off : Nat) (ys : List Nat) : fls (splice m off ys) = splice (fls m) off (fls ys) := by
  unfold fls splice
  rw [List.map_append, List.map_append, List.map_take, List.map_drop, List.length_map]
theorem OwnF.splice {w w' : World} {B g cap : Nat} {m : List Nat} (h : OwnF w B g cap m) {cur : List Value} (hc : cur.take m.length = fls m) (hcl : cur.length = cap) (hml : m.length ≤ cur.length) {off : Nat} {ys : List Nat} (hf : off + ys.length ≤ m.length) (hy : ∀ y ∈ ys, y < 4294967296)
    (hrow : w'.heap[g]? = some (.cells (Go.splice cur off (fls ys)).toArray 37 (0, 0))) : OwnF w' B g cap (Go.splice m off ys) := by
  obtain ⟨h1, h2⟩ := h.1
  have hl : (Go.splice m off ys).length = m.length := length_splice _ _ _ hf
  have hfl : (fls ys).length = ys.length := by unfold fls; simp
  refine ⟨?_, ?_⟩
  · rw [hl, fls_splice2]
    refine ⟨?_, .inr ⟨g, cap, (Go.splice cur off (fls ys)).toArray, rfl, ?_, hrow, ?_, ?_, ?_, ?_⟩⟩
    · rw [length_splice _ _ _ (by rw [hfl]; unfold fls; simpa using hf)]; unfold fls; simp
    · exact (h.1.lt g rfl).1
    · omega
    · rcases h2 with ⟨hv, _⟩ | ⟨g', cap', cur', hv, hB, hh, hn, hcc, hs, ht⟩
      · simp at hv
      · simp only [Value.slice.injEq, Option.some.injEq, Addr.mk.injEq, and_true, true_and] at hv
        obtain ⟨rfl, rfl⟩ := hv
        exact hcc
    · rw [List.size_toArray, length_splice _ _ _ (by rw [hfl]; omega)]; omega
    · rw [Nat.mul_one, List.toList_toArray, splice_take _ _ _ _ (by rw [hfl]; exact hf) hml, hc]
  · intro x hx
    unfold Go.splice at hx
    rcases List.mem_append.1 hx with hx | hx
    · exact h.2 x (List.mem_of_mem_take hx)
    · rcases List.mem_append.1 hx with hx | hx
      · exact hy x hx
      · exact h.2 x (List.mem_of_mem_drop hx)
theorem Reg.but {w w' : World} {B p k : Nat} {X Y W H : Int} (h : Reg w k X Y W H) (hb : But B (fun j => j = p) w w') (hk : k < B) (hp : k ≠ p) : Reg w' k X Y W H := (hb.block k hk hp).trans h

structure PasInv (w wr : World) (X Y : Int) (Wn Hn : Nat) (u : Value) (X' Y' : Int) (Wn' Hn' : Nat) (b' o' c' : Nat) (l' : List Nat) (k7 k9 : Nat) (cx cy : Int) (cw ch g cap : Nat) (m : List Nat) : Prop where
  ef : Fld wr w.heap.size X Y Wn Hn u
  eg : Fld wr (w.heap.size + 1) X' Y' Wn' Hn' (.slice (some ⟨b', o', none⟩) l'.length c')
  ez : Fld wr (w.heap.size + 1 + 1) 0 0 0 0 (.slice none 0 0)
  rg : Reg wr k7 cx cy cw ch
  eo : Fld wr k9 X Y Wn Hn (.slice (some ⟨g, 0, none⟩) m.length cap)
  hl : SRow wr (some ⟨b', o', none⟩) l'
  own : OwnF wr w.heap.size g cap m
  below : Below w.heap.size w wr
  bl : b' < w.heap.size
  k7l : w.heap.size + 1 + 1 < k7
  k7g : k7 < g
  k9g : g < k9
theorem PasInv.copy {w wr w' : World} {X Y : Int} {Wn Hn : Nat} {u : Value} {X' Y' : Int} {Wn' Hn' : Nat} {b' o' c' : Nat} {l' : List Nat} {k7 k9 : Nat} {cx cy : Int} {cw ch g cap : Nat} {m : List Nat} (h : PasInv w wr X Y Wn Hn u X' Y' Wn' Hn' b' o' c' l' k7 k9 cx cy cw ch g cap m)
    {cur : List Value} (hc : cur.take m.length = fls m) (hcl : cur.length = cap) (hml : m.length ≤ cur.length) {off : Nat} {ys : List Nat} (hf : off + ys.length ≤ m.length) (hy : ∀ y ∈ ys, y < 4294967296)
    (hrow : w'.heap[g]? = some (.cells (Go.splice cur off (fls ys)).toArray 37 (0, 0))) (hb : But wr.heap.size (fun j => j = g) wr w') : PasInv w w' X Y Wn Hn u X' Y' Wn' Hn' b' o' c' l' k7 k9 cx cy cw ch g cap (Go.splice m off ys) := by
  have h1 := h.k7l; have h2 := h.k7g; have h3 := h.k9g; have h4 := h.bl
  have hg := h.own.lt.2
  have z := h.below.size
  have e := length_splice m off ys hf
  refine ⟨h.ef.but hb h.ef.lt (by omega), h.eg.but hb h.eg.lt (by omega), h.ez.but hb h.ez.lt (by omega), h.rg.but hb h.rg.lt (by omega), ?_, h.hl.but hb (by omega) (by omega), h.own.splice hc hcl hml hf hy hrow, ?_, h4, h1, h2, h3⟩
  · rw [e]; exact h.eo.but hb h.eo.lt (by omega)
  · exact h.below.trans (⟨hb.os, hb.tape, hb.output, hb.size, fun k hk => hb.block k (by omega) (by show ¬ k = g; omega)⟩)

theorem ck_world2 (w : World) (X Y : Int) (Wn Hn : Nat) (ba oa ca : Nat) (A : List Nat) (X' Y' : Int) (Wn' Hn' : Nat) (bb ob cb : Nat) (B : List Nat) (ha : SRow w (some ⟨ba, oa, none⟩) A) (hb : SRow w (some ⟨bb, ob, none⟩) B)
    (ra : Right X Y Wn Hn A) (rb : Right X' Y' Wn' Hn' B) : ∀ W0, W0 = (((w.alloc (.cells #[.int .i64 X, .int .i64 Y, .int .i64 Wn, .int .i64 Hn, .slice (some ⟨ba, oa, none⟩) A.length ca] 36)).alloc (.cells #[.int .i64 X', .int .i64 Y', .int .i64 Wn', .int .i64 Hn', .slice (some ⟨bb, ob, none⟩) B.length cb] 36)).alloc (.cells #[.int .i64 0, .int .i64 0, .int .i64 0, .int .i64 0, .slice none 0 0] 36)).alloc
      (.cells #[.int .i64 X, .int .i64 Y, .int .i64 Wn, .int .i64 Hn, .slice (some ⟨ba, oa, none⟩) A.length ca, .int .i64 X', .int .i64 Y', .int .i64 Wn', .int .i64 Hn', .slice (some ⟨bb, ob, none⟩) B.length cb] 36) →
    Fld W0 w.heap.size X Y Wn Hn (.slice (some ⟨ba, oa, none⟩) A.length ca) ∧ Fld W0 (w.heap.size + 1) X' Y' Wn' Hn' (.slice (some ⟨bb, ob, none⟩) B.length cb) ∧ Fld W0 (w.heap.size + 1 + 1) 0 0 0 0 (.slice none 0 0) ∧ Below w.heap.size w W0 ∧ w.heap.size + 1 + 1 + 1 < W0.heap.size ∧
      (∀ i, i < 2 → FlAt W0 (w.heap.size + 1 + 1 + 1) (0 + i * 5)) := by
  intro W0 hW
  have b0 : Below w.heap.size w W0 := by subst hW; exact (by repeat (first | with_reducible exact Below.refl _ _ | with_reducible apply Below.drew | with_reducible refine below_drewN ?_ _ | (with_reducible refine Below.setCell ?_ ?_ _; rotate_left; focus (first | omega | (simp <;> omega))) | (with_reducible refine Below.alloc ?_ ?_ _; rotate_left; focus (first | omega | (simp <;> omega)))))
  have z : w.heap.size + 1 + 1 + 1 < W0.heap.size := by subst hW; simp
  obtain ⟨E0, P0, F0, _⟩ := box_ff2 w X Y Wn Hn (.slice (some ⟨ba, oa, none⟩) A.length ca) X' Y' Wn' Hn' (.slice (some ⟨bb, ob, none⟩) B.length cb) _ rfl
  have k : Blk W0 (w.heap.size + 1 + 1 + 1) #[.int .i64 X, .int .i64 Y, .int .i64 Wn, .int .i64 Hn, .slice (some ⟨ba, oa, none⟩) A.length ca, .int .i64 X', .int .i64 Y', .int .i64 Wn', .int .i64 Hn', .slice (some ⟨bb, ob, none⟩) B.length cb] 36 := by
    subst hW
    have := Blk.new (((w.alloc (.cells #[.int .i64 X, .int .i64 Y, .int .i64 Wn, .int .i64 Hn, .slice (some ⟨ba, oa, none⟩) A.length ca] 36)).alloc (.cells #[.int .i64 X', .int .i64 Y', .int .i64 Wn', .int .i64 Hn', .slice (some ⟨bb, ob, none⟩) B.length cb] 36)).alloc (.cells #[.int .i64 0, .int .i64 0, .int .i64 0, .int .i64 0, .slice none 0 0] 36)) #[.int .i64 X, .int .i64 Y, .int .i64 Wn, .int .i64 Hn, .slice (some ⟨ba, oa, none⟩) A.length ca, .int .i64 X', .int .i64 Y', .int .i64 Wn', .int .i64 Hn', .slice (some ⟨bb, ob, none⟩) B.length cb] 36
    simpa using this
  refine ⟨by subst hW; exact E0.alloc _, by subst hW; exact P0.alloc _, by subst hW; exact F0.alloc _, b0, z, ?_⟩
  intro i hi
  clear hW
  match i, hi with
  | 0, _ => exact ⟨X, Y, Wn, Hn, ba, oa, ca, A, ra, SRow.below ha b0, k.cell 0, k.cell 1, k.cell 2, k.cell 3, k.cell 4⟩
  | 1, _ => exact ⟨X', Y', Wn', Hn', bb, ob, cb, B, rb, SRow.below hb b0, k.cell 5, k.cell 6, k.cell 7, k.cell 8, k.cell 9⟩
theorem cmR_frm (a b c d e f g h : Int) : ∃ p q r s, cmR a b c d e f g h = reg p q r s := by
  unfold cmR
  split
  · exact ⟨_, _, _, _, rfl⟩
  · exact ⟨_, _, _, _, rfl⟩
end Go.Proofs.Ytnfebeebjelgbaa
