import Derived.Test.YtimhpmccmafnpaaGreatG02
import Derived.OwnWalk
import Derived.Laws.OwnMore
import Derived.Deep.RegionHeld3
import Derived.Deep.RegionWith
import Derived.StillTailTactics
import Derived.Shelf.Abstract


namespace Go.Proofs.YtimhpmccmafnpaaGreat
open Go.ChangeShapes Go.WideShapes Go.ChangeAt Go.RowKit
open Ieee.Format (fin finE htE allFin allHt all_true all_false finE_ok finE_bad htE_ok htE_far htE_bad mulF subF addF)
set_option linter.unusedVariables false

theorem SRow.below {w w' : World} {a : Option Addr} {l : List Nat} (h : SRow w a l) (hb : Below w.heap.size w w') : SRow w' a l := by
  obtain ⟨h1, h2⟩ := h
  refine ⟨h1, ?_⟩
  rcases h2 with h2 | ⟨b, o, rfl, hc⟩
  · exact .inl h2
  · refine .inr ⟨b, o, rfl, fun i hi => ?_⟩
    have := hc i hi
    rw [hb.cell (p := ⟨b, o + i, none⟩) (World.block_lt_of_cell? w _ this)]
    exact this

/-- the value of a field -/
abbrev fldV (X Y W H : Int) (a : Option Addr) (n c : Nat) : Value := .agg #[.int .i64 X, .int .i64 Y, .int .i64 W, .int .i64 H, .slice a n c]

/-- the error of a field -/
def chkF (X Y W H : Int) (l : List Nat) : Int := if chk X Y W H ≠ 0 then chk X Y W H else if (l.length : Int) ≠ W * H then 2 else htE l

theorem chkF_region {X Y W H : Int} {l : List Nat} (h : chk X Y W H ≠ 0) : chkF X Y W H l = chk X Y W H := if_pos h
theorem chkF_len {X Y W H : Int} {l : List Nat} (h : chk X Y W H = 0) (h2 : (l.length : Int) ≠ W * H) : chkF X Y W H l = 2 := by
  unfold chkF; rw [if_neg (by simpa using h), if_pos h2]
theorem chkF_vals {X Y W H : Int} {l : List Nat} (h : chk X Y W H = 0) (h2 : (l.length : Int) = W * H) : chkF X Y W H l = htE l := by
  unfold chkF; rw [if_neg (by simpa using h), if_neg (by simpa using h2)]

theorem check_field (X Y W H : Int) (a : Option Addr) (c : Nat) (l : List Nat) (w : World) (hl : SRow w a l) :
    Calls Tryz.prog 100 #[fldV X Y W H a l.length c] w fun e w' => e = .returned (.int .i64 (chkF X Y W H l)) ∧ Below w.heap.size w w' := by
  have HL := Lib.hid hl
  clear hl
  have hA : Below w.heap.size w (w.alloc (.cells #[.int .i64 X, .int .i64 Y, .int .i64 W, .int .i64 H, .slice a l.length c] /-T-/78)) := (by repeat (first | with_reducible exact Below.refl _ _ | with_reducible apply Below.drew | with_reducible refine below_drewN ?_ _ | (with_reducible refine Below.setCell ?_ ?_ _; rotate_left; focus (first | omega | (simp <;> omega))) | (with_reducible refine Below.alloc ?_ ?_ _; rotate_left; focus (first | omega | (simp <;> omega)))))
  have hcase : chk X Y W H ≠ 0 ∨ (chk X Y W H = 0 ∧ ((l.length : Int) ≠ W * H ∨ (l.length : Int) = W * H)) := by omega
  rcases hcase with h1 | ⟨h1, h2 | h2⟩
  · have E := Lib.hid (chkF_region (l := l) h1)
    have hb : (chk X Y W H != 0) = true := by rw [bne_iff_ne]; exact h1
    clear h1
    have E2 : Hid (chkF X Y W H l = chk X Y W H) := E.out
    have K := Lib.hid (fun w => check1 X Y W H w)
    generalize chk X Y W H = q at *
    generalize chkF X Y W H l = r at *
    go_enter Tryz.func100, Tryz.ntmps100
    go_wp2_with fail
    refine (K.out _).mono ?_
    rintro e w1 ⟨rfl, b1⟩
    have B1 := hA.trans (b1.mono hA.size)
    clear b1
    go_wp2
    go_ret
    exact ⟨ret_i64 E2.out.symm, B1⟩
  · have E := Lib.hid (chkF_len h1 h2)
    obtain ⟨z1, z2, z3, z4, z5, z6, z7, z8, z9⟩ := chk_zero h1
    have zp : 1 ≤ W * H := by have := Int.mul_le_mul z1 z3 (by omega) (by omega); omega
    have hb : ((l.length : Int) != W * H) = true := by rw [bne_iff_ne]; exact h2
    have H1 := Lib.hid h1
    clear h1 h2
    generalize chkF X Y W H l = r at *
    go_enter Tryz.func100, Tryz.ntmps100
    go_wp2_with fail
    refine (check1 _ _ _ _ _).mono ?_
    rintro e w1 ⟨rfl, b1⟩
    rw [H1.out]
    have B1 := hA.trans (b1.mono hA.size)
    obtain ⟨hcc, hf⟩ := bcell b1
    clear b1
    go_wp2_with fail
    go_ret
    exact ⟨ret_i64 E.out.symm, B1⟩
  · have E := Lib.hid (chkF_vals h1 h2)
    obtain ⟨z1, z2, z3, z4, z5, z6, z7, z8, z9⟩ := chk_zero h1
    have zp : 1 ≤ W * H := by have := Int.mul_le_mul z1 z3 (by omega) (by omega); omega
    have hb : ((l.length : Int) != W * H) = false := by rw [bne_eq_false_iff_eq]; exact h2
    have H1 := Lib.hid h1
    clear h1 h2
    have K := Lib.hid (fun w h => heights_any a c l w h)
    generalize chkF X Y W H l = r at *
    generalize htE l = q at *
    go_enter Tryz.func100, Tryz.ntmps100
    go_wp2_with fail
    refine (check1 _ _ _ _ _).mono ?_
    rintro e w1 ⟨rfl, b1⟩
    rw [H1.out]
    have B1 := hA.trans (b1.mono hA.size)
    obtain ⟨hcc, hf⟩ := bcell b1
    clear b1
    go_wp2_with fail
    refine (K.out _ (HL.out.below B1)).mono ?_
    rintro e w2 ⟨rfl, rfl⟩
    go_wp2_with fail
    go_ret
    exact ⟨ret_i64 E.out.symm, B1⟩

end Go.Proofs.YtimhpmccmafnpaaGreat

namespace Go.Proofs.YtimhpmccmafnpaaGreat
open Go.ChangeShapes Go.WideShapes Go.ChangeAt Go.RowKit
open Ieee.Format (fin finE htE allFin allHt all_true all_false finE_ok finE_bad htE_ok htE_far htE_bad mulF subF addF)
set_option linter.unusedVariables false

def fls (l : List Nat) : List Value := l.map (Value.float .f32)
theorem info24 : (Tryz.prog.info? /-T-/46).map (fun i => (i.zero, i.size, i.bytes)) = some (some (.float .f32 0), 1, 4) := by kernel_rfl

/-- the singles 'l' lie in a row of the call's own, from block 'B' on -/
def OwnF (w : World) (B g cap : Nat) (l : List Nat) : Prop := w.ownsRow B /-T-/46 1 (.slice (some ⟨g, 0, none⟩) l.length cap) l.length (fls l) ∧ ∀ x ∈ l, x < 4294967296

theorem OwnF.lt {w : World} {B g cap : Nat} {l : List Nat} (h : OwnF w B g cap l) : B ≤ g ∧ g < w.heap.size := h.1.lt g rfl
theorem OwnF.row {w : World} {B g cap : Nat} {l : List Nat} (h : OwnF w B g cap l) (hl : l.length ≤ 1099511627776) : SRow w (some ⟨g, 0, none⟩) l := by
  refine ⟨⟨hl, h.2⟩, .inr ⟨g, 0, rfl, fun i hi => ?_⟩⟩
  rw [Nat.zero_add, h.1.cellAt i (by omega)]
  unfold fls
  rw [List.getElem?_map, List.getD_eq_getElem?_getD, List.getElem?_eq_getElem hi]
  rfl
theorem OwnF.below {w w' : World} {B B' g cap : Nat} {l : List Nat} (h : OwnF w B g cap l) (hb : Below B' w w') (hg : g < B') : OwnF w' B g cap l := by
  refine ⟨?_, h.2⟩
  obtain ⟨h1, h2⟩ := h.1
  refine ⟨h1, ?_⟩
  rcases h2 with h2 | ⟨g', cap', cur, hv, hB, hh, r⟩
  · exact .inl h2
  · right
    have : g' = g := by simp at hv; exact hv.1.symm
    subst this
    exact ⟨g', cap', cur, hv, hB, (hb.block g' hg).trans hh, r⟩
theorem OwnF.base {w : World} {B B' g cap : Nat} {l : List Nat} (h : OwnF w B g cap l) (hB : B' ≤ B) : OwnF w B' g cap l := by
  refine ⟨⟨h.1.1, ?_⟩, h.2⟩
  rcases h.1.2 with h2 | ⟨g', cap', cur, hv, hb, r⟩
  · exact .inl h2
  · exact .inr ⟨g', cap', cur, hv, Nat.le_trans hB hb, r⟩
theorem OwnF.setCell {w : World} {B g cap : Nat} {l : List Nat} (h : OwnF w B g cap l) {p : Addr} (hp : g ≠ p.block) (u : Value) : OwnF (w.setCell p u) B g cap l := by
  refine ⟨⟨h.1.1, ?_⟩, h.2⟩
  rcases h.1.2 with h2 | ⟨g', cap', cur, hv, hb, hh, r⟩
  · exact .inl h2
  · have : g' = g := by simp at hv; exact hv.1.symm
    subst this
    exact .inr ⟨g', cap', cur, hv, hb, (Below.heap_setCell w p u g' hp).trans hh, r⟩
theorem OwnF.drew {w : World} {B g cap : Nat} {l : List Nat} (h : OwnF w B g cap l) : OwnF w.drew B g cap l := h
theorem OwnF.drewN {w : World} {B g cap : Nat} {l : List Nat} (h : OwnF w B g cap l) (n : Nat) : OwnF (w.drewN n) B g cap l := h
theorem OwnF.alloc {w : World} {B g cap : Nat} {l : List Nat} (h : OwnF w B g cap l) (o : Obj) : OwnF (w.alloc o) B g cap l := ⟨h.1.alloc o, h.2⟩
set_option maxRecDepth 100000 in
theorem clone_any (b o c : Nat) (l : List Nat) (w : World) (hl : SRow w (some ⟨b, o, none⟩) l) (h0 : l ≠ []) :
    Calls Tryz.prog 143 #[.slice (some ⟨b, o, none⟩) l.length c] w fun e w' => ∃ g cap, e = .returned (.slice (some ⟨g, 0, none⟩) l.length cap) ∧ OwnF w' w.heap.size g cap l ∧ Below w.heap.size w w' := by
  obtain ⟨i0, hi, hz0, hz1, hz2⟩ := info_parts info24
  obtain ⟨⟨hm, hwf⟩, hc⟩ := hl
  have hcells : ∀ i, i < l.length → w.cell? ⟨b, o + i, none⟩ = some (.float .f32 (l.getD i 0)) := by
    rcases hc with hc | ⟨b', o', e, hc⟩
    · exact absurd hc h0
    · cases e; exact hc
  have hlen : 0 < l.length := List.length_pos_iff.2 h0
  have hown := World.ownsRow_lit (base := w.heap.size) (e := /-T-/46) (size := 1) w #[] 0 (Nat.le_refl _) (by decide) rfl
  have hblt : b < w.heap.size := by have := hcells 0 hlen; exact World.block_lt_of_cell? w _ this
  have hnews : ∀ j u, (fls l)[j]? = some u → (w.alloc (.cells #[] /-T-/46)).cell? ((⟨b, o, none⟩ : Addr).add j) = some u := by
    intro j u hu
    unfold fls at hu
    rw [List.getElem?_map] at hu
    obtain ⟨x, hx, rfl⟩ := Option.map_eq_some_iff.1 hu
    obtain ⟨hj, hjx⟩ := List.getElem?_eq_some_iff.1 hx
    have hadd : (⟨b, o, none⟩ : Addr).add j = ⟨b, o + j, none⟩ := by
      unfold Addr.add; split
      · rename_i hj0; subst hj0; rfl
      · rfl
    rw [hadd, World.cell?_alloc_lt w _ ⟨b, o + j, none⟩ hblt, hcells j hj, List.getD_eq_getElem?_getD, hx]
    rfl
  have hone : ∀ u ∈ fls l, u.oneCell' = true := by
    intro u hu
    unfold fls at hu
    obtain ⟨x, _, rfl⟩ := List.mem_map.1 hu
    rfl
  have HC := Lib.hid hnews
  have HO := Lib.hid hone
  have HW := Lib.hid hwf
  have HW2 := Lib.hid hown
  have hfl : (fls l).length = l.length * 1 := by unfold fls; simp
  have HF := Lib.hid hfl
  clear hcells hc hnews hone hwf hown h0 hfl
  have kn := fun w => Lib.run_eql_slice_nil (P := Tryz.prog) w /-T-/23 /-T-/46 (some ⟨b, o, none⟩) l.length c 0 0 Tryz.underlying23
  have G1 : Hid (0 + l.length ≤ maxLen) := by unfold maxLen Hid; omega
  have G2 : Hid ((0 + l.length) * 4 ≤ 140737488355328) := by unfold Hid; omega
  have G3 : Hid (w.heap.size ≤ (w.alloc (.cells #[] /-T-/46)).heap.size) := by unfold Hid; simp
  have hlen1 : Hid (l.length ≤ 1099511627776) := hm
  go_enter Tryz.func143, Tryz.ntmps143
  go_wp2_with (at_builtin; refine wpList_append_own _ rfl _ _ /-T-/23 rfl w.heap.size /-T-/46 i0 (.float .f32 0) 1 4 Tryz.underlying23 hi hz0 hz1 hz2 rfl (by decide) _ 0 [] rfl HW2.out ⟨b, o, none⟩ l.length c (fls l) rfl HF.out HC.out HO.out G1.out G2.out G3.out ?_; intro v' w1 hown' hgrow hnil)
  have HO1 := Lib.hid hown'
  have HG1 := Lib.hid hgrow
  have HN := Lib.hid hnil
  clear hown' hgrow hnil
  go_wp2
  go_ret
  have hfo : w1.ownsRow w.heap.size /-T-/46 1 v' l.length (fls l) := by simpa using HO1.out
  rcases hfo.2 with ⟨_, h0⟩ | ⟨g, cap, cur, rfl, hg, hh, hr⟩
  · omega
  · refine ⟨g, cap, rfl, ⟨hfo, HW.out⟩, ?_⟩
    have ha : Below w.heap.size w (w.alloc (.cells #[] /-T-/46)) := (by repeat (first | with_reducible exact Below.refl _ _ | with_reducible apply Below.drew | with_reducible refine below_drewN ?_ _ | (with_reducible refine Below.setCell ?_ ?_ _; rotate_left; focus (first | omega | (simp <;> omega))) | (with_reducible refine Below.alloc ?_ ?_ _; rotate_left; focus (first | omega | (simp <;> omega)))))
    exact ha.grown HG1.out G3.out (fun k hk => by have hk' : some w.heap.size = some k := hk; cases hk'; exact Nat.le_refl _)

theorem SRow.drew {w : World} {a : Option Addr} {l : List Nat} (h : SRow w a l) : SRow w.drew a l := h
theorem SRow.drewN {w : World} {a : Option Addr} {l : List Nat} (h : SRow w a l) (n : Nat) : SRow (w.drewN n) a l := h

/-- a field with these values, in memory made since 'B' -/
def NewF (B : Nat) (X Y W H : Int) (l : List Nat) (w : World) (e : Ending) (w' : World) : Prop :=
  ∃ g cap, e = .returned (fldV X Y W H (some ⟨g, 0, none⟩) l.length cap) ∧ OwnF w' B g cap l ∧ Below w.heap.size w w'

set_option maxRecDepth 100000 in
theorem copy_any (X Y W H : Int) (b o c : Nat) (l : List Nat) (w : World) (hl : SRow w (some ⟨b, o, none⟩) l) (h0 : l ≠ []) :
    Calls Tryz.prog 107 #[fldV X Y W H (some ⟨b, o, none⟩) l.length c] w fun e w' => NewF w.heap.size X Y W H l w e w' := by
  have K := Lib.hid (fun w h => clone_any b o c l w h h0)
  have HL := Lib.hid hl
  clear hl h0
  have HBL : Below w.heap.size w ((w.alloc (.cells #[.int .i64 X, .int .i64 Y, .int .i64 W, .int .i64 H, .slice (some ⟨b, o, none⟩) l.length c] /-T-/78)).alloc (.cells #[.int .i64 0, .int .i64 0, .int .i64 0, .int .i64 0, .slice none 0 0] /-T-/78)) := (by repeat (first | with_reducible exact Below.refl _ _ | with_reducible apply Below.drew | with_reducible refine below_drewN ?_ _ | (with_reducible refine Below.setCell ?_ ?_ _; rotate_left; focus (first | omega | (simp <;> omega))) | (with_reducible refine Below.alloc ?_ ?_ _; rotate_left; focus (first | omega | (simp <;> omega)))))
  have HB := Lib.hid HBL
  clear HBL
  go_enter Tryz.func107, Tryz.ntmps107
  go_wp2
  generalize hW0 : (w.alloc (.cells #[.int .i64 X, .int .i64 Y, .int .i64 W, .int .i64 H, .slice (some ⟨b, o, none⟩) l.length c] /-T-/78)).alloc (.cells #[.int .i64 0, .int .i64 0, .int .i64 0, .int .i64 0, .slice none 0 0] /-T-/78) = W0 at *
  have c0 : W0.cell? ⟨w.heap.size, 0, none⟩ = some (.int .i64 X) := by subst hW0; simp
  have c1 : W0.cell? ⟨w.heap.size, 1, none⟩ = some (.int .i64 Y) := by subst hW0; simp
  have c2 : W0.cell? ⟨w.heap.size, 2, none⟩ = some (.int .i64 W) := by subst hW0; simp
  have c3 : W0.cell? ⟨w.heap.size, 3, none⟩ = some (.int .i64 H) := by subst hW0; simp
  have c4 : W0.cell? ⟨w.heap.size, 4, none⟩ = some (.slice (some ⟨b, o, none⟩) l.length c) := by subst hW0; simp
  have d0 : W0.cell? ⟨w.heap.size + 1, 0, none⟩ = some (.int .i64 0) := by subst hW0; simp
  have d1 : W0.cell? ⟨w.heap.size + 1, 1, none⟩ = some (.int .i64 0) := by subst hW0; simp
  have d2 : W0.cell? ⟨w.heap.size + 1, 2, none⟩ = some (.int .i64 0) := by subst hW0; simp
  have d3 : W0.cell? ⟨w.heap.size + 1, 3, none⟩ = some (.int .i64 0) := by subst hW0; simp
  have d4 : W0.cell? ⟨w.heap.size + 1, 4, none⟩ = some (.slice none 0 0) := by subst hW0; simp
  have z : W0.heap.size = w.heap.size + 2 := by subst hW0; simp
  have HL0 : Hid (SRow W0 (some ⟨b, o, none⟩) l) := HL.out.below HB.out
  have FR : Hid (∀ i, W0.frozen? ⟨w.heap.size + 1, i, none⟩ = false) := by intro i; subst hW0; simp
  clear hW0
  have lt0 : w.heap.size < W0.heap.size := by omega
  have lt1 : w.heap.size + 1 < W0.heap.size := by omega
  have f0 := FR.out 0
  have f1 := FR.out 1
  have f2 := FR.out 2
  have f3 := FR.out 3
  have f4 := FR.out 4
  have HZ := Lib.hid z
  clear z
  have TH : Hid (∀ w2, Below W0.drew.heap.size W0.drew w2 → (∀ i v, W0.cell? ⟨w.heap.size, i, none⟩ = some v → w2.cell? ⟨w.heap.size, i, none⟩ = some v) ∧ (∀ i v, W0.cell? ⟨w.heap.size + 1, i, none⟩ = some v → w2.cell? ⟨w.heap.size + 1, i, none⟩ = some v) ∧ (∀ i, w2.frozen? ⟨w.heap.size + 1, i, none⟩ = false)) := by
    intro w2 hb
    have hz := HZ.out
    refine ⟨fun i v h => ?_, fun i v h => ?_, fun i => ?_⟩
    · exact (hb.cell (p := ⟨w.heap.size, i, none⟩) (by simp; omega)).trans h
    · exact (hb.cell (p := ⟨w.heap.size + 1, i, none⟩) (by simp; omega)).trans h
    · exact (hb.frozen (p := ⟨w.heap.size + 1, i, none⟩) (by simp; omega)).trans (FR.out i)
  have C := Lib.hid (And.intro c0 (And.intro c1 (And.intro c2 (And.intro c3 c4))))
  have D := Lib.hid (And.intro d0 (And.intro d1 (And.intro d2 (And.intro d3 d4))))
  go_region_with (go_at_call 143; refine (K.out _ HL0.out.drew).mono ?_; rintro e2 w2 ⟨g, cap, rfl, ho, hb⟩; obtain ⟨t1, t2, t3⟩ := TH.out _ hb; have x0 := t1 0 _ C.out.1; have x1 := t1 1 _ C.out.2.1; have x2 := t1 2 _ C.out.2.2.1; have x3 := t1 3 _ C.out.2.2.2.1; have x4 := t1 4 _ C.out.2.2.2.2; have y0 := t2 0 _ D.out.1; have y1 := t2 1 _ D.out.2.1; have y2 := t2 2 _ D.out.2.2.1; have y3 := t2 3 _ D.out.2.2.2.1; have y4 := t2 4 _ D.out.2.2.2.2; have g0 := t3 0; have g1 := t3 1; have g2 := t3 2; have g3 := t3 3; have g4 := t3 4; clear t1 t2 t3; have HBB := Lib.hid hb; have HOO := Lib.hid ho; clear hb ho)
  all_goals
    go_wp2
    have hz := HZ.out
    have B2 : Below w.heap.size w w2 := HB.out.trans ((Below.refl w.heap.size W0).drew.trans (HBB.out.mono (show w.heap.size ≤ W0.heap.size by omega)))
    have O2 : OwnF w2 w.heap.size g cap l := HOO.out.base (show w.heap.size ≤ W0.heap.size by omega)
    have gl : w.heap.size + 1 < g := by have h : W0.heap.size ≤ g := HOO.out.lt.1; omega
    exact bodyPost_ret (v := fldV X Y W H (some ⟨g, 0, none⟩) l.length cap) (by simp [results, Tryz.results107, go_sem, *]) rfl ⟨g, cap, rfl, (by have hgg := O2.lt; repeat (first | with_reducible exact O2 | with_reducible refine OwnF.drew ?_ | with_reducible refine OwnF.drewN ?_ _ | (with_reducible refine OwnF.setCell ?_ ?_ _; rotate_left; focus (first | omega | (simp <;> omega))) | with_reducible refine OwnF.alloc ?_ _)), (by have hszz := B2.size; repeat (first | with_reducible exact B2 | with_reducible apply Below.drew | with_reducible refine below_drewN ?_ _ | (with_reducible refine Below.setCell ?_ ?_ _; rotate_left; focus (first | omega | (simp <;> omega))) | (with_reducible refine Below.alloc ?_ ?_ _; rotate_left; focus (first | omega | (simp <;> omega)))))⟩
end Go.Proofs.YtimhpmccmafnpaaGreat

namespace Go.Proofs.YtimhpmccmafnpaaGreat
open Go.ChangeShapes Go.WideShapes Go.ChangeAt Go.RowKit
set_option linter.unusedVariables false

theorem run_store_float (P : Program) (w : World) (a : Addr) (m : Mode) (k : FloatKind) (n : Nat) : (store a (.float k n) m).run P w = stored P w a (.float k n) m := run_store P w a _ m rfl
attribute [go_sem] run_store_float

/-- block 'k' is just a field -/
def Fld (w : World) (k : Nat) (X Y W H : Int) (v : Value) : Prop := w.heap[k]? = some (.cells #[.int .i64 X, .int .i64 Y, .int .i64 W, .int .i64 H, v] /-T-/78 (0, 0))
section
variable {w w' : World} {k : Nat} {X Y W H : Int} {v : Value}
theorem Fld.lt (h : Fld w k X Y W H v) : k < w.heap.size := by
  rcases Nat.lt_or_ge k w.heap.size with hlt | hge
  · exact hlt
  · unfold Fld at h; rw [Array.getElem?_eq_none hge] at h; cases h
theorem Fld.cell (h : Fld w k X Y W H v) (i : Nat) : w.cell? ⟨k, i, none⟩ = (#[.int .i64 X, .int .i64 Y, .int .i64 W, .int .i64 H, v] : Array Value)[i]? := cell_of_row w k i _ _ _ h
theorem Fld.cells (h : Fld w k X Y W H v) : w.cell? ⟨k, 0, none⟩ = some (.int .i64 X) ∧ w.cell? ⟨k, 1, none⟩ = some (.int .i64 Y) ∧ w.cell? ⟨k, 2, none⟩ = some (.int .i64 W) ∧ w.cell? ⟨k, 3, none⟩ = some (.int .i64 H) ∧ w.cell? ⟨k, 4, none⟩ = some v :=
  ⟨h.cell 0, h.cell 1, h.cell 2, h.cell 3, h.cell 4⟩
theorem Fld.frozen (h : Fld w k X Y W H v) (i : Nat) : w.frozen? ⟨k, i, none⟩ = false := frozen_of_row w k i _ _ h
theorem Fld.below {B : Nat} (h : Fld w k X Y W H v) (hb : Below B w w') (hk : k < B) : Fld w' k X Y W H v := (hb.block k hk).trans h
theorem Fld.new (w : World) (X Y W H : Int) (v : Value) : Fld (w.alloc (.cells #[.int .i64 X, .int .i64 Y, .int .i64 W, .int .i64 H, v] /-T-/78)) w.heap.size X Y W H v := heap_alloc_new w _
theorem Fld.alloc (h : Fld w k X Y W H v) (o : Obj) : Fld (w.alloc o) k X Y W H v := (Below.heap_alloc w o k h.lt).trans h
theorem Fld.drew (h : Fld w k X Y W H v) : Fld w.drew k X Y W H v := h
theorem Fld.drewN (h : Fld w k X Y W H v) (n : Nat) : Fld (w.drewN n) k X Y W H v := h
theorem Fld.setCell (h : Fld w k X Y W H v) {p : Addr} (hp : k ≠ p.block) (u : Value) : Fld (w.setCell p u) k X Y W H v := (Below.heap_setCell w p u k hp).trans h
theorem Fld.grown {row : Option Nat} (h : Fld w k X Y W H v) (hb : w.grownBy w' row) (hg : some k ≠ row) : Fld w' k X Y W H v := (hb.block k h.lt hg).trans h
theorem Fld.set0 (h : Fld w k X Y W H v) (u : Int) : Fld (w.setCell ⟨k, 0, none⟩ (.int .i64 u)) k u Y W H v := by
  unfold Fld at *; exact heap_setCell_same w k 0 _ _ _ h
theorem Fld.set1 (h : Fld w k X Y W H v) (u : Int) : Fld (w.setCell ⟨k, 1, none⟩ (.int .i64 u)) k X u W H v := by
  unfold Fld at *; exact heap_setCell_same w k 1 _ _ _ h
theorem Fld.set2 (h : Fld w k X Y W H v) (u : Int) : Fld (w.setCell ⟨k, 2, none⟩ (.int .i64 u)) k X Y u H v := by
  unfold Fld at *; exact heap_setCell_same w k 2 _ _ _ h
theorem Fld.set3 (h : Fld w k X Y W H v) (u : Int) : Fld (w.setCell ⟨k, 3, none⟩ (.int .i64 u)) k X Y W u v := by
  unfold Fld at *; exact heap_setCell_same w k 3 _ _ _ h
theorem Fld.set4 (h : Fld w k X Y W H v) (u : Value) : Fld (w.setCell ⟨k, 4, none⟩ u) k X Y W H u := by
  unfold Fld at *; exact heap_setCell_same w k 4 _ _ _ h
end
theorem two_fields (w : World) (X Y W H : Int) (v : Value) : ∀ W0, W0 = (w.alloc (.cells #[.int .i64 X, .int .i64 Y, .int .i64 W, .int .i64 H, v] /-T-/78)).alloc (.cells #[.int .i64 0, .int .i64 0, .int .i64 0, .int .i64 0, .slice none 0 0] /-T-/78) →
    Fld W0 w.heap.size X Y W H v ∧ Fld W0 (w.heap.size + 1) 0 0 0 0 (.slice none 0 0) ∧ Below w.heap.size w W0 ∧ W0.heap.size = w.heap.size + 2 := by
  rintro _ rfl
  refine ⟨(Fld.new w X Y W H v).alloc _, ?_, (by repeat (first | with_reducible exact Below.refl _ _ | with_reducible apply Below.drew | with_reducible refine below_drewN ?_ _ | (with_reducible refine Below.setCell ?_ ?_ _; rotate_left; focus (first | omega | (simp <;> omega))) | (with_reducible refine Below.alloc ?_ ?_ _; rotate_left; focus (first | omega | (simp <;> omega))))), by simp⟩
  have := Fld.new (w.alloc (.cells #[.int .i64 X, .int .i64 Y, .int .i64 W, .int .i64 H, v] /-T-/78)) 0 0 0 0 (.slice none 0 0)
  simpa using this
end Go.Proofs.YtimhpmccmafnpaaGreat

namespace Go.Proofs.YtimhpmccmafnpaaGreat
open Go.ChangeShapes Go.WideShapes Go.ChangeAt Go.RowKit
open Ieee.Format (fin finE htE allFin allHt all_true all_false finE_ok finE_bad htE_ok htE_far htE_bad mulF subF addF)
set_option linter.unusedVariables false

theorem OwnF.store {w : World} {B g cap : Nat} {m : List Nat} (h : OwnF w B g cap m) (k x : Nat) (hx : x < 4294967296) : OwnF (w.setCell ⟨g, k, none⟩ (.float .f32 x)) B g cap (m.set k x) := by
  refine ⟨?_, fun y hy => ?_⟩
  · have := (h.1.stored k (.float .f32 x)).1
    rw [List.length_set]
    have e : fls (m.set k x) = (fls m).set k (.float .f32 x) := by unfold fls; rw [List.map_set]
    rw [e]; exact this
  · rcases List.mem_or_eq_of_mem_set hy with hy | hy
    · exact h.2 y hy
    · rw [hy]; exact hx
theorem OwnF.at_ {w : World} {B g cap : Nat} {m : List Nat} (h : OwnF w B g cap m) {k : Nat} (hk : k < m.length) : w.cell? ⟨g, k, none⟩ = some (.float .f32 (m.getD k 0)) ∧ w.frozen? ⟨g, k, none⟩ = false := by
  refine ⟨?_, h.1.frozenAt k⟩
  rw [h.1.cellAt k (by omega)]
  unfold fls
  rw [List.getElem?_map, List.getD_eq_getElem?_getD, List.getElem?_eq_getElem hk]
  rfl
theorem SRow.at_ {w : World} {b o : Nat} {l : List Nat} (h : SRow w (some ⟨b, o, none⟩) l) {k : Nat} (hk : k < l.length) : w.cell? ⟨b, o + k, none⟩ = some (.float .f32 (l.getD k 0)) := by
  rcases h.2 with h | ⟨b', o', e, hc⟩
  · subst h; simp at hk
  · cases e; exact hc k hk

/-- the first 'k' have been turned -/
def upTo (φ : Nat → Nat) (l : List Nat) (k : Nat) : List Nat := (l.take k).map φ ++ l.drop k
theorem upTo_zero (φ : Nat → Nat) (l : List Nat) : upTo φ l 0 = l := by simp [upTo]
theorem upTo_all (φ : Nat → Nat) (l : List Nat) : upTo φ l l.length = l.map φ := by simp [upTo]
theorem upTo_len (φ : Nat → Nat) (l : List Nat) (k : Nat) : (upTo φ l k).length = l.length := by
  unfold upTo; rw [List.length_append, List.length_map, List.length_take, List.length_drop]; omega
theorem upTo_succ (φ : Nat → Nat) (l : List Nat) (k : Nat) (hk : k < l.length) : (upTo φ l k).set k (φ (l.getD k 0)) = upTo φ l (k + 1) := by
  unfold upTo
  have h1 : ((l.take k).map φ).length = k := by rw [List.length_map, List.length_take]; omega
  have hd := List.drop_eq_getElem_cons hk
  rw [List.set_append_right _ _ (by omega), h1, Nat.sub_self, List.take_succ_eq_append_getElem hk, List.map_append, List.append_assoc]
  rw [List.getD_eq_getElem?_getD, List.getElem?_eq_getElem hk, hd]
  rfl

structure EachInv (w wr : World) (k5 g cap : Nat) (X Y W H : Int) (n : Nat) (m : List Nat) : Prop where
  fc : Fld wr k5 X Y W H (.slice (some ⟨g, 0, none⟩) n cap)
  fb : Fld wr (w.heap.size + 1) 0 0 0 0 (.slice none 0 0)
  own : OwnF wr w.heap.size g cap m
  below : Below w.heap.size w wr
theorem EachInv.store {w wr : World} {k5 g cap n : Nat} {X Y W H : Int} {m : List Nat} (h : EachInv w wr k5 g cap X Y W H n m) (hg : g ≠ k5) (hg1 : w.heap.size + 1 < g) (k x : Nat) (hx : x < 4294967296) :
    EachInv w (wr.setCell ⟨g, k, none⟩ (.float .f32 x)).drew k5 g cap X Y W H n (m.set k x) :=
  ⟨(h.fc.setCell (p := ⟨g, k, none⟩) (Ne.symm hg) _).drew, (h.fb.setCell (p := ⟨g, k, none⟩) (by show w.heap.size + 1 ≠ g; omega) _).drew, (h.own.store k x hx).drew, (h.below.setCell (p := ⟨g, k, none⟩) (by show w.heap.size ≤ g; omega) _).drew⟩

set_option maxRecDepth 100000 in
set_option maxHeartbeats 2000000 in
theorem each_any (gn : Nat) (caps : Array Value) (φ : Nat → Nat) (X Y W H : Int) (b o c : Nat) (l : List Nat) (w : World) (hl : SRow w (some ⟨b, o, none⟩) l) (h0 : l ≠ [])
    (eg : ∀ args w, (callFunc gn args).run Tryz.prog w = .ok (.enter gn args) w) (hφ : ∀ x ∈ l, φ x < 4294967296)
    (hf : ∀ x ∈ l, ∀ W', Below w.heap.size w W' → Calls Tryz.prog gn (#[.float .f32 x] ++ caps) W' fun e w' => e = .returned (.float .f32 (φ x)) ∧ W' = w') :
    Calls Tryz.prog 101 #[fldV X Y W H (some ⟨b, o, none⟩) l.length c, .func (.func gn) #[] caps] w fun e w' => NewF w.heap.size X Y W H (l.map φ) w e w' := by
  have HL := Lib.hid hl
  have HF := Lib.hid hf
  have HP := Lib.hid hφ
  have H0 := Lib.hid h0
  have KC := Lib.hid (fun w h => copy_any X Y W H b o c l w h h0)
  clear hl hf hφ h0
  have HB0 : Below w.heap.size w ((w.alloc (.cells #[.int .i64 X, .int .i64 Y, .int .i64 W, .int .i64 H, .slice (some ⟨b, o, none⟩) l.length c] /-T-/78)).alloc (.cells #[.int .i64 0, .int .i64 0, .int .i64 0, .int .i64 0, .slice none 0 0] /-T-/78)) := (by repeat (first | with_reducible exact Below.refl _ _ | with_reducible apply Below.drew | with_reducible refine below_drewN ?_ _ | (with_reducible refine Below.setCell ?_ ?_ _; rotate_left; focus (first | omega | (simp <;> omega))) | (with_reducible refine Below.alloc ?_ ?_ _; rotate_left; focus (first | omega | (simp <;> omega)))))
  have HB := Lib.hid HB0
  clear HB0
  go_enter Tryz.func101, Tryz.ntmps101
  go_wp2_with fail
  refine (KC.out _ (HL.out.below HB.out)).mono ?_
  rintro e w1 ⟨g, cap, rfl, ho, hb⟩
  have FA : Fld w1 w.heap.size X Y W H (.slice (some ⟨b, o, none⟩) l.length c) := ((Fld.new w X Y W H (.slice (some ⟨b, o, none⟩) l.length c)).alloc _).below hb (by simp; omega)
  have FB : Fld w1 (w.heap.size + 1) 0 0 0 0 (.slice none 0 0) := by
    have := (Fld.new (w.alloc (.cells #[.int .i64 X, .int .i64 Y, .int .i64 W, .int .i64 H, .slice (some ⟨b, o, none⟩) l.length c] /-T-/78)) 0 0 0 0 (.slice none 0 0)).below hb (by simp)
    simpa using this
  have B1 : Below w.heap.size w w1 := HB.out.trans (hb.mono (by simp; omega))
  have O1 : OwnF w1 w.heap.size g cap l := ho.base (by simp; omega)
  have gl : w.heap.size + 1 < g := by have := ho.lt.1; simp at this; omega
  have zl : w.heap.size + 1 < w1.heap.size := by have := hb.size; simp at this; omega
  clear hb ho
  obtain ⟨a0, a1, a2, a3, a4⟩ := FA.cells
  have FAH := Lib.hid FA
  have FBH := Lib.hid FB
  have B1H := Lib.hid B1
  have O1H := Lib.hid O1
  clear FA FB B1 O1
  have ltq0 : w.heap.size < w1.heap.size := by omega
  have ltq1 : w.heap.size + 1 < w1.heap.size := by omega
  go_wp2_with fail
  generalize hW2 : w1.alloc (.cells #[.int .i64 X, .int .i64 Y, .int .i64 W, .int .i64 H, .slice (some ⟨g, 0, none⟩) l.length cap] /-T-/78) = W2 at *
  generalize hk5 : w1.heap.size = k5 at *
  have FC : Fld W2 k5 X Y W H (.slice (some ⟨g, 0, none⟩) l.length cap) := by subst hW2 hk5; exact Fld.new _ _ _ _ _ _
  have FB2 : Fld W2 (w.heap.size + 1) 0 0 0 0 (.slice none 0 0) := by subst hW2; exact FBH.out.alloc _
  have O2 : OwnF W2 w.heap.size g cap l := by subst hW2; exact O1H.out.alloc _
  have B2 : Below w.heap.size w W2 := by subst hW2; exact B1H.out.alloc (by omega) _
  have gk : g ≠ k5 := by have := O1H.out.lt.2; omega
  clear hW2 a0 a1 a2 a3 a4 FAH FBH B1H O1H
  have I0 : EachInv w W2 k5 g cap X Y W H l.length (upTo φ l 0) := ⟨FC, FB2, by rw [upTo_zero]; exact O2, B2⟩
  clear FC FB2 O2 B2
  have hlen : Hid (l.length ≤ 1099511627776) := HL.out.1.1
  have hl2 := hlen.out
  go_loopw [6, 7, 13] (fun _ _ i wr => ∃ k : Nat, k ≤ l.length ∧ i = .int .i64 k ∧ EachInv w wr k5 g cap X Y W H l.length (upTo φ l k)) (fun _ _ i _ => l.length - (intOf i).toNat)
  case atStart => exact ⟨0, by omega, rfl, I0⟩
  case round =>
    clear I0
    obtain ⟨k, hk, rfl, I⟩ := hrel
    by_cases hlt : k < l.length
    · have hcell := (HL.out.below I.below).at_ hlt
      have howc := (I.own.at_ (k := k) (by rw [upTo_len]; exact hlt))
      have hxm : Hid (l.getD k 0 ∈ l) := by
        unfold Hid
        rw [List.getD_eq_getElem?_getD, List.getElem?_eq_getElem hlt]; exact List.getElem_mem hlt
      have hst : Hid (EachInv w (wr.setCell ⟨g, k, none⟩ (.float .f32 (φ (l.getD k 0)))).drew k5 g cap X Y W H l.length (upTo φ l (k + 1))) := by
        have := I.store gk gl k (φ (l.getD k 0)) (HP.out _ hxm.out)
        rw [upTo_succ φ l k hlt] at this
        exact this
      have hcall : Hid (∀ W', Below w.heap.size w W' → Calls Tryz.prog gn (#[.float .f32 (l.getD k 0)] ++ caps) W' fun e w' => e = .returned (.float .f32 (φ (l.getD k 0))) ∧ W' = w') := HF.out _ hxm.out
      have c4 := I.fc.cells.2.2.2.2
      have IB := Lib.hid I.below
      obtain ⟨hown, hfro⟩ := howc
      clear I hxm
      generalize l.getD k 0 = x at *
      generalize φ x = y at *
      generalize (upTo φ l k).getD k 0 = z at *
      go_wp2_with fail
      go_region_with (go_at_fn gn; refine (hcall.out _ IB.out.drew).mono ?_; rintro e2 w2 ⟨rfl, rfl⟩)
      all_goals
        go_wp2
        go_roundw
        case rel => exact ⟨k + 1, by omega, by go_num, hst.out⟩
        case measure => simp [intOf]; omega
    · have hke : k = l.length := by omega
      have FI := Lib.hid (hke ▸ I)
      clear hke
      have FC := FI.out.fc
      obtain ⟨c0, c1, c2, c3, c4⟩ := FC.cells
      have FB := FI.out.fb
      obtain ⟨d0, d1, d2, d3, d4⟩ := FB.cells
      have qf0 := FB.frozen 0
      have qf1 := FB.frozen 1
      have qf2 := FB.frozen 2
      have qf3 := FB.frozen 3
      have qf4 := FB.frozen 4
      have BW := FI.out.below
      have OW := FI.out.own
      clear FC FB I
      have BH := Lib.hid BW
      have OH := Lib.hid OW
      clear BW OW
      go_wp2
      have B2 := BH.out
      have O2 := OH.out
      rw [upTo_all] at O2
      refine bodyPost_ret (v := fldV X Y W H (some ⟨g, 0, none⟩) (l.map φ).length cap) (by simp [results, Tryz.results101, go_sem, *]) rfl ⟨g, cap, rfl, (by have hgg := O2.lt; repeat (first | with_reducible exact O2 | with_reducible refine OwnF.drew ?_ | with_reducible refine OwnF.drewN ?_ _ | (with_reducible refine OwnF.setCell ?_ ?_ _; rotate_left; focus (first | omega | (simp <;> omega))) | with_reducible refine OwnF.alloc ?_ _)), (by have hszz := B2.size; repeat (first | with_reducible exact B2 | with_reducible apply Below.drew | with_reducible refine below_drewN ?_ _ | (with_reducible refine Below.setCell ?_ ?_ _; rotate_left; focus (first | omega | (simp <;> omega))) | (with_reducible refine Below.alloc ?_ ?_ _; rotate_left; focus (first | omega | (simp <;> omega)))))⟩
end Go.Proofs.YtimhpmccmafnpaaGreat

namespace Go.Proofs.YtimhpmccmafnpaaGreat
open Go.ChangeShapes Go.WideShapes Go.ChangeAt Go.RowKit
open Ieee.Format (fin finE htE allFin allHt all_true all_false finE_ok finE_bad htE_ok htE_far htE_bad mulF subF addF)
set_option linter.unusedVariables false

theorem result_ok (X Y W H : Int) (b o c : Nat) (l : List Nat) (w : World) (hl : SRow w (some ⟨b, o, none⟩) l) (hh : ∀ j, j < l.length → (l.getD j 0) % 2147483648 ≤ 1233125376) :
    Calls Tryz.prog 94 #[fldV X Y W H (some ⟨b, o, none⟩) l.length c] w fun e w' => e = .returned (.tuple #[fldV X Y W H (some ⟨b, o, none⟩) l.length c, .int .i64 0]) ∧ Below w.heap.size w w' := by
  have HL := Lib.hid hl
  have HH := Lib.hid hh
  have hlen := hl.1.1
  clear hl hh
  go_enter Tryz.func94, Tryz.ntmps94
  go_wp2_with fail
  generalize hW0 : (w.alloc (.cells #[.int .i64 X, .int .i64 Y, .int .i64 W, .int .i64 H, .slice (some ⟨b, o, none⟩) l.length c] /-T-/78)).alloc (.cells #[.int .i64 0, .int .i64 0, .int .i64 0, .int .i64 0, .slice none 0 0] /-T-/78) = W0 at *
  obtain ⟨FA, FB, B0, hz⟩ := two_fields w X Y W H (.slice (some ⟨b, o, none⟩) l.length c) W0 hW0.symm
  clear hW0
  have HFA := Lib.hid FA
  have HFB := Lib.hid FB
  have HB := Lib.hid B0
  have HL0 : Hid (SRow W0 (some ⟨b, o, none⟩) l) := HL.out.below B0
  clear FA FB B0 hz
  go_loop [5, 9] (fun _ i => ∃ k : Nat, k ≤ l.length ∧ i = .int .i64 k) (fun _ i => l.length - (intOf i).toNat)
  case atStart => exact ⟨0, by omega, rfl⟩
  case round =>
    obtain ⟨k, hk, rfl⟩ := hrel
    by_cases hlt : k < l.length
    · have hcell := HL0.out.at_ hlt
      have hx := HH.out k hlt
      generalize l.getD k 0 = x at *
      have KH := Lib.hid (fun w => height_any x w)
      rw [show decide (x % 2147483648 ≤ 1233125376) = true from decide_eq_true hx] at KH
      clear hx
      go_wp2_with (go_at_call 38; refine (KH.out _).mono ?_; rintro e w' ⟨rfl, rfl⟩)
      go_round
      case rel => exact ⟨k + 1, by omega, by go_num⟩
      case measure => simp [intOf]; omega
    · have FA := HFA.out
      have FB := HFB.out
      obtain ⟨c0, c1, c2, c3, c4⟩ := FA.cells
      obtain ⟨d0, d1, d2, d3, d4⟩ := FB.cells
      have qf0 := FB.frozen 0
      have qf1 := FB.frozen 1
      have qf2 := FB.frozen 2
      have qf3 := FB.frozen 3
      have qf4 := FB.frozen 4
      clear FA FB
      go_wp2
      have B2 := HB.out
      exact bodyPost_ret (v := .tuple #[fldV X Y W H (some ⟨b, o, none⟩) l.length c, .int .i64 0]) (by simp [results, Tryz.results94, go_sem, *]) rfl ⟨rfl, (by have hszz := B2.size; repeat (first | with_reducible exact B2 | with_reducible apply Below.drew | with_reducible refine below_drewN ?_ _ | (with_reducible refine Below.setCell ?_ ?_ _; rotate_left; focus (first | omega | (simp <;> omega))) | (with_reducible refine Below.alloc ?_ ?_ _; rotate_left; focus (first | omega | (simp <;> omega)))))⟩

theorem result_no (X Y W H : Int) (b o c : Nat) (l : List Nat) (w : World) (hl : SRow w (some ⟨b, o, none⟩) l) (hh : allHt l = false) :
    Calls Tryz.prog 94 #[fldV X Y W H (some ⟨b, o, none⟩) l.length c] w fun e w' => e = .returned (.tuple #[fldV 0 0 0 0 none 0 0, .int .i64 3]) ∧ Below w.heap.size w w' := by
  have HL := Lib.hid hl
  have HH := Lib.hid hh
  have hlen := hl.1.1
  clear hl hh
  go_enter Tryz.func94, Tryz.ntmps94
  go_wp2_with fail
  generalize hW0 : (w.alloc (.cells #[.int .i64 X, .int .i64 Y, .int .i64 W, .int .i64 H, .slice (some ⟨b, o, none⟩) l.length c] /-T-/78)).alloc (.cells #[.int .i64 0, .int .i64 0, .int .i64 0, .int .i64 0, .slice none 0 0] /-T-/78) = W0 at *
  obtain ⟨FA, FB, B0, hz⟩ := two_fields w X Y W H (.slice (some ⟨b, o, none⟩) l.length c) W0 hW0.symm
  clear hW0
  have HFB := Lib.hid FB
  have HB := Lib.hid B0
  have HL0 : Hid (SRow W0 (some ⟨b, o, none⟩) l) := HL.out.below B0
  clear FA FB B0 hz
  go_loop [5, 9] (fun _ i => ∃ k : Nat, k ≤ l.length ∧ i = .int .i64 k ∧ ∀ j, j < k → (l.getD j 0) % 2147483648 ≤ 1233125376) (fun _ i => l.length - (intOf i).toNat)
  case atStart => exact ⟨0, by omega, rfl, by omega⟩
  case round =>
    obtain ⟨k, hk, rfl, hf⟩ := hrel
    have HF := Lib.hid hf
    clear hf
    by_cases hlt : k < l.length
    · have hcell := HL0.out.at_ hlt
      by_cases hx : (l.getD k 0) % 2147483648 ≤ 1233125376
      · have HX := Lib.hid hx
        have HE : Hid (∀ j, j < k + 1 → (l.getD j 0) % 2147483648 ≤ 1233125376) := fun j hj => by
          by_cases c : j = k
          · subst c; exact HX.out
          · exact HF.out j (by omega)
        clear HX
        generalize l.getD k 0 = x at *
        have KH := Lib.hid (fun w => height_any x w)
        rw [show decide (x % 2147483648 ≤ 1233125376) = true from decide_eq_true hx] at KH
        clear hx
        go_wp2_with (go_at_call 38; refine (KH.out _).mono ?_; rintro e w' ⟨rfl, rfl⟩)
        go_round
        case rel => exact ⟨k + 1, by omega, by go_num, HE.out⟩
        case measure => simp [intOf]; omega
      · generalize l.getD k 0 = x at *
        have KH := Lib.hid (fun w => height_any x w)
        rw [show decide (x % 2147483648 ≤ 1233125376) = false from decide_eq_false hx] at KH
        clear hx
        have FB := HFB.out
        obtain ⟨d0, d1, d2, d3, d4⟩ := FB.cells
        have qf0 := FB.frozen 0
        have qf1 := FB.frozen 1
        have qf2 := FB.frozen 2
        have qf3 := FB.frozen 3
        have qf4 := FB.frozen 4
        clear FB
        go_wp2_with (go_at_call 38; refine (KH.out _).mono ?_; rintro e w' ⟨rfl, rfl⟩)
        have B2 := HB.out
        exact bodyPost_ret (v := .tuple #[fldV 0 0 0 0 none 0 0, .int .i64 3]) (by simp [results, Tryz.results94, go_sem, *]) rfl ⟨rfl, (by have hszz := B2.size; repeat (first | with_reducible exact B2 | with_reducible apply Below.drew | with_reducible refine below_drewN ?_ _ | (with_reducible refine Below.setCell ?_ ?_ _; rotate_left; focus (first | omega | (simp <;> omega))) | (with_reducible refine Below.alloc ?_ ?_ _; rotate_left; focus (first | omega | (simp <;> omega)))))⟩
    · have hke : k = l.length := by omega
      have hall := all_true (p := fun x => x % 2147483648 ≤ 1233125376) (l := l) (by rw [← hke]; exact HF.out)
      have : allHt l = true := hall
      rw [HH.out] at this
      cases this
end Go.Proofs.YtimhpmccmafnpaaGreat

namespace Go.Proofs.YtimhpmccmafnpaaGreat
open Go.ChangeShapes Go.WideShapes Go.ChangeAt Go.RowKit
open Ieee.Format (fin finE htE allFin allHt all_true all_false finE_ok finE_bad htE_ok htE_far htE_bad mulF subF addF)
set_option linter.unusedVariables false

theorem ret_f32 {a b : Nat} (h : a = b) : Ending.returned (.float .f32 a) = .returned (.float .f32 b) := by rw [h]

/-- the number of a cell -/
def cellNo (X Y W x y : Int) : Int := (y - Y) * W + x - X

end Go.Proofs.YtimhpmccmafnpaaGreat

namespace Go.Proofs.YtimhpmccmafnpaaGreat
open Go.ChangeShapes Go.WideShapes Go.ChangeAt Go.RowKit
open Ieee.Format (fin finE htE allFin allHt all_true all_false finE_ok finE_bad htE_ok htE_far htE_bad mulF subF addF)
set_option linter.unusedVariables false

end Go.Proofs.YtimhpmccmafnpaaGreat
