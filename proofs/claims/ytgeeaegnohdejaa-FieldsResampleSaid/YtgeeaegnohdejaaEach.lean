import Derived.Test.YtgeeaegnohdejaaFld
import Derived.StillTailTactics
import Derived.Shelf.Abstract
namespace Go.Proofs.Ytgeeaegnohdejaa
open Go.ChangeShapes Go.WideShapes Go.ChangeAt Go.RowKit
open Ieee.Format (fin finE htE allFin allHt all_true all_false finE_ok finE_bad htE_ok htE_far htE_bad mulF subF addF)
set_option linter.unusedVariables false

theorem OwnF.store {w : World} {B g cap : Nat} {m : List Nat} (h : OwnF w B g cap m) (k x : Nat) (hx : x < 4294967296) : OwnF (w.setCell ⟨g, k, none⟩ (.float .f32 x)) B g cap (m.set k x) := by
  refine ⟨?_, fun y hy => ?_⟩
  · have := (h.1.stored k (.float .f32 x)).1
    rw [List.length_set]
    have e : fls (m.set k x) = (fls m).set k (.float .f32 x) := by unfold fls; rw [List.map_set]
    rw [e]; exact this
  · rcases List.mem_or_eq_of_mem_set hy with hy | hy
    · exact h.2 y hy
    · rw [hy]; exact hx
theorem OwnF.at_ {w : World} {B g cap : Nat} {m : List Nat} (h : OwnF w B g cap m) {k : Nat} (hk : k < m.length) : w.cell? ⟨g, k, none⟩ = some (.float .f32 (m.getD k 0)) ∧ w.frozen? ⟨g, k, none⟩ = false := by
  refine ⟨?_, h.1.frozenAt k⟩
  rw [h.1.cellAt k (by omega)]
  unfold fls
  rw [List.getElem?_map, List.getD_eq_getElem?_getD, List.getElem?_eq_getElem hk]
  rfl
theorem SRow.at_ {w : World} {b o : Nat} {l : List Nat} (h : SRow w (some ⟨b, o, none⟩) l) {k : Nat} (hk : k < l.length) : w.cell? ⟨b, o + k, none⟩ = some (.float .f32 (l.getD k 0)) := by
  rcases h.2 with h | ⟨b', o', e, hc⟩
  · subst h; simp at hk
  · cases e; exact hc k hk

/-- the first 'k' have been turned -/
def upTo (φ : Nat → Nat) (l : List Nat) (k : Nat) : List Nat := (l.take k).map φ ++ l.drop k
theorem upTo_zero (φ : Nat → Nat) (l : List Nat) : upTo φ l 0 = l := by simp [upTo]
theorem upTo_all (φ : Nat → Nat) (l : List Nat) : upTo φ l l.length = l.map φ := by simp [upTo]
theorem upTo_len (φ : Nat → Nat) (l : List Nat) (k : Nat) : (upTo φ l k).length = l.length := by
  unfold upTo; rw [List.length_append, List.length_map, List.length_take, List.length_drop]; omega
theorem upTo_succ (φ : Nat → Nat) (l : List Nat) (k : Nat) (hk : k < l.length) : (upTo φ l k).set k (φ (l.getD k 0)) = upTo φ l (k + 1) := by
  unfold upTo
  have h1 : ((l.take k).map φ).length = k := by rw [List.length_map, List.length_take]; omega
  have hd := List.drop_eq_getElem_cons hk
  rw [List.set_append_right _ _ (by omega), h1, Nat.sub_self, List.take_succ_eq_append_getElem hk, List.map_append, List.append_assoc]
  rw [List.getD_eq_getElem?_getD, List.getElem?_eq_getElem hk, hd]
  rfl

structure EachInv (w wr : World) (k5 g cap : Nat) (X Y W H : Int) (n : Nat) (m : List Nat) : Prop where
  fc : Fld wr k5 X Y W H (.slice (some ⟨g, 0, none⟩) n cap)
  fb : Fld wr (w.heap.size + 1) 0 0 0 0 (.slice none 0 0)
  own : OwnF wr w.heap.size g cap m
  below : Below w.heap.size w wr
theorem EachInv.store {w wr : World} {k5 g cap n : Nat} {X Y W H : Int} {m : List Nat} (h : EachInv w wr k5 g cap X Y W H n m) (hg : g ≠ k5) (hg1 : w.heap.size + 1 < g) (k x : Nat) (hx : x < 4294967296) :
    EachInv w (wr.setCell ⟨g, k, none⟩ (.float .f32 x)).drew k5 g cap X Y W H n (m.set k x) :=
  ⟨(h.fc.setCell (p := ⟨g, k, none⟩) (Ne.symm hg) _).drew, (h.fb.setCell (p := ⟨g, k, none⟩) (by show w.heap.size + 1 ≠ g; omega) _).drew, (h.own.store k x hx).drew, (h.below.setCell (p := ⟨g, k, none⟩) (by show w.heap.size ≤ g; omega) _).drew⟩

set_option maxRecDepth 100000 in
set_option maxHeartbeats 2000000 in
theorem each_any (gn : Nat) (caps : Array Value) (φ : Nat → Nat) (X Y W H : Int) (b o c : Nat) (l : List Nat) (w : World) (hl : SRow w (some ⟨b, o, none⟩) l) (h0 : l ≠ [])
    (eg : ∀ args w, (callFunc gn args).run Try.prog w = .ok (.enter gn args) w) (hφ : ∀ x ∈ l, φ x < 4294967296)
    (hf : ∀ x ∈ l, ∀ W', Below w.heap.size w W' → Calls Try.prog gn (#[.float .f32 x] ++ caps) W' fun e w' => e = .returned (.float .f32 (φ x)) ∧ W' = w') :
    Calls Try.prog 92 #[fldV X Y W H (some ⟨b, o, none⟩) l.length c, .func (.func gn) #[] caps] w fun e w' => NewF w.heap.size X Y W H (l.map φ) w e w' := by
  have HL := Lib.hid hl
  have HF := Lib.hid hf
  have HP := Lib.hid hφ
  have H0 := Lib.hid h0
  have KC := Lib.hid (fun w h => copy_any X Y W H b o c l w h h0)
  clear hl hf hφ h0
  have HB0 : Below w.heap.size w ((w.alloc (.cells #[.int .i64 X, .int .i64 Y, .int .i64 W, .int .i64 H, .slice (some ⟨b, o, none⟩) l.length c] /-T-/66)).alloc (.cells #[.int .i64 0, .int .i64 0, .int .i64 0, .int .i64 0, .slice none 0 0] /-T-/66)) := (by repeat (first | with_reducible exact Below.refl _ _ | with_reducible apply Below.drew | with_reducible refine below_drewN ?_ _ | (with_reducible refine Below.setCell ?_ ?_ _; rotate_left; focus (first | omega | (simp <;> omega))) | (with_reducible refine Below.alloc ?_ ?_ _; rotate_left; focus (first | omega | (simp <;> omega)))))
  have HB := Lib.hid HB0
  clear HB0
  go_enter Try.func92, Try.ntmps92
  go_wp2_with fail
  refine (KC.out _ (HL.out.below HB.out)).mono ?_
  rintro e w1 ⟨g, cap, rfl, ho, hb⟩
  have FA : Fld w1 w.heap.size X Y W H (.slice (some ⟨b, o, none⟩) l.length c) := ((Fld.new w X Y W H (.slice (some ⟨b, o, none⟩) l.length c)).alloc _).below hb (by simp; omega)
  have FB : Fld w1 (w.heap.size + 1) 0 0 0 0 (.slice none 0 0) := by
    have := (Fld.new (w.alloc (.cells #[.int .i64 X, .int .i64 Y, .int .i64 W, .int .i64 H, .slice (some ⟨b, o, none⟩) l.length c] /-T-/66)) 0 0 0 0 (.slice none 0 0)).below hb (by simp)
    simpa using this
  have B1 : Below w.heap.size w w1 := HB.out.trans (hb.mono (by simp; omega))
  have O1 : OwnF w1 w.heap.size g cap l := ho.base (by simp; omega)
  have gl : w.heap.size + 1 < g := by have := ho.lt.1; simp at this; omega
  have zl : w.heap.size + 1 < w1.heap.size := by have := hb.size; simp at this; omega
  clear hb ho
  obtain ⟨a0, a1, a2, a3, a4⟩ := FA.cells
  have FAH := Lib.hid FA
  have FBH := Lib.hid FB
  have B1H := Lib.hid B1
  have O1H := Lib.hid O1
  clear FA FB B1 O1
  have ltq0 : w.heap.size < w1.heap.size := by omega
  have ltq1 : w.heap.size + 1 < w1.heap.size := by omega
  go_wp2_with fail
  generalize hW2 : w1.alloc (.cells #[.int .i64 X, .int .i64 Y, .int .i64 W, .int .i64 H, .slice (some ⟨g, 0, none⟩) l.length cap] /-T-/66) = W2 at *
  generalize hk5 : w1.heap.size = k5 at *
  have FC : Fld W2 k5 X Y W H (.slice (some ⟨g, 0, none⟩) l.length cap) := by subst hW2 hk5; exact Fld.new _ _ _ _ _ _
  have FB2 : Fld W2 (w.heap.size + 1) 0 0 0 0 (.slice none 0 0) := by subst hW2; exact FBH.out.alloc _
  have O2 : OwnF W2 w.heap.size g cap l := by subst hW2; exact O1H.out.alloc _
  have B2 : Below w.heap.size w W2 := by subst hW2; exact B1H.out.alloc (by omega) _
  have gk : g ≠ k5 := by have := O1H.out.lt.2; omega
  clear hW2 a0 a1 a2 a3 a4 FAH FBH B1H O1H
  have I0 : EachInv w W2 k5 g cap X Y W H l.length (upTo φ l 0) := ⟨FC, FB2, by rw [upTo_zero]; exact O2, B2⟩
  clear FC FB2 O2 B2
  have hlen : Hid (l.length ≤ 1099511627776) := HL.out.1.1
  have hl2 := hlen.out
  go_loopw [6, 7, 13] (fun _ _ i wr => ∃ k : Nat, k ≤ l.length ∧ i = .int .i64 k ∧ EachInv w wr k5 g cap X Y W H l.length (upTo φ l k)) (fun _ _ i _ => l.length - (intOf i).toNat)
  case atStart => exact ⟨0, by omega, rfl, I0⟩
  case round =>
    clear I0
    obtain ⟨k, hk, rfl, I⟩ := hrel
    by_cases hlt : k < l.length
    · have hcell := (HL.out.below I.below).at_ hlt
      have howc := (I.own.at_ (k := k) (by rw [upTo_len]; exact hlt))
      have hxm : Hid (l.getD k 0 ∈ l) := by
        unfold Hid
        rw [List.getD_eq_getElem?_getD, List.getElem?_eq_getElem hlt]; exact List.getElem_mem hlt
      have hst : Hid (EachInv w (wr.setCell ⟨g, k, none⟩ (.float .f32 (φ (l.getD k 0)))).drew k5 g cap X Y W H l.length (upTo φ l (k + 1))) := by
        have := I.store gk gl k (φ (l.getD k 0)) (HP.out _ hxm.out)
        rw [upTo_succ φ l k hlt] at this
        exact this
      have hcall : Hid (∀ W', Below w.heap.size w W' → Calls Try.prog gn (#[.float .f32 (l.getD k 0)] ++ caps) W' fun e w' => e = .returned (.float .f32 (φ (l.getD k 0))) ∧ W' = w') := HF.out _ hxm.out
      have c4 := I.fc.cells.2.2.2.2
      have IB := Lib.hid I.below
      obtain ⟨hown, hfro⟩ := howc
      clear I hxm
      generalize l.getD k 0 = x at *
      generalize φ x = y at *
      generalize (upTo φ l k).getD k 0 = z at *
      go_wp2_with fail
      go_region_with (go_at_fn gn; refine (hcall.out _ IB.out.drew).mono ?_; rintro e2 w2 ⟨rfl, rfl⟩)
      all_goals
        go_wp2
        go_roundw
        case rel => exact ⟨k + 1, by omega, by go_num, hst.out⟩
        case measure => simp [intOf]; omega
    · have hke : k = l.length := by omega
      have FI := Lib.hid (hke ▸ I)
      clear hke
      have FC := FI.out.fc
      obtain ⟨c0, c1, c2, c3, c4⟩ := FC.cells
      have FB := FI.out.fb
      obtain ⟨d0, d1, d2, d3, d4⟩ := FB.cells
      have qf0 := FB.frozen 0
      have qf1 := FB.frozen 1
      have qf2 := FB.frozen 2
      have qf3 := FB.frozen 3
      have qf4 := FB.frozen 4
      have BW := FI.out.below
      have OW := FI.out.own
      clear FC FB I
      have BH := Lib.hid BW
      have OH := Lib.hid OW
      clear BW OW
      go_wp2
      have B2 := BH.out
      have O2 := OH.out
      rw [upTo_all] at O2
      refine bodyPost_ret (v := fldV X Y W H (some ⟨g, 0, none⟩) (l.map φ).length cap) (by simp [results, Try.results92, go_sem, *]) rfl ⟨g, cap, rfl, (by have hgg := O2.lt; repeat (first | with_reducible exact O2 | with_reducible refine OwnF.drew ?_ | with_reducible refine OwnF.drewN ?_ _ | (with_reducible refine OwnF.setCell ?_ ?_ _; rotate_left; focus (first | omega | (simp <;> omega))) | with_reducible refine OwnF.alloc ?_ _)), (by have hszz := B2.size; repeat (first | with_reducible exact B2 | with_reducible apply Below.drew | with_reducible refine below_drewN ?_ _ | (with_reducible refine Below.setCell ?_ ?_ _; rotate_left; focus (first | omega | (simp <;> omega))) | (with_reducible refine Below.alloc ?_ ?_ _; rotate_left; focus (first | omega | (simp <;> omega)))))⟩
end Go.Proofs.Ytgeeaegnohdejaa
