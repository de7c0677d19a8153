import Derived.Test.YtiiogjjjgoeghaaG05
import Derived.Test.YtiiogjjjgoeghaaG01
import Derived.Deep.RegionHeld3
import Derived.Test.YtiiogjjjgoeghaaG04
import Derived.OwnWalk
import Derived.Deep.AppendLies
import Derived.IntWalk
import Derived.BigQuiet
import Derived.Deep.QuietTactic
import Derived.Test.YtiiogjjjgoeghaaG02
namespace Go.Proofs.Ytiiogjjjgoeghaa
open Go.Shelf
open Go.ChangeShapes Go.WideShapes Go.ChangeAt Go.RowKit
open Ieee.Format (fin finE htE allFin allHt all_true all_false mulF subF addF Ht Bd smoothF smooth2 smooth_bd const_eighth const_2nd)
set_option linter.unusedVariables false

/-- the values at a cell and around it, given to a function -/
def nbr (φ : Nat → Nat → Nat → Nat → Nat → Nat) (l : List Nat) (Wn k : Nat) : Nat := φ (l.getD (k - Wn) 0) (l.getD (k + Wn) 0) (l.getD (k + 1) 0) (l.getD (k - 1) 0) (l.getD k 0)

end Go.Proofs.Ytiiogjjjgoeghaa

namespace Go.Proofs.Ytiiogjjjgoeghaa
open Go.Shelf
open Go.ChangeShapes Go.WideShapes Go.ChangeAt Go.RowKit
set_option linter.unusedVariables false

end Go.Proofs.Ytiiogjjjgoeghaa

namespace Go.Proofs.Ytiiogjjjgoeghaa
open Go.Shelf
open Go.ChangeShapes Go.WideShapes Go.ChangeAt Go.RowKit
open Ieee.Format (fin finE htE allFin allHt all_true all_false mulF subF addF Ht)
set_option linter.unusedVariables false

/-- a field's values after 'i' steps -/
def stepsL (φ : Nat → Nat → Nat → Nat → Nat → Nat) (X Y : Int) (Wn Hn : Nat) (l : List Nat) : Nat → List Nat
  | 0 => l
  | i + 1 => madeL (fun x y => nbr φ (stepsL φ X Y Wn Hn l i) (Wn - 2 * i) (cellNo (X + i) (Y + i) ((Wn - 2 * i : Nat) : Int) x y).toNat) (X + i + 1) (Y + i + 1) (Wn - 2 * i - 2) ((Hn - 2 * i - 2) * (Wn - 2 * i - 2))

theorem stepsL_len (φ : Nat → Nat → Nat → Nat → Nat → Nat) (X Y : Int) (Wn Hn : Nat) (l : List Nat) (hn : l.length = Hn * Wn) (i : Nat) : (stepsL φ X Y Wn Hn l i).length = (Hn - 2 * i) * (Wn - 2 * i) := by
  cases i with
  | zero => simpa [stepsL] using hn
  | succ i =>
    show (madeL _ _ _ _ _).length = _
    rw [madeL_len, show Hn - 2 * (i + 1) = Hn - 2 * i - 2 from by omega, show Wn - 2 * (i + 1) = Wn - 2 * i - 2 from by omega]

theorem getD_all {P : Nat → Prop} (h0 : P 0) {l : List Nat} (h : ∀ x ∈ l, P x) (j : Nat) : P (l.getD j 0) := by
  rcases Nat.lt_or_ge j l.length with hlt | hge
  · rw [List.getD_eq_getElem?_getD, List.getElem?_eq_getElem hlt]; exact h _ (List.getElem_mem hlt)
  · rw [List.getD_eq_getElem?_getD, List.getElem?_eq_none hge]; exact h0

theorem stepsL_all (P : Nat → Nat → Prop) (φ : Nat → Nat → Nat → Nat → Nat → Nat) (X Y : Int) (Wn Hn : Nat) (l : List Nat) (N : Nat) (h0 : ∀ i, P i 0) (hl : ∀ x ∈ l, P 0 x)
    (hφ : ∀ i, i < N → ∀ n s e w v, P i n → P i s → P i e → P i w → P i v → P (i + 1) (φ n s e w v)) : ∀ i, i ≤ N → ∀ x ∈ stepsL φ X Y Wn Hn l i, P i x := by
  intro i
  induction i with
  | zero => exact fun _ => hl
  | succ i ih =>
    intro hi x hx
    have H := getD_all (h0 i) (ih (by omega))
    change x ∈ madeL _ _ _ _ _ at hx
    unfold madeL at hx
    obtain ⟨k, _, rfl⟩ := List.mem_map.1 hx
    exact hφ i (by omega) _ _ _ _ _ (H _) (H _) (H _) (H _) (H _)

/-- the loop of 'steps' -/
structure StepInv (w wr : World) (kt : Nat) (u : Value) (X Y W H : Int) (m : List Nat) (g cap : Nat) : Prop where
  fo : Fld wr kt X Y W H (.slice (some ⟨g, 0, none⟩) m.length cap)
  rz : Fld wr (w.heap.size + 1 + 1) 0 0 0 0 (.slice none 0 0)
  fc : wr.cell? ⟨w.heap.size + 1, 0, none⟩ = some u
  own : OwnF wr w.heap.size g cap m
  kg : w.heap.size + 1 + 1 < kt
  ne : g ≠ kt
  gr : w.heap.size + 1 + 1 < g
  below : Below w.heap.size w wr
theorem StepInv.upto {w wr w2 : World} {kt : Nat} {u : Value} {X Y W H : Int} {m : List Nat} {g cap : Nat} (h : StepInv w wr kt u X Y W H m g cap) (hb : Below wr.heap.size wr w2) : StepInv w w2 kt u X Y W H m g cap := by
  have hk := h.fo.lt
  have hg := h.kg
  exact ⟨h.fo.below hb h.fo.lt, h.rz.below hb h.rz.lt, (hb.cell (p := ⟨w.heap.size + 1, 0, none⟩) (by simp; omega)).trans h.fc, h.own.below hb h.own.lt.2, h.kg, h.ne, h.gr, h.below.trans (hb.mono h.below.size)⟩
theorem StepInv.next {w wr : World} {kt : Nat} {u : Value} {X Y W H : Int} {m : List Nat} {g cap : Nat} (h : StepInv w wr kt u X Y W H m g cap) {X' Y' W' H' : Int} {m' : List Nat} {g' cap' : Nat} (ho : OwnF wr w.heap.size g' cap' m') (hg : g' ≠ kt) (hr : w.heap.size + 1 + 1 < g') :
    ∀ W6, W6 = ((((wr.setCell ⟨kt, 0, none⟩ (.int .i64 X')).setCell ⟨kt, 1, none⟩ (.int .i64 Y')).setCell ⟨kt, 2, none⟩ (.int .i64 W')).setCell ⟨kt, 3, none⟩ (.int .i64 H')).setCell ⟨kt, 4, none⟩ (.slice (some ⟨g', 0, none⟩) m'.length cap') →
    StepInv w W6 kt u X' Y' W' H' m' g' cap' := by
  intro W6 e
  obtain ⟨f, b, oo, ff, z⟩ := fld_store wr kt X Y W H _ X' Y' W' H' (.slice (some ⟨g', 0, none⟩) m'.length cap') h.fo W6 e
  have hk := h.kg
  refine ⟨f, ff _ _ _ _ _ _ h.rz (by omega), ?_, oo _ _ _ _ ho hg, hk, hg, hr, h.below.trans (b.mono (by omega))⟩
  exact (b.cell (p := ⟨w.heap.size + 1, 0, none⟩) (by simp; omega)).trans h.fc

end Go.Proofs.Ytiiogjjjgoeghaa

namespace Go.Proofs.Ytiiogjjjgoeghaa
open Go.Shelf
open Go.ChangeShapes Go.WideShapes Go.ChangeAt Go.RowKit
open Ieee.Format (fin finE htE allFin allHt all_true all_false mulF subF addF Ht)
set_option linter.unusedVariables false

end Go.Proofs.Ytiiogjjjgoeghaa

namespace Go.Proofs.Ytiiogjjjgoeghaa
open Go.Shelf
open Go.ChangeShapes Go.WideShapes Go.ChangeAt Go.RowKit
open Ieee.Format (fin finE htE allFin allHt all_true all_false mulF subF addF Ht)
set_option linter.unusedVariables false

/-- the reference's rounds: 'f' -/
structure RepInv (w wr : World) (X Y W H : Int) (m : List Nat) (b o c : Nat) : Prop where
  fo : Fld wr w.heap.size X Y W H (.slice (some ⟨b, o, none⟩) m.length c)
  rz : Fld wr (w.heap.size + 1) 0 0 0 0 (.slice none 0 0)
  row : SRow wr (some ⟨b, o, none⟩) m
  below : Below w.heap.size w wr
theorem RepInv.upto {w wr w2 : World} {X Y W H : Int} {m : List Nat} {b o c : Nat} (h : RepInv w wr X Y W H m b o c) (hb : Below wr.heap.size wr w2) : RepInv w w2 X Y W H m b o c :=
  ⟨h.fo.below hb h.fo.lt, h.rz.below hb h.rz.lt, h.row.below hb, h.below.trans (hb.mono h.below.size)⟩
theorem RepInv.next {w wr : World} {X Y W H : Int} {m : List Nat} {b o c : Nat} (h : RepInv w wr X Y W H m b o c) {X' Y' W' H' : Int} {m' : List Nat} {B g cap : Nat} (ho : OwnF wr B g cap m') (hg : g ≠ w.heap.size) (hm : m'.length ≤ 1099511627776) :
    ∀ W6, W6 = ((((wr.setCell ⟨w.heap.size, 0, none⟩ (.int .i64 X')).setCell ⟨w.heap.size, 1, none⟩ (.int .i64 Y')).setCell ⟨w.heap.size, 2, none⟩ (.int .i64 W')).setCell ⟨w.heap.size, 3, none⟩ (.int .i64 H')).setCell ⟨w.heap.size, 4, none⟩ (.slice (some ⟨g, 0, none⟩) m'.length cap) →
    RepInv w W6 X' Y' W' H' m' g 0 cap := by
  intro W6 e
  obtain ⟨f, bb, oo, ff, z⟩ := fld_store wr w.heap.size X Y W H _ X' Y' W' H' (.slice (some ⟨g, 0, none⟩) m'.length cap) h.fo W6 e
  exact ⟨f, ff _ _ _ _ _ _ h.rz (by omega), (oo _ _ _ _ ho hg).row hm, h.below.trans bb⟩

/-- the reference's rounds: 'next' lies in the block that came first -/
structure NextInv (wo wr : World) (X Y W H : Int) (v : Value) (m : List Nat) : Prop where
  fo : Fld wr wo.heap.size X Y W H v
  own : wr.ownsRow (wo.heap.size + 1) /-T-/27 1 v m.length (fls m)
  wf : ∀ x ∈ m, x < 4294967296
  below : Below wo.heap.size wo wr
theorem NextInv.call {wo wr w2 : World} {X Y W H : Int} {v : Value} {m : List Nat} (h : NextInv wo wr X Y W H v m) (hb : Below wr.drew.heap.size wr.drew w2) : NextInv wo w2 X Y W H v m :=
  ⟨h.fo.drew.below hb h.fo.lt, ownsRow_below (w := wr.drew) h.own hb (fun k hk => (h.own.lt k hk).2), h.wf, (h.below.drew).trans (hb.mono (show wo.heap.size ≤ wr.heap.size from h.below.size))⟩
theorem NextInv.mid {wo w2 w3 : World} {X Y W H : Int} {v : Value} {m : List Nat} {o : Obj} (h : NextInv wo w2 X Y W H v m) (hg : (w2.alloc o).grownBy w3 v.ownBlock) :
    Fld w3 wo.heap.size X Y W H v ∧ Below wo.heap.size wo w3 := by
  have hne : ∀ k, k < wo.heap.size + 1 → some k ≠ v.ownBlock := fun k hk e => by
    have := (h.own.lt k e.symm).1; omega
  refine ⟨(h.fo.alloc o).grown hg (hne _ (by omega)), ?_⟩
  have hz := h.below.size
  refine (h.below.alloc hz o).grown hg (by simp; omega) (fun k hk => ?_)
  have := (h.own.lt k hk).1
  omega
theorem NextInv.app {wo w2 w3 : World} {X Y W H : Int} {v : Value} {m : List Nat} {o : Obj} (h : NextInv wo w2 X Y W H v m) {y g cap : Nat} (hy : y < 4294967296)
    (hown : w3.ownsRow (wo.heap.size + 1) /-T-/27 1 (.slice (some ⟨g, 0, none⟩) (m.length + 1) cap) (m.length + 1) (fls m ++ [.float .f32 y])) (hg : (w2.alloc o).grownBy w3 v.ownBlock) :
    NextInv wo (w3.setCell ⟨wo.heap.size, 4, none⟩ (.slice (some ⟨g, 0, none⟩) (m.length + 1) cap)) X Y W H (.slice (some ⟨g, 0, none⟩) (m.length + 1) cap) (m ++ [y]) := by
  obtain ⟨c, d⟩ := h.mid hg
  have hgl := (hown.lt g rfl).1
  refine ⟨c.set4 _, ?_, ?_, d.setCell (by show wo.heap.size ≤ wo.heap.size; omega) _⟩
  · have e : fls (m ++ [y]) = fls m ++ [.float .f32 y] := by unfold fls; simp
    have e2 : (m ++ [y]).length = m.length + 1 := by simp
    rw [e, e2]
    refine ⟨hown.1, ?_⟩
    rcases hown.2 with h2 | ⟨g', cap', cur, hv, hB, hh, r⟩
    · exact .inl h2
    · have : g' = g := by simp at hv; exact hv.1.symm
      subst this
      exact .inr ⟨g', cap', cur, hv, hB, (Below.heap_setCell w3 _ _ g' (by show g' ≠ wo.heap.size; omega)).trans hh, r⟩
  · intro x hx
    rcases List.mem_append.1 hx with hx | hx
    · exact h.wf x hx
    · have : x = y := by simpa using hx
      rw [this]; exact hy

end Go.Proofs.Ytiiogjjjgoeghaa

namespace Go.Proofs.Ytiiogjjjgoeghaa
open Go.ChangeShapes Go.WideShapes Go.ChangeAt Go.RowKit
open Ieee.Format (fin finE htE allFin allHt all_true all_false mulF subF addF Ht Bd divF rootF floorF easeF mixF)
set_option linter.unusedVariables false
set_option linter.unusedSimpArgs false
open Ieee.Format (num num_lt num_gt num_eq num_zero grF lsF grF_num lsF_num axI axO axB quI ci ci_ok sub_ci qu_num Ry Bx crI crO crB cr_num cr_tm hgF hg_bd stF subF divF bits_sub bits_div bits_mul bits_add mulF addF fin_num rat_tri V_zero)

/-! ### rays in the program: leaves -/
theorem oL {x y : Nat} (hx : num x) (hy : num y) : (FloatKind.f32.format.order x y == some .lt) = decide (Ieee.single.V x < Ieee.single.V y) := num_lt hx hy
theorem oG {x y : Nat} (hx : num x) (hy : num y) : (FloatKind.f32.format.order x y == some .gt) = decide (Ieee.single.V y < Ieee.single.V x) := num_gt hx hy
theorem oE {x y : Nat} (hx : num x) (hy : num y) : (FloatKind.f32.format.order x y == some .eq) = decide (Ieee.single.V x = Ieee.single.V y) := num_eq hx hy
theorem lesser_any (a b : Nat) (w : World) (ha : num a) (hb : num b) : Calls Try.prog 29 #[.float .f32 a, .float .f32 b] w fun e w' => e = .returned (.float .f32 (lsF a b)) ∧ w = w' := by
  have h := oL hb ha
  unfold lsF
  by_cases c : Ieee.single.V b < Ieee.single.V a
  · rw [if_pos c]
    rw [decide_eq_true c] at h
    clear c ha hb
    go_enter Try.func29, Try.ntmps29
    go_wp2_with fail
    go_ret
    exact ⟨rfl, rfl⟩
  · rw [if_neg c]
    rw [decide_eq_false c] at h
    clear c ha hb
    go_enter Try.func29, Try.ntmps29
    go_wp2_with fail
    go_ret
    exact ⟨rfl, rfl⟩
theorem greater_any (a b : Nat) (w : World) (ha : num a) (hb : num b) : Calls Try.prog 30 #[.float .f32 a, .float .f32 b] w fun e w' => e = .returned (.float .f32 (grF a b)) ∧ w = w' := by
  have h := oG hb ha
  unfold grF
  by_cases c : Ieee.single.V a < Ieee.single.V b
  · rw [if_pos c]
    rw [decide_eq_true c] at h
    clear c ha hb
    go_enter Try.func30, Try.ntmps30
    go_wp2_with fail
    go_ret
    exact ⟨rfl, rfl⟩
  · rw [if_neg c]
    rw [decide_eq_false c] at h
    clear c ha hb
    go_enter Try.func30, Try.ntmps30
    go_wp2_with fail
    go_ret
    exact ⟨rfl, rfl⟩
set_option maxRecDepth 100000 in
theorem axis_any (f s m : Nat) (lo hi : Int) (w : World) (hf : Ht f) (hs : Ht s) (hm : Ht m) (h1 : -8388608 ≤ lo) (h2 : lo ≤ hi) (h3 : hi ≤ 8388608) :
    Calls Try.prog 31 #[.float .f32 f, .float .f32 s, .float .f32 m, .int .i64 lo, .int .i64 hi] w fun e w' => e = .returned (.tuple #[.float .f32 (axI f s lo hi), .float .f32 (axO f s m lo hi), .bool (decide (axB f s lo hi))]) ∧ w = w' := by
  have fa := (ci_ok h1 (show lo ≤ 8388608 by omega)).1
  have fb := (ci_ok (show -8388608 ≤ hi by omega) h3).1
  have e0 := oE (fin_num hs.fin) num_zero
  rw [V_zero] at e0
  by_cases h0 : Ieee.single.V s = 0
  · rw [decide_eq_true h0] at e0
    have eI : axI f s lo hi = 0 := by unfold axI; rw [if_pos h0]
    have eO : axO f s m lo hi = m := by unfold axO; rw [if_pos h0]
    have eB : decide (axB f s lo hi) = decide (Ieee.single.V (ci lo) ≤ Ieee.single.V f ∧ Ieee.single.V f < Ieee.single.V (ci hi)) := by
      unfold axB
      simp [h0]
    rw [eI, eO, eB]
    have l1 := oL (fin_num fa) (fin_num hf.fin)
    have q1 := oE (fin_num fa) (fin_num hf.fin)
    have l2 := oL (fin_num hf.fin) (fin_num fb)
    clear eI eO eB hs hm hf fa fb h0 h1 h2 h3
    unfold ci at *
    rcases rat_tri (Ieee.single.V (floatOfInt .f32 lo)) (Ieee.single.V f) with c | c | c
    · rw [decide_eq_true c] at l1
      by_cases d : Ieee.single.V f < Ieee.single.V (floatOfInt .f32 hi)
      · rw [decide_eq_true d] at l2
        rw [decide_eq_true (show _ ∧ _ from ⟨by grind, d⟩)]
        clear c d q1
        go_enter Try.func31, Try.ntmps31
        go_wp2_with fail
        exact bodyPost_ret (v := .tuple #[.float .f32 (0), .float .f32 (m), .bool true]) (by simp [results, Try.results31, go_sem, *]) rfl ⟨rfl, rfl⟩
      · rw [decide_eq_false d] at l2
        rw [decide_eq_false (show ¬ (_ ∧ _) from fun h => d h.2)]
        clear c d q1
        go_enter Try.func31, Try.ntmps31
        go_wp2_with fail
        exact bodyPost_ret (v := .tuple #[.float .f32 (0), .float .f32 (m), .bool false]) (by simp [results, Try.results31, go_sem, *]) rfl ⟨rfl, rfl⟩
    · rw [decide_eq_true c] at q1
      rw [decide_eq_false (show ¬ _ from by grind)] at l1
      by_cases d : Ieee.single.V f < Ieee.single.V (floatOfInt .f32 hi)
      · rw [decide_eq_true d] at l2
        rw [decide_eq_true (show _ ∧ _ from ⟨by grind, d⟩)]
        clear c d
        go_enter Try.func31, Try.ntmps31
        go_wp2_with fail
        exact bodyPost_ret (v := .tuple #[.float .f32 (0), .float .f32 (m), .bool true]) (by simp [results, Try.results31, go_sem, *]) rfl ⟨rfl, rfl⟩
      · rw [decide_eq_false d] at l2
        rw [decide_eq_false (show ¬ (_ ∧ _) from fun h => d h.2)]
        clear c d
        go_enter Try.func31, Try.ntmps31
        go_wp2_with fail
        exact bodyPost_ret (v := .tuple #[.float .f32 (0), .float .f32 (m), .bool false]) (by simp [results, Try.results31, go_sem, *]) rfl ⟨rfl, rfl⟩
    · rw [decide_eq_false (show ¬ _ from by grind)] at l1
      rw [decide_eq_false (show ¬ _ from by grind)] at q1
      rw [decide_eq_false (show ¬ (_ ∧ _) from fun h => by grind)]
      clear c l2
      go_enter Try.func31, Try.ntmps31
      go_wp2_with fail
      exact bodyPost_ret (v := .tuple #[.float .f32 (0), .float .f32 (m), .bool false]) (by simp [results, Try.results31, go_sem, *]) rfl ⟨rfl, rfl⟩
  · rw [decide_eq_false h0] at e0
    have k1 := fun w' => run_float_arith (P := Try.prog) w' .sub 27 .f32 _ _ _ (bits_sub fa hf.fin)
    have k2 := fun w' => run_float_arith (P := Try.prog) w' .sub 27 .f32 _ _ _ (bits_sub fb hf.fin)
    have s1 := sub_ci hf h1 (show lo ≤ 8388608 by omega)
    have s2 := sub_ci hf (show -8388608 ≤ hi by omega) h3
    have k3 := fun w' => run_float_arith (P := Try.prog) w' .quo 27 .f32 _ _ _ (bits_div s1 hs.fin h0)
    have k4 := fun w' => run_float_arith (P := Try.prog) w' .quo 27 .f32 _ _ _ (bits_div s2 hs.fin h0)
    have n1 := qu_num hf hs h0 h1 (show lo ≤ 8388608 by omega)
    have n2 := qu_num hf hs h0 (show -8388608 ≤ hi by omega) h3
    have l1 := oL n2 n1
    have eB : decide (axB f s lo hi) = true := decide_eq_true (fun h => absurd h h0)
    rw [eB]
    by_cases c : Ieee.single.V (quI f s hi) < Ieee.single.V (quI f s lo)
    · have eI : axI f s lo hi = quI f s hi := by unfold axI; rw [if_neg h0, if_pos c]
      have eO : axO f s m lo hi = quI f s lo := by unfold axO; rw [if_neg h0, if_pos c]
      rw [decide_eq_true c] at l1
      rw [eI, eO]
      clear eI eO eB hs hm hf fa fb h0 h1 h2 h3 s1 s2 n1 n2 c
      unfold quI ci at *
      go_enter Try.func31, Try.ntmps31
      go_wp2_with fail
      exact bodyPost_ret (v := .tuple #[.float .f32 (divF (subF (floatOfInt .f32 hi) f) s), .float .f32 (divF (subF (floatOfInt .f32 lo) f) s), .bool true]) (by simp [results, Try.results31, go_sem, *]) rfl ⟨rfl, rfl⟩
    · have eI : axI f s lo hi = quI f s lo := by unfold axI; rw [if_neg h0, if_neg c]
      have eO : axO f s m lo hi = quI f s hi := by unfold axO; rw [if_neg h0, if_neg c]
      rw [decide_eq_false c] at l1
      rw [eI, eO]
      clear eI eO eB hs hm hf fa fb h0 h1 h2 h3 s1 s2 n1 n2 c
      unfold quI ci at *
      go_enter Try.func31, Try.ntmps31
      go_wp2_with fail
      exact bodyPost_ret (v := .tuple #[.float .f32 (divF (subF (floatOfInt .f32 lo) f) s), .float .f32 (divF (subF (floatOfInt .f32 hi) f) s), .bool true]) (by simp [results, Try.results31, go_sem, *]) rfl ⟨rfl, rfl⟩
theorem rheight_any (r : Ry) (t : Nat) (w : World) (hr : r.ok) (ht : Ieee.Format.Tm r t) :
    Calls Try.prog 28 #[.agg #[.float .f32 r.X, .float .f32 r.Y, .float .f32 r.H, .float .f32 r.DX, .float .f32 r.DY, .float .f32 r.DH, .float .f32 r.Mo], .float .f32 t] w fun e w' => e = .returned (.float .f32 (hgF r t)) ∧ Below w.heap.size w w' := by
  have k1 := fun w' => run_float_arith (P := Try.prog) w' .mul 27 .f32 _ _ _ (bits_mul hr.dh.fin (ht.fin hr).1)
  have k2 := fun w' => run_float_arith (P := Try.prog) w' .add 27 .f32 _ _ _ (bits_add hr.h.fin (hg_bd hr ht).1.1)
  unfold hgF
  clear hr ht
  go_enter Try.func28, Try.ntmps28
  go_wp2_with fail
  go_ret
  exact ⟨rfl, (by repeat (first | with_reducible exact Below.refl _ _ | with_reducible apply Below.drew | with_reducible refine below_drewN ?_ _ | (with_reducible refine Below.setCell ?_ ?_ _; rotate_left; focus (first | omega | (simp <;> omega))) | (with_reducible refine Below.alloc ?_ ?_ _; rotate_left; focus (first | omega | (simp <;> omega)))))⟩
end Go.Proofs.Ytiiogjjjgoeghaa

namespace Go
/-! ### a region whose last operations store into what it loads: S is asked behind the operations ahead of them alone -/
section
variable {P : Program} {ops : Array Oper} {Q : Exit → Act → World → Prop} {md : Region.Mode} {S : World → Prop} {n : Nat}
/-- whatever comes up; S holds behind each operation ahead of number n -/
def wpAnyT (P : Program) (md : Region.Mode) (ops : Array Oper) (Q : Exit → Act → World → Prop) (S : World → Prop) (n : Nat) : Nat → Array Bool → Act → World → Prop
  | 0, listed, a, w => Region.ready md ops listed = [] ∧ Q .normal a w
  | fuel + 1, listed, a, w =>
    (Region.ready md ops listed = [] → Q .normal a w) ∧
    ∀ i ∈ Region.ready md ops listed, wpOp P ops Q i (fun a' w' => (i < n → S w') ∧ wpAnyT P md ops Q S n fuel (listed.setIfInBounds i true) a' w') a w
theorem wpAny_ofT : ∀ (fuel : Nat) (listed : Array Bool) (a : Act) (w : World), wpAnyT P md ops Q S n fuel listed a w → wpAny P md ops Q fuel listed a w
  | 0, _, _, _, h => h
  | fuel + 1, _, _, _, h => ⟨h.1, fun i hi => wpOp_mono (fun a' w' h' => wpAny_ofT fuel _ a' w' h'.2) (h.2 i hi)⟩
/-- no number from n on comes up ahead of number i: each of D waits for i or for one of D, none of them has come up -/
def sinkAt (md : Region.Mode) (ops : Array Oper) (n i : Nat) (D : List Nat) (listed : Array Bool) : Bool :=
  ((List.range ops.size).all fun j => if n ≤ j then D.contains j else true) && (D.all fun j => match ops[j]? with | some o => o.after.any fun e => Region.binds md e && (i :: D).contains e.on | none => true) && ((i :: D).all fun k => listed.getD k true == false)
theorem sinkAt_spec {i : Nat} {D : List Nat} {listed : Array Bool} (h : sinkAt md ops n i D listed = true) :
    (∀ j, j < ops.size → n ≤ j → j ∈ D) ∧ (∀ j ∈ D, ∀ oj, ops[j]? = some oj → ∃ e ∈ oj.after, Region.binds md e = true ∧ e.on ∈ i :: D) ∧ (∀ k ∈ i :: D, listed.getD k true = false) := by
  unfold sinkAt at h
  rw [Bool.and_eq_true, Bool.and_eq_true] at h
  obtain ⟨⟨h1, h2⟩, h3⟩ := h
  refine ⟨fun j hj hn => ?_, fun j hj oj hoj => ?_, fun k hk => ?_⟩
  · have := List.all_eq_true.1 h1 j (List.mem_range.2 hj)
    rw [if_pos hn] at this
    simpa using this
  · have := List.all_eq_true.1 h2 j hj
    rw [hoj] at this
    simp only at this
    obtain ⟨k, hk, h4⟩ := Array.any_eq_true.1 this
    rw [Bool.and_eq_true] at h4
    exact ⟨_, Array.getElem_mem hk, h4.1, by simpa using h4.2⟩
  · have := List.all_eq_true.1 h3 k hk
    simpa using this
theorem not_ready {i : Nat} {D : List Nat} {listed : Array Bool} (h1 : ∀ j ∈ D, ∀ oj, ops[j]? = some oj → ∃ e ∈ oj.after, Region.binds md e = true ∧ e.on ∈ i :: D) (h2 : ∀ k ∈ i :: D, listed.getD k true = false)
    {j : Nat} (hj : j ∈ Region.ready md ops listed) : j ∉ D := fun hD => by
  obtain ⟨_, oj, hoj, hall⟩ := mem_ready.1 hj
  obtain ⟨e, he, hb, hon⟩ := h1 j hD oj hoj
  have a := hall e he hb
  have b := h2 _ hon
  rcases Nat.lt_or_ge e.on listed.size with h' | h'
  · simp [h'] at a b; rw [b] at a; cases a
  · simp [Array.getElem?_eq_none h'] at a
theorem wpAnyT_first {i : Nat} {oi : Oper} {v : Value} (hi : ops[i]? = some oi) (hsel : ∀ (j : Nat) (o : Oper) cs b, ops[j]? = some o → o.op ≠ .select cs b)
    (hQ : ∀ c a w, Q (.panic c) (a.put oi.dst v) w → Q (.panic c) a w) {D : List Nat} (hn1 : ∀ j, j < ops.size → n ≤ j → j ∈ D) (hn2 : ∀ j ∈ D, ∀ oj, ops[j]? = some oj → ∃ e ∈ oj.after, Region.binds md e = true ∧ e.on ∈ i :: D) :
    ∀ (fuel : Nat) (listed : Array Bool) (a : Act) (w : World), (∀ k ∈ i :: D, listed.getD k true = false) →
      (∀ j oj, ops[j]? = some oj → j ≠ i → listed.getD j true = false → (∀ e ∈ oj.after, Region.binds md e = true → e.on ≠ i) → oi.apart ops oj = true) →
      i ∈ Region.ready md ops listed → YieldsIf P ops S oi v a → S w →
      wpAnyT P md ops Q S n fuel (listed.setIfInBounds i true) (a.put oi.dst v) w → wpAnyT P md ops Q S n (fuel + 1) listed a w := by
  intro fuel
  induction fuel with
  | zero =>
    intro listed a w _ _ hr hy hS H
    refine ⟨fun h => (by rw [h] at hr; cases hr), fun j hj => ?_⟩
    by_cases hji : j = i
    · subst hji; exact hy.wpOp hi hS ⟨fun _ => hS, H⟩
    · have := ready_mono hj hji
      rw [H.1] at this
      cases this
  | succ fuel ih =>
    intro listed a w hun hfree hr hy hS H
    refine ⟨fun h => (by rw [h] at hr; cases hr), fun j hj => ?_⟩
    by_cases hji : j = i
    · subst hji; exact hy.wpOp hi hS ⟨fun _ => hS, H⟩
    · have h1 := H.2 j (ready_mono hj hji)
      obtain ⟨hjun, oj, hoj, hall⟩ := mem_ready.1 hj
      have hnot : ∀ e ∈ oj.after, Region.binds md e = true → e.on ≠ i := fun e he hb heq => by
        have h1 := hall e he hb
        have h0 := (mem_ready.1 hr).1
        rw [heq] at h1
        rcases Nat.lt_or_ge i listed.size with h' | h'
        · simp [h'] at h0 h1; rw [h0] at h1; cases h1
        · simp [Array.getElem?_eq_none h'] at h1
      have hjD := not_ready hn2 hun hj
      have hjn : j < n := by
        rcases Nat.lt_or_ge j n with h' | h'
        · exact h'
        · have hlt : j < ops.size := by
            rcases Nat.lt_or_ge j ops.size with h'' | h''
            · exact h''
            · rw [Array.getElem?_eq_none h''] at hoj; cases hoj
          exact absurd (hn1 j hlt h') hjD
      have hun' : ∀ k ∈ i :: D, (listed.setIfInBounds j true).getD k true = false := fun k hk => by
        rw [getD_set_ne true (fun h => ?_)]
        · exact hun k hk
        · subst h
          rcases List.mem_cons.1 hk with h | h
          · exact hji h
          · exact hjD h
      have h2 := wpOp_putIf hoj (hfree j oj hoj hji hjun hnot) (fun cs b => hsel i oi cs b hi) (fun cs b => hsel j oj cs b hoj) hQ hy h1
      have hfree' : ∀ k ok, ops[k]? = some ok → k ≠ i → (listed.setIfInBounds j true).getD k true = false →
          (∀ e ∈ ok.after, Region.binds md e = true → e.on ≠ i) → oi.apart ops ok = true := fun k ok hk hki hun hno => by
        refine hfree k ok hk hki ?_ hno
        by_cases hjk : j = k
        · subst hjk; exact hjun
        · rw [getD_set_ne true hjk] at hun; exact hun
      refine wpOp_mono (fun a' w' h3 => ⟨h3.2.1, ih (listed.setIfInBounds j true) a' w' hun' hfree' (ready_mono hr (Ne.symm hji)) h3.1 (h3.2.1 hjn) ?_⟩) h2
      rw [Array.setIfInBounds_comm _ _ hji]
      exact h3.2.2
/-- number i first -/
theorem wpAnyT_take (D : List Nat) {i : Nat} {oi : Oper} {v : Value} {fuel : Nat} {listed : Array Bool} {a : Act} {w : World} (hi : ops[i]? = some oi)
    (hs : Region.noSelect ops = true) (hf : Region.free md ops listed i = true) (hr : (Region.ready md ops listed).contains i = true) (hsink : sinkAt md ops n i D listed = true)
    (hQ : ∀ c a w, Q (.panic c) (a.put oi.dst v) w → Q (.panic c) a w) (hy : YieldsIf P ops S oi v a) (hS : S w)
    (h : wpAnyT P md ops Q S n fuel (listed.setIfInBounds i true) (a.put oi.dst v) w) : wpAnyT P md ops Q S n (fuel + 1) listed a w :=
  wpAnyT_first hi (Region.noSelect_spec hs) hQ (sinkAt_spec hsink).1 (sinkAt_spec hsink).2.1 fuel listed a w (sinkAt_spec hsink).2.2 (Region.free_spec hi hf) (by simpa using hr) hy hS h
/-- whichever comes up -/
def AllReadyT (P : Program) (md : Region.Mode) (ops : Array Oper) (Q : Exit → Act → World → Prop) (S : World → Prop) (n : Nat) (fuel : Nat) (listed : Array Bool) (a : Act) (w : World) (rs : List Nat) : Prop :=
  ∀ i ∈ rs, wpOp P ops Q i (fun a' w' => (i < n → S w') ∧ wpAnyT P md ops Q S n fuel (listed.setIfInBounds i true) a' w') a w
theorem AllReadyT.nil {fuel : Nat} {listed : Array Bool} {a : Act} {w : World} : AllReadyT P md ops Q S n fuel listed a w [] := fun _ h => by cases h
theorem AllReadyT.cons {fuel : Nat} {listed : Array Bool} {a : Act} {w : World} {i : Nat} {o : Oper} {rs : List Nat} (ho : ops[i]? = some o)
    (h : ∀ K' : Act → World → Prop, Shut (∀ a w, (i < n → S w) → ((i < n → S w) → wpAnyT P md ops Q S n fuel (listed.setIfInBounds i true) a w) → K' a w) → if Region.wanted o (yielded ops a.tmps) = true then Oper.wp P o a w K' Q else K' (a.put o.dst undef) w)
    (hs : AllReadyT P md ops Q S n fuel listed a w rs) : AllReadyT P md ops Q S n fuel listed a w (i :: rs) := fun j hj => by
  rcases List.mem_cons.1 hj with rfl | hj
  · exact wpOp_step ho (fun K' hK => h K' (fun a w hS hW => hK a w ⟨hS, hW hS⟩))
  · exact hs j hj
theorem wpAnyT_ready {rs : List Nat} {fuel : Nat} {listed : Array Bool} {a : Act} {w : World} (hr : Region.ready md ops listed = rs) (hne : rs ≠ [])
    (h : AllReadyT P md ops Q S n fuel listed a w rs) : wpAnyT P md ops Q S n (fuel + 1) listed a w := ⟨fun h0 => absurd (hr ▸ h0) hne, hr ▸ h⟩
theorem wpAnyT_done {listed : Array Bool} {a : Act} {w : World} (hr : Region.ready md ops listed = []) (h : Q .normal a w) : ∀ fuel, wpAnyT P md ops Q S n fuel listed a w
  | 0 => ⟨hr, h⟩
  | fuel + 1 => ⟨fun _ => h, fun i hi => by rw [hr] at hi; cases hi⟩
/-- the beginning -/
theorem wp_region_heldT {id : Nat} {a : Act} {w : World} (S : World → Prop) (n : Nat) (hm : P.follows .mixedOrders = true) (hS : S w.drew)
    (h : S w.drew → wpAnyT P .any ops Q S n ops.size (Array.replicate ops.size false) a w.drew) : (Code.region id ops true).wp P Q a w :=
  wp_region_any hm (wpAny_ofT _ _ _ _ (h hS))
end
end Go

namespace Go
section
variable {P : Program} {ops : Array Oper} {Q : Exit → Act → World → Prop} {md : Region.Mode} {S : World → Prop} {n : Nat}
/-- number i first, looked up in the list (so that its slot is read off whatever i) -/
theorem wpAnyT_takeL (D : List Nat) {i : Nat} {oi : Oper} {v : Value} {fuel : Nat} {listed : Array Bool} {a : Act} {w : World} (hi : ops.toList[i]? = some oi)
    (hs : Region.noSelect ops = true) (hf : Region.free md ops listed i = true) (hr : (Region.ready md ops listed).contains i = true) (hsink : sinkAt md ops n i D listed = true)
    (hQ : ∀ c a w, Q (.panic c) (a.put oi.dst v) w → Q (.panic c) a w) (hy : YieldsIf P ops S oi v a) (hS : S w)
    (h : wpAnyT P md ops Q S n fuel (listed.setIfInBounds i true) (a.put oi.dst v) w) : wpAnyT P md ops Q S n (fuel + 1) listed a w :=
  wpAnyT_take D (by rw [← hi]; simp) hs hf hr hsink hQ hy hS h
end
end Go

namespace Go.Proofs.Ytiiogjjjgoeghaa
open Go.ChangeShapes Go.WideShapes Go.ChangeAt Go.RowKit
open Ieee.Format (fin finE htE allFin allHt all_true all_false finE_ok finE_bad htE_ok htE_far htE_bad easeF ease1 ease2 ease3 mulF subF addF)
set_option linter.unusedVariables false

def lss (x y : Nat) : Bool := FloatKind.f32.format.order x y == some .lt
def gtr (x y : Nat) : Bool := FloatKind.f32.format.order x y == some .gt
def shareE (t : Nat) : Int := if fin Ieee.single t then (if lss t 0 || gtr t 1065353216 then 3 else 0) else 2
theorem shareE_bad {t : Nat} (h : ¬ fin Ieee.single t) : shareE t = 2 := by unfold shareE; rw [if_neg h]
theorem shareE_far {t : Nat} (h : fin Ieee.single t) (h2 : (lss t 0 || gtr t 1065353216) = true) : shareE t = 3 := by unfold shareE; rw [if_pos h, if_pos h2]
theorem shareE_ok {t : Nat} (h : fin Ieee.single t) (h2 : (lss t 0 || gtr t 1065353216) = false) : shareE t = 0 := by unfold shareE; rw [if_pos h, h2]; rfl

theorem row_one (w : World) (x : Nat) (hx : x < 4294967296) (t : TypeId) : SRow (w.alloc (.cells #[.float .f32 x] t)) (some ⟨w.heap.size, 0, none⟩) [x] := by
  refine ⟨⟨by simp, by simpa using hx⟩, .inr ⟨w.heap.size, 0, rfl, ?_⟩⟩
  intro i hi
  have : i = 0 := by simp at hi; omega
  subst this
  simp

/-- a share: finite and from 0 to 1 -/
def Share (t : Nat) : Prop := fin Ieee.single t ∧ 0 ≤ Ieee.single.V t ∧ Ieee.single.V t ≤ 1
theorem share_of {t : Nat} (h : fin Ieee.single t) (h2 : (lss t 0 || gtr t 1065353216) = false) : Share t := by
  have a : lss t 0 = decide (Ieee.single.V t < Ieee.single.V 0) := Ieee.single.order_lt h Ieee.Format.const_0.1
  have b : gtr t 1065353216 = decide (Ieee.single.V 1065353216 < Ieee.single.V t) := Ieee.single.order_gt h Ieee.Format.const_1.1
  rw [a, b, Ieee.Format.const_0.2.1, Ieee.Format.const_1.2.1, Bool.or_eq_false_iff] at h2
  have c := of_decide_eq_false h2.1
  have d := of_decide_eq_false h2.2
  exact ⟨h, by grind, by grind⟩

theorem ret_f32e {a b : Nat} {c d : Int} (h : a = b) (h' : c = d) : Ending.returned (.tuple #[.float .f32 a, .int .i64 c]) = .returned (.tuple #[.float .f32 b, .int .i64 d]) := by rw [h, h']

end Go.Proofs.Ytiiogjjjgoeghaa

namespace Go.Proofs.Ytiiogjjjgoeghaa
open Go.ChangeShapes Go.WideShapes Go.ChangeAt Go.RowKit
open Ieee.Format (fin finE htE allFin allHt all_true all_false mulF subF addF Ht Bd divF rootF floorF easeF mixF)
set_option linter.unusedVariables false

theorem row_at1 (W : World) (g x : Nat) (hx : x < 4294967296) (h0 : W.cell? ⟨g, 0, none⟩ = some (.float .f32 x)) : SRow W (some ⟨g, 0, none⟩) [x] := by
  refine ⟨⟨by simp, by simp; exact hx⟩, .inr ⟨g, 0, rfl, ?_⟩⟩
  intro i hi
  obtain rfl : i = 0 := by simp at hi; omega
  exact h0
theorem heights_one (W : World) (g x : Nat) (hx : x < 4294967296) (h0 : W.cell? ⟨g, 0, none⟩ = some (.float .f32 x)) :
    Calls Try.prog 16 #[.slice (some ⟨g, 0, none⟩) 1 1] W fun e w' => e = .returned (.int .i64 (htE [x])) ∧ W = w' := heights_any (some ⟨g, 0, none⟩) 1 [x] W (row_at1 W g x hx h0)
theorem heights_two (W : World) (g x y : Nat) (hx : x < 4294967296) (hy : y < 4294967296) (h0 : W.cell? ⟨g, 0, none⟩ = some (.float .f32 x)) (h1 : W.cell? ⟨g, 1, none⟩ = some (.float .f32 y)) :
    Calls Try.prog 16 #[.slice (some ⟨g, 0, none⟩) 2 2] W fun e w' => e = .returned (.int .i64 (htE [x, y])) ∧ W = w' := heights_any (some ⟨g, 0, none⟩) 2 [x, y] W (row_two_at W g x y hx hy h0 h1)
theorem htE_one {t : Nat} (h : htE [t] = 0) : Ht t := Ieee.Format.allHt_iff.1 (Ieee.Format.htE_zero h) t (by simp)
theorem finE_one {t : Nat} (h : finE [t] = 0) : fin Ieee.single t := by
  apply Classical.byContradiction
  intro hc
  have : finE [t] = 2 := Ieee.Format.finE_bad (by unfold allFin; simp [hc])
  omega
theorem lss_V {x y : Nat} (hx : fin Ieee.single x) (hy : fin Ieee.single y) : lss x y = decide (Ieee.single.V x < Ieee.single.V y) := Ieee.single.order_lt hx hy
theorem gtr_V {x y : Nat} (hx : fin Ieee.single x) (hy : fin Ieee.single y) : gtr x y = decide (Ieee.single.V y < Ieee.single.V x) := Ieee.single.order_gt hx hy

/-- a wear -/
abbrev wearV (T R : Nat) (n : Int) : Value := .agg #[.float .f32 T, .float .f32 R, .int .i64 n]
def wearE (T R : Nat) (n : Int) : Int :=
  if htE [T] ≠ 0 then htE [T] else if lss T 0 = true then 3 else if finE [R] ≠ 0 then finE [R] else
  if lss R 0 = true then 3 else if gtr R 1040187392 = true then 3 else if n < 0 then 3 else if 64 < n then 3 else 0

def shareE2 (t m : Nat) : Int := if htE [t] ≠ 0 then htE [t] else if lss t 0 = true then 3 else if gtr t m = true then 3 else 0
theorem wearE_share (T R : Nat) (n : Int) : wearE T R n = if shareE2 T 1233125376 ≠ 0 then shareE2 T 1233125376 else if shareE2 R 1040187392 ≠ 0 then shareE2 R 1040187392 else if n < 0 then 3 else if 64 < n then 3 else 0 := by
  have hT : htE [T] = 0 → gtr T 1233125376 = false := by
    intro h
    have ht : Ht T := htE_one h
    rw [gtr_V ht.fin Ieee.Format.const_20.1, Ieee.Format.const_20.2.1]
    have := ht.V.2
    simp; grind
  have hR : finE [R] = 0 → htE [R] ≠ 0 → htE [R] = 3 ∧ (lss R 0 = true ∨ gtr R 1040187392 = true) := by
    intro hf h
    have f1 : fin Ieee.single R := finE_one hf
    have a1 : allFin [R] = true := by unfold allFin; simp [f1]
    have n1 : ¬ Ht R := fun hc => h (Ieee.Format.htE_of_ht (Ieee.Format.allHt_iff.2 (by simpa using hc)))
    have h3 : htE [R] = 3 := Ieee.Format.htE_far a1 (by cases hh : allHt [R]; rfl; exact absurd (Ieee.Format.allHt_iff.1 hh R (by simp)) n1)
    refine ⟨h3, ?_⟩
    rw [lss_V f1 Ieee.Format.const_0.1, gtr_V f1 Ieee.Format.const_eighth.1, Ieee.Format.const_eighth.2.1, Ieee.Format.const_0.2.1]
    by_cases c1 : Ieee.single.V R < 0
    · left; simpa using c1
    · right
      simp only [decide_eq_true_eq]
      apply Classical.byContradiction
      intro c2
      apply n1
      have m1 := Ieee.P2_mono (show (-3 : Int) ≤ 20 by omega)
      have m2 := Ieee.P2_pos 20
      exact Ieee.Format.Ht.of ⟨by grind, by grind⟩
  have hR2 : finE [R] ≠ 0 → htE [R] = finE [R] := by
    intro hf
    have a1 : allFin [R] = false := by
      cases h : allFin [R]
      · rfl
      · exact absurd (Ieee.Format.finE_ok h) hf
    rw [Ieee.Format.htE_bad a1, Ieee.Format.finE_bad a1]
  have hR3 : finE [R] ≠ 0 → htE [R] ≠ 0 := fun h => by rw [hR2 h]; exact h
  unfold wearE shareE2
  by_cases h1 : htE [T] = 0
  · have := hT h1
    simp only [h1, this]
    by_cases h2 : finE [R] = 0
    · by_cases h3 : htE [R] = 0
      · simp only [h2, h3]
        cases lss T 0 <;> cases lss R 0 <;> cases gtr R 1040187392 <;> simp
      · obtain ⟨h4, h5⟩ := hR h2 h3
        simp only [h2, h4]
        cases lss T 0 <;> rcases h5 with h5 | h5 <;> simp [h5]
    · have h3 := hR2 h2
      simp only [h3]
      cases lss T 0 <;> simp [h2]
  · simp [h1]

end Go.Proofs.Ytiiogjjjgoeghaa

namespace Go.Proofs.Ytiiogjjjgoeghaa
open Go.ChangeShapes Go.WideShapes Go.ChangeAt Go.RowKit
open Ieee.Format (fin finE htE allFin allHt all_true all_false mulF subF addF Ht Bd divF rootF floorF easeF mixF)
set_option linter.unusedVariables false

def movedF (T R a b : Nat) : Nat := if gtr (subF a b) T = true then mulF (subF (subF a b) T) R else 0
/-- a right wear -/
structure WearOk (T R : Nat) : Prop where
  t : Bd 20 T
  t0 : 0 ≤ Ieee.single.V T
  r : fin Ieee.single R
  r0 : 0 ≤ Ieee.single.V R
  r1 : Ieee.single.V R ≤ Ieee.P2 (-3)
theorem WearOk.of {T R : Nat} {n : Int} (h : wearE T R n = 0) : WearOk T R ∧ 0 ≤ n ∧ n ≤ 64 := by
  unfold wearE at h
  by_cases h1 : htE [T] = 0
  · rw [if_neg (by omega)] at h
    have ht := htE_one h1
    cases h2 : lss T 0 with
    | true => rw [h2, if_pos rfl] at h; omega
    | false =>
      rw [h2, if_neg (by decide)] at h
      by_cases h3 : finE [R] = 0
      · rw [if_neg (by omega)] at h
        have hr := finE_one h3
        cases h4 : lss R 0 with
        | true => rw [h4, if_pos rfl] at h; omega
        | false =>
          rw [h4, if_neg (by decide)] at h
          cases h5 : gtr R 1040187392 with
          | true => rw [h5, if_pos rfl] at h; omega
          | false =>
            rw [h5, if_neg (by decide)] at h
            rw [lss_V ht.fin Ieee.Format.const_0.1, Ieee.Format.const_0.2.1] at h2
            rw [lss_V hr Ieee.Format.const_0.1, Ieee.Format.const_0.2.1] at h4
            rw [gtr_V hr Ieee.Format.const_eighth.1, Ieee.Format.const_eighth.2.1] at h5
            have g2 := of_decide_eq_false h2
            have g4 := of_decide_eq_false h4
            have g5 := of_decide_eq_false h5
            refine ⟨⟨Ieee.Format.Ht.bd ht, by grind, hr, by grind, by grind⟩, ?_⟩
            by_cases h6 : n < 0
            · rw [if_pos h6] at h; omega
            · by_cases h7 : 64 < n
              · rw [if_neg h6, if_pos h7] at h; omega
              · omega
      · rw [if_pos h3] at h; omega
  · rw [if_pos h1] at h; omega
theorem moved_bd {k T R a b : Nat} (hw : WearOk T R) (ha : Bd k a) (hb : Bd k b) (hk : 20 ≤ k) (hk2 : k ≤ 80) :
    Bd (k + 1) (subF a b) ∧ Bd (k + 2) (subF (subF a b) T) ∧ fin Ieee.single (mulF (subF (subF a b) T) R) ∧ Bd k (movedF T R a b) := by
  have a1 := ha.sub hb (by omega)
  have a2 := a1.sub (hw.t.mono (show 20 ≤ k + 1 by omega)) (by omega)
  have p3 := Ieee.P2_pos (-3)
  have a3 : Bd (k - 1) (mulF (subF (subF a b) T) R) := Ieee.Format.Bd.less (j := 3) (by rw [show k - 1 + 3 = k + 2 by omega]; exact a2) hw.r ⟨by have := hw.r0; simp only [Int.cast_ofNat_Int]; grind, hw.r1⟩ (by omega)
  refine ⟨a1, a2, a3.1, ?_⟩
  unfold movedF
  split
  · exact a3.mono (by omega)
  · exact (Ieee.Format.Ht.bd (show Ht 0 by decide)).mono hk
theorem movedF_lt (T R a b : Nat) : movedF T R a b < 4294967296 := by
  unfold movedF; split
  · exact Ieee.Format.mulF_lt _ _
  · decide

/-- the cell's neighbours in the order in which they are taken -/
def pick4 (n w e s : Nat) : Nat → Nat
  | 0 => n
  | 1 => w
  | 2 => e
  | _ => s
def subT (T R v n w e s : Nat) : Nat → Nat
  | 0 => v
  | k + 1 => subF (subT T R v n w e s k) (movedF T R v (pick4 n w e s k))
def addT (T R v n w e s : Nat) : Nat → Nat
  | 0 => subT T R v n w e s 4
  | k + 1 => addF (addT T R v n w e s k) (movedF T R (pick4 n w e s k) v)
def thermalF (T R n s e w v : Nat) : Nat := addT T R v n w e s 4

theorem pick4_bd {K n w e s : Nat} (hn : Bd K n) (hw : Bd K w) (he : Bd K e) (hs : Bd K s) (k : Nat) : Bd K (pick4 n w e s k) := by
  match k with
  | 0 => exact hn
  | 1 => exact hw
  | 2 => exact he
  | _ + 3 => exact hs
theorem subT_bd {K T R v n w e s : Nat} (hW : WearOk T R) (hn : Bd K n) (hs : Bd K s) (he : Bd K e) (hw : Bd K w) (hv : Bd K v) (hk : 20 ≤ K) (hk2 : K ≤ 76) : ∀ k, k ≤ 4 → Bd (K + k) (subT T R v n w e s k)
  | 0, _ => hv
  | k + 1, h => by
    have a := subT_bd hW hn hs he hw hv hk hk2 k (by omega)
    have b := (moved_bd hW hv (pick4_bd hn hw he hs k) hk (by omega)).2.2.2
    exact a.sub (b.mono (by omega)) (by omega)
theorem addT_bd {K T R v n w e s : Nat} (hW : WearOk T R) (hn : Bd K n) (hs : Bd K s) (he : Bd K e) (hw : Bd K w) (hv : Bd K v) (hk : 20 ≤ K) (hk2 : K ≤ 76) : ∀ k, k ≤ 4 → Bd (K + 4 + k) (addT T R v n w e s k)
  | 0, _ => subT_bd hW hn hs he hw hv hk hk2 4 (by omega)
  | k + 1, h => by
    have a := addT_bd hW hn hs he hw hv hk hk2 k (by omega)
    have b := (moved_bd hW (pick4_bd hn hw he hs k) hv hk (by omega)).2.2.2
    exact a.add (b.mono (by omega)) (by omega)
theorem thermalF_lt (T R n s e w v : Nat) : thermalF T R n s e w v < 4294967296 := Ieee.Format.addF_lt _ _
end Go.Proofs.Ytiiogjjjgoeghaa

namespace Go.Proofs.Ytiiogjjjgoeghaa
open Go.ChangeShapes Go.WideShapes Go.ChangeAt Go.RowKit
open Ieee.Format (fin finE htE allFin allHt all_true all_false mulF subF addF Ht Bd divF rootF floorF easeF mixF)
set_option linter.unusedVariables false

/-- a block that is known whole -/
def Blk (w : World) (k : Nat) (cs : Array Value) (t : TypeId) : Prop := w.heap[k]? = some (.cells cs t (0, 0))
theorem Blk.lt {w : World} {k : Nat} {cs : Array Value} {t : TypeId} (h : Blk w k cs t) : k < w.heap.size := by
  rcases Nat.lt_or_ge k w.heap.size with hlt | hge
  · exact hlt
  · unfold Blk at h; rw [Array.getElem?_eq_none hge] at h; cases h
theorem Blk.cell {w : World} {k : Nat} {cs : Array Value} {t : TypeId} (h : Blk w k cs t) (i : Nat) : w.cell? ⟨k, i, none⟩ = cs[i]? := cell_of_row w k i _ _ _ h
theorem Blk.frozen {w : World} {k : Nat} {cs : Array Value} {t : TypeId} (h : Blk w k cs t) (i : Nat) : w.frozen? ⟨k, i, none⟩ = false := frozen_of_row w k i _ _ h
theorem Blk.below {w w' : World} {B k : Nat} {cs : Array Value} {t : TypeId} (h : Blk w k cs t) (hb : Below B w w') (hk : k < B) : Blk w' k cs t := (hb.block k hk).trans h
theorem Blk.new (w : World) (cs : Array Value) (t : TypeId) : Blk (w.alloc (.cells cs t)) w.heap.size cs t := heap_alloc_new w _
theorem Blk.alloc {w : World} {k : Nat} {cs : Array Value} {t : TypeId} (h : Blk w k cs t) (o : Obj) : Blk (w.alloc o) k cs t := (Below.heap_alloc w o k h.lt).trans h
theorem Blk.drew {w : World} {k : Nat} {cs : Array Value} {t : TypeId} (h : Blk w k cs t) : Blk w.drew k cs t := h
theorem Blk.drewN {w : World} {k : Nat} {cs : Array Value} {t : TypeId} (h : Blk w k cs t) (n : Nat) : Blk (w.drewN n) k cs t := h
theorem Blk.setCell {w : World} {k : Nat} {cs : Array Value} {t : TypeId} (h : Blk w k cs t) {p : Addr} (hp : k ≠ p.block) (u : Value) : Blk (w.setCell p u) k cs t := (Below.heap_setCell w p u k hp).trans h

theorem ret_f {x y : Nat} (h : x = y) : Ending.returned (.float .f32 x) = .returned (.float .f32 y) := by rw [h]

/-- a list of four -/
def row4 (n w e s : Nat) : List Nat := [n, w, e, s]
theorem row4_at (W : World) (g n w e s : Nat) (t : TypeId) (h : Blk W g #[.float .f32 n, .float .f32 w, .float .f32 e, .float .f32 s] t) (k : Nat) (hk : k < 4) : W.cell? ⟨g, k, none⟩ = some (.float .f32 (pick4 n w e s k)) := by
  rw [h.cell k]
  match k, hk with
  | 0, _ => rfl
  | 1, _ => rfl
  | 2, _ => rfl
  | 3, _ => rfl

end Go.Proofs.Ytiiogjjjgoeghaa

namespace Go.Proofs.Ytiiogjjjgoeghaa
open Go.ChangeShapes Go.WideShapes Go.ChangeAt Go.RowKit
open Ieee.Format (fin finE htE allFin allHt all_true all_false mulF subF addF Ht Bd divF rootF floorF easeF mixF)
set_option linter.unusedVariables false
set_option linter.unusedSimpArgs false
open Ieee.Format (num num_lt num_gt num_eq num_zero grF lsF grF_num lsF_num axI axO axB ax_num quI Ry Bx crI crO crB cr_num cr_tm hgF hg_bd stF subF divF bits_sub bits_div fin_num rat_tri V_zero)

abbrev rayV (r : Ry) : Value := .agg #[.float .f32 r.X, .float .f32 r.Y, .float .f32 r.H, .float .f32 r.DX, .float .f32 r.DY, .float .f32 r.DH, .float .f32 r.Mo]
/-- the region of a box -/
abbrev bxV (c : Bx) : Value := reg c.x c.y (c.x2 - c.x) (c.y2 - c.y)
set_option maxRecDepth 100000 in
set_option maxHeartbeats 1000000 in
theorem crossing_any (r : Ry) (c : Bx) (w : World) (hr : r.ok) (hc : c.ok) :
    Calls Try.prog 27 #[rayV r, bxV c] w fun e w' => e = .returned (.tuple #[.float .f32 (crI r c), .float .f32 (crO r c), .bool (decide (crB r c))]) ∧ Below w.heap.size w w' := by
  obtain ⟨c1, c2, c3, c4, c5, c6⟩ := hc
  have K1 := Lib.hid (fun w => axis_any r.X r.DX r.Mo c.x c.x2 w hr.x hr.dx hr.mo c1 c2 c3)
  have K2 := Lib.hid (fun w => axis_any r.Y r.DY r.Mo c.y c.y2 w hr.y hr.dy hr.mo c4 c5 c6)
  obtain ⟨n1, n2⟩ := ax_num (m := r.Mo) hr.x hr.dx hr.mo c1 c2 c3
  obtain ⟨n3, n4⟩ := ax_num (m := r.Mo) hr.y hr.dy hr.mo c4 c5 c6
  obtain ⟨q1, q2⟩ := cr_num hr ⟨c1, c2, c3, c4, c5, c6⟩
  have e1 : IntKind.i64.wrap (c.x + (c.x2 - c.x)) = c.x2 := by rw [IntWalk.i64_in _ (by omega)]; omega
  have e2 : IntKind.i64.wrap (c.y + (c.y2 - c.y)) = c.y2 := by rw [IntWalk.i64_in _ (by omega)]; omega
  have e3 : c.x + (c.x2 - c.x) = c.x2 := by omega
  have e4 : c.y + (c.y2 - c.y) = c.y2 := by omega
  have e5 : wrap64 c.x2 = c.x2 := by unfold wrap64; omega
  have e6 : wrap64 c.y2 = c.y2 := by unfold wrap64; omega
  have e7 : IntKind.i64.wrap c.x2 = c.x2 := IntWalk.i64_in _ (by omega)
  have e8 : IntKind.i64.wrap c.y2 = c.y2 := IntWalk.i64_in _ (by omega)
  have KG1 := Lib.hid (fun w => greater_any _ _ w n1 n3)
  have KG2 := Lib.hid (fun w => greater_any _ _ w (grF_num n1 n3) num_zero)
  have KL1 := Lib.hid (fun w => lesser_any _ _ w n2 n4)
  have KL2 := Lib.hid (fun w => lesser_any _ _ w (lsF_num n2 n4) (fin_num hr.mo.fin))
  have l1 := oL q1 q2
  have l2 := oE q1 q2
  have HQ : Hid (decide (crB r c) = (decide (axB r.X r.DX c.x c.x2) && (decide (axB r.Y r.DY c.y c.y2) && decide (Ieee.single.V (crI r c) ≤ Ieee.single.V (crO r c))))) := Lib.hid (by rw [Bool.eq_iff_iff]; simp only [decide_eq_true_eq, Bool.and_eq_true]; exact Iff.rfl)
  rw [HQ.out]
  have hd : decide (Ieee.single.V (crI r c) ≤ Ieee.single.V (crO r c)) = (decide (Ieee.single.V (crI r c) < Ieee.single.V (crO r c)) || decide (Ieee.single.V (crI r c) = Ieee.single.V (crO r c))) := by
    rw [Bool.eq_iff_iff]
    simp
    grind
  rw [hd]
  clear hd
  have eI : crI r c = grF (grF (axI r.X r.DX c.x c.x2) (axI r.Y r.DY c.y c.y2)) 0 := rfl
  have eO : crO r c = lsF (lsF (axO r.X r.DX r.Mo c.x c.x2) (axO r.Y r.DY r.Mo c.y c.y2)) r.Mo := rfl
  rw [← eI] at KG2
  rw [← eO] at KL2
  clear HQ eI eO hr n1 n2 n3 n4 q1 q2 c1 c2 c3 c4 c5 c6
  generalize decide (Ieee.single.V (crI r c) < Ieee.single.V (crO r c)) = x1 at *
  generalize decide (Ieee.single.V (crI r c) = Ieee.single.V (crO r c)) = x2 at *
  generalize crI r c = I at *
  generalize crO r c = O at *
  generalize decide (axB r.X r.DX c.x c.x2) = a at *
  generalize decide (axB r.Y r.DY c.y c.y2) = b at *
  go_enter Try.func27, Try.ntmps27
  go_upto_region 1 with fail
  have b0 : Below w.heap.size w ((w.alloc (.cells #[.float .f32 r.X, .float .f32 r.Y, .float .f32 r.H, .float .f32 r.DX, .float .f32 r.DY, .float .f32 r.DH, .float .f32 r.Mo] 29)).alloc (.cells #[.int .i64 c.x, .int .i64 c.y, .int .i64 (c.x2 - c.x), .int .i64 (c.y2 - c.y)] 23)) := (by repeat (first | with_reducible exact Below.refl _ _ | with_reducible apply Below.drew | with_reducible refine below_drewN ?_ _ | (with_reducible refine Below.setCell ?_ ?_ _; rotate_left; focus (first | omega | (simp <;> omega))) | (with_reducible refine Below.alloc ?_ ?_ _; rotate_left; focus (first | omega | (simp <;> omega)))))
  have R0 := (Blk.new w #[.float .f32 r.X, .float .f32 r.Y, .float .f32 r.H, .float .f32 r.DX, .float .f32 r.DY, .float .f32 r.DH, .float .f32 r.Mo] 29).alloc (.cells #[.int .i64 c.x, .int .i64 c.y, .int .i64 (c.x2 - c.x), .int .i64 (c.y2 - c.y)] 23)
  have C0 := Reg.new (w.alloc (.cells #[.float .f32 r.X, .float .f32 r.Y, .float .f32 r.H, .float .f32 r.DX, .float .f32 r.DY, .float .f32 r.DH, .float .f32 r.Mo] 29)) c.x c.y (c.x2 - c.x) (c.y2 - c.y)
  rw [show (w.alloc (.cells #[.float .f32 r.X, .float .f32 r.Y, .float .f32 r.H, .float .f32 r.DX, .float .f32 r.DY, .float .f32 r.DH, .float .f32 r.Mo] 29)).heap.size = w.heap.size + 1 from by simp] at C0
  generalize (w.alloc (.cells #[.float .f32 r.X, .float .f32 r.Y, .float .f32 r.H, .float .f32 r.DX, .float .f32 r.DY, .float .f32 r.DH, .float .f32 r.Mo] 29)).alloc (.cells #[.int .i64 c.x, .int .i64 c.y, .int .i64 (c.x2 - c.x), .int .i64 (c.y2 - c.y)] 23) = W0 at *
  have p0 : W0.cell? ⟨w.heap.size, 0, none⟩ = some (.float .f32 r.X) := R0.cell 0
  have p1 : W0.cell? ⟨w.heap.size, 1, none⟩ = some (.float .f32 r.Y) := R0.cell 1
  have p3 : W0.cell? ⟨w.heap.size, 3, none⟩ = some (.float .f32 r.DX) := R0.cell 3
  have p4 : W0.cell? ⟨w.heap.size, 4, none⟩ = some (.float .f32 r.DY) := R0.cell 4
  have p6 : W0.cell? ⟨w.heap.size, 6, none⟩ = some (.float .f32 r.Mo) := R0.cell 6
  have lr := R0.lt
  obtain ⟨s0, s1, s2, s3⟩ := C0.cells
  have ls := C0.lt
  have HB0 := Lib.hid b0
  clear R0 C0 b0
  go_wp2_with fail
  refine (K1.out _).mono ?_
  rintro e w1 ⟨rfl, rfl⟩
  go_wp2_with fail
  refine (K2.out _).mono ?_
  rintro e w1 ⟨rfl, rfl⟩
  go_wp2_with fail
  go_quiet (first | (go_at_call 30; first | (with_reducible exact Calls.quiet_of_same ((KG1.out _).mono fun _ _ h => ⟨h.1, h.2.symm⟩)) | (with_reducible exact Calls.quiet_of_same ((KG2.out _).mono fun _ _ h => ⟨h.1, h.2.symm⟩))) | (go_at_call 29; first | (with_reducible exact Calls.quiet_of_same ((KL1.out _).mono fun _ _ h => ⟨h.1, h.2.symm⟩)) | (with_reducible exact Calls.quiet_of_same ((KL2.out _).mono fun _ _ h => ⟨h.1, h.2.symm⟩))))
  clear e1 e2 e3 e4 e5 e6 e7 e8 K1 K2 KG1 KG2 KL1 KL2
  cases a
  · clear l1 l2
    go_wp2_with fail
    exact bodyPost_ret (v := .tuple #[.float .f32 I, .float .f32 O, .bool false]) (by simp [results, Try.results27, go_sem, *]) rfl ⟨rfl, by have hb := HB0.out; exact (by have hszz := hb.size; repeat (first | with_reducible exact hb | with_reducible apply Below.drew | with_reducible refine below_drewN ?_ _ | (with_reducible refine Below.setCell ?_ ?_ _; rotate_left; focus (first | omega | (simp <;> omega))) | (with_reducible refine Below.alloc ?_ ?_ _; rotate_left; focus (first | omega | (simp <;> omega)))))⟩
  · cases b
    · clear l1 l2
      go_wp2_with fail
      exact bodyPost_ret (v := .tuple #[.float .f32 I, .float .f32 O, .bool false]) (by simp [results, Try.results27, go_sem, *]) rfl ⟨rfl, by have hb := HB0.out; exact (by have hszz := hb.size; repeat (first | with_reducible exact hb | with_reducible apply Below.drew | with_reducible refine below_drewN ?_ _ | (with_reducible refine Below.setCell ?_ ?_ _; rotate_left; focus (first | omega | (simp <;> omega))) | (with_reducible refine Below.alloc ?_ ?_ _; rotate_left; focus (first | omega | (simp <;> omega)))))⟩
    · cases x1
      · cases x2
        · go_wp2_with fail
          exact bodyPost_ret (v := .tuple #[.float .f32 I, .float .f32 O, .bool false]) (by simp [results, Try.results27, go_sem, *]) rfl ⟨rfl, by have hb := HB0.out; exact (by have hszz := hb.size; repeat (first | with_reducible exact hb | with_reducible apply Below.drew | with_reducible refine below_drewN ?_ _ | (with_reducible refine Below.setCell ?_ ?_ _; rotate_left; focus (first | omega | (simp <;> omega))) | (with_reducible refine Below.alloc ?_ ?_ _; rotate_left; focus (first | omega | (simp <;> omega)))))⟩
        · go_wp2_with fail
          exact bodyPost_ret (v := .tuple #[.float .f32 I, .float .f32 O, .bool true]) (by simp [results, Try.results27, go_sem, *]) rfl ⟨rfl, by have hb := HB0.out; exact (by have hszz := hb.size; repeat (first | with_reducible exact hb | with_reducible apply Below.drew | with_reducible refine below_drewN ?_ _ | (with_reducible refine Below.setCell ?_ ?_ _; rotate_left; focus (first | omega | (simp <;> omega))) | (with_reducible refine Below.alloc ?_ ?_ _; rotate_left; focus (first | omega | (simp <;> omega)))))⟩
      · clear l2
        go_wp2_with fail
        exact bodyPost_ret (v := .tuple #[.float .f32 I, .float .f32 O, .bool true]) (by simp [results, Try.results27, go_sem, *]) rfl ⟨rfl, by have hb := HB0.out; exact (by have hszz := hb.size; repeat (first | with_reducible exact hb | with_reducible apply Below.drew | with_reducible refine below_drewN ?_ _ | (with_reducible refine Below.setCell ?_ ?_ _; rotate_left; focus (first | omega | (simp <;> omega))) | (with_reducible refine Below.alloc ?_ ?_ _; rotate_left; focus (first | omega | (simp <;> omega)))))⟩
end Go.Proofs.Ytiiogjjjgoeghaa
