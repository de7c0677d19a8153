import Derived.Test.YtfmbekdfigbfiaaM2
namespace Go.Proofs.Ytfmbekdfigbfiaa
open Go.ChangeShapes Go.WideShapes Go.ChangeAt Go.RowKit
open Ieee.Format (fin finE htE allFin allHt all_true all_false finE_ok finE_bad htE_ok htE_far htE_bad easeF ease1 ease2 ease3 mulF subF addF)
set_option linter.unusedVariables false

def lss (x y : Nat) : Bool := FloatKind.f32.format.order x y == some .lt
def gtr (x y : Nat) : Bool := FloatKind.f32.format.order x y == some .gt
def shareE (t : Nat) : Int := if fin Ieee.single t then (if lss t 0 || gtr t 1065353216 then 3 else 0) else 2
theorem shareE_bad {t : Nat} (h : ¬ fin Ieee.single t) : shareE t = 2 := by unfold shareE; rw [if_neg h]
theorem shareE_far {t : Nat} (h : fin Ieee.single t) (h2 : (lss t 0 || gtr t 1065353216) = true) : shareE t = 3 := by unfold shareE; rw [if_pos h, if_pos h2]
theorem shareE_ok {t : Nat} (h : fin Ieee.single t) (h2 : (lss t 0 || gtr t 1065353216) = false) : shareE t = 0 := by unfold shareE; rw [if_pos h, h2]; rfl

theorem row_one (w : World) (x : Nat) (hx : x < 4294967296) (t : TypeId) : SRow (w.alloc (.cells #[.float .f32 x] t)) (some ⟨w.heap.size, 0, none⟩) [x] := by
  refine ⟨⟨by simp, by simpa using hx⟩, .inr ⟨w.heap.size, 0, rfl, ?_⟩⟩
  intro i hi
  have : i = 0 := by simp at hi; omega
  subst this
  simp

theorem share_any (t : Nat) (ht : t < 4294967296) (w : World) : Calls Try.prog 114 #[.float .f32 t] w fun e w' => e = .returned (.int .i64 (shareE t)) ∧ Below w.heap.size w w' := by
  have K := Lib.hid (fun w c => finites_any (some ⟨w.heap.size, 0, none⟩) c [t] (w.alloc (.cells #[.float .f32 t] /-T-/27)) (row_one w t ht _))
  by_cases hf : fin Ieee.single t
  · have e1 : finE [t] = 0 := finE_ok (by unfold allFin; simp [hf])
    rw [e1] at K
    cases hl : lss t 0 with
    | true =>
      have hE := Lib.hid (shareE_far hf (by rw [hl]; rfl))
      change (FloatKind.f32.format.order t 0 == some .lt) = true at hl
      clear hf e1 ht
      go_enter Try.func114, Try.ntmps114
      go_wp2_with (go_at_call 142; refine (K.out _ _).mono ?_; rintro e w' ⟨rfl, rfl⟩)
      go_ret
      exact ⟨ret_i64 hE.out.symm, (by repeat (first | with_reducible exact Below.refl _ _ | with_reducible apply Below.drew | with_reducible refine below_drewN ?_ _ | (with_reducible refine Below.setCell ?_ ?_ _; rotate_left; focus (simp <;> omega)) | (with_reducible refine Below.alloc ?_ ?_ _; rotate_left; focus (simp <;> omega))))⟩
    | false =>
      cases hg : gtr t 1065353216 with
      | true =>
        have hE := Lib.hid (shareE_far hf (by rw [hl, hg]; rfl))
        change (FloatKind.f32.format.order t 0 == some .lt) = false at hl
        change (FloatKind.f32.format.order t 1065353216 == some .gt) = true at hg
        clear hf e1 ht
        go_enter Try.func114, Try.ntmps114
        go_wp2_with (go_at_call 142; refine (K.out _ _).mono ?_; rintro e w' ⟨rfl, rfl⟩)
        go_ret
        exact ⟨ret_i64 hE.out.symm, (by repeat (first | with_reducible exact Below.refl _ _ | with_reducible apply Below.drew | with_reducible refine below_drewN ?_ _ | (with_reducible refine Below.setCell ?_ ?_ _; rotate_left; focus (simp <;> omega)) | (with_reducible refine Below.alloc ?_ ?_ _; rotate_left; focus (simp <;> omega))))⟩
      | false =>
        have hE := Lib.hid (shareE_ok hf (by rw [hl, hg]; rfl))
        change (FloatKind.f32.format.order t 0 == some .lt) = false at hl
        change (FloatKind.f32.format.order t 1065353216 == some .gt) = false at hg
        clear hf e1 ht
        go_enter Try.func114, Try.ntmps114
        go_wp2_with (go_at_call 142; refine (K.out _ _).mono ?_; rintro e w' ⟨rfl, rfl⟩)
        go_ret
        exact ⟨ret_i64 hE.out.symm, (by repeat (first | with_reducible exact Below.refl _ _ | with_reducible apply Below.drew | with_reducible refine below_drewN ?_ _ | (with_reducible refine Below.setCell ?_ ?_ _; rotate_left; focus (simp <;> omega)) | (with_reducible refine Below.alloc ?_ ?_ _; rotate_left; focus (simp <;> omega))))⟩
  · have e1 : finE [t] = 2 := finE_bad (by unfold allFin; simp [hf])
    rw [e1] at K
    have hE := Lib.hid (shareE_bad hf)
    clear hf e1 ht
    go_enter Try.func114, Try.ntmps114
    go_wp2_with (go_at_call 142; refine (K.out _ _).mono ?_; rintro e w' ⟨rfl, rfl⟩)
    go_ret
    exact ⟨ret_i64 hE.out.symm, (by repeat (first | with_reducible exact Below.refl _ _ | with_reducible apply Below.drew | with_reducible refine below_drewN ?_ _ | (with_reducible refine Below.setCell ?_ ?_ _; rotate_left; focus (simp <;> omega)) | (with_reducible refine Below.alloc ?_ ?_ _; rotate_left; focus (simp <;> omega))))⟩

/-- a share: finite and from 0 to 1 -/
def Share (t : Nat) : Prop := fin Ieee.single t ∧ 0 ≤ Ieee.single.V t ∧ Ieee.single.V t ≤ 1
theorem share_of {t : Nat} (h : fin Ieee.single t) (h2 : (lss t 0 || gtr t 1065353216) = false) : Share t := by
  have a : lss t 0 = decide (Ieee.single.V t < Ieee.single.V 0) := Ieee.single.order_lt h Ieee.Format.const_0.1
  have b : gtr t 1065353216 = decide (Ieee.single.V 1065353216 < Ieee.single.V t) := Ieee.single.order_gt h Ieee.Format.const_1.1
  rw [a, b, Ieee.Format.const_0.2.1, Ieee.Format.const_1.2.1, Bool.or_eq_false_iff] at h2
  have c := of_decide_eq_false h2.1
  have d := of_decide_eq_false h2.2
  exact ⟨h, by grind, by grind⟩

theorem ret_f32e {a b : Nat} {c d : Int} (h : a = b) (h' : c = d) : Ending.returned (.tuple #[.float .f32 a, .int .i64 c]) = .returned (.tuple #[.float .f32 b, .int .i64 d]) := by rw [h, h']

/-- 'one' where both errors are the same -/
theorem one_err (a b : Nat) (c : Int) (hc : c ≠ 0) (w : World) : Calls Try.prog 19 #[.float .f32 a, .int .i64 c, .float .f32 b, .int .i64 c] w fun e w' => e = .returned (.bool (decide (a = 0))) ∧ w = w' := by
  have hb : (c != 0) = true := by rw [bne_iff_ne]; exact hc
  clear hc
  have K := Lib.hid (fun w => bits_any a 0 w)
  generalize decide (a = 0) = r at *
  go_enter Try.func19, Try.ntmps19
  go_wp2_with (go_at_call 37; refine (K.out _).mono ?_; rintro e w1 ⟨rfl, rfl⟩)
  go_ret
  exact ⟨rfl, rfl⟩
theorem one_ok (a b : Nat) (w : World) : Calls Try.prog 19 #[.float .f32 a, .int .i64 0, .float .f32 b, .int .i64 0] w fun e w' => e = .returned (.bool (decide (a = b))) ∧ w = w' := by
  have K := Lib.hid (fun w => bits_any a b w)
  generalize decide (a = b) = r at *
  go_enter Try.func19, Try.ntmps19
  go_wp2_with (go_at_call 37; refine (K.out _).mono ?_; rintro e w1 ⟨rfl, rfl⟩)
  go_ret
  exact ⟨rfl, rfl⟩
end Go.Proofs.Ytfmbekdfigbfiaa
