import Derived.Test.YtnfebeebjelgbaaBrushTop
namespace Go.Proofs.Ytnfebeebjelgbaa
open Go.ChangeShapes Go.WideShapes Go.ChangeAt Go.RowKit
open Ieee.Format (fin finE htE allFin allHt all_true all_false mulF subF addF Ht Bd divF rootF floorF easeF mixF)
set_option linter.unusedVariables false

/-- outside of its box a brush weighs nothing -/
theorem out_box {k X Y R x y : Int} (r1 : 1 ≤ R) (h : ¬ inR (X - R + 1) (Y - R + 1) (2 * R - 1) (2 * R - 1) x y) : weightF k (sqD x y X Y) R = 0 := by
  unfold weightF
  rw [if_pos]
  have sq : ∀ n : Int, R ≤ n ∨ n ≤ -R → R * R ≤ n * n := by
    intro n hn
    rcases hn with hn | hn
    · exact Int.mul_le_mul hn hn (by omega) (by omega)
    · have := Int.mul_le_mul (show R ≤ -n by omega) (show R ≤ -n by omega) (by omega) (by omega)
      rw [Int.neg_mul_neg] at this
      exact this
  have nn : ∀ n : Int, 0 ≤ n * n := by
    intro n
    rcases Int.le_total 0 n with c | c
    · exact Int.mul_nonneg c c
    · have := Int.mul_nonneg (show 0 ≤ -n by omega) (show 0 ≤ -n by omega)
      rw [Int.neg_mul_neg] at this
      exact this
  unfold inR at h
  unfold sqD
  have a := nn (x - X)
  have b := nn (y - Y)
  by_cases c1 : R ≤ x - X ∨ x - X ≤ -R
  · have := sq _ c1; omega
  · have := sq (y - Y) (by omega); omega
theorem share_tests {z : Nat} (h : Share z) : (FloatKind.f32.format.order z 0 == some .gt || FloatKind.f32.format.order z 0 == some .eq) = true ∧ (FloatKind.f32.format.order z 1065353216 == some .lt || FloatKind.f32.format.order z 1065353216 == some .eq) = true := by
  obtain ⟨h1, h2, h3⟩ := h
  have e1 : (FloatKind.f32.format.order z 0 == some .gt) = decide (Ieee.single.V 0 < Ieee.single.V z) := Ieee.single.order_gt h1 Ieee.Format.const_0.1
  have e2 : (FloatKind.f32.format.order z 0 == some .eq) = decide (Ieee.single.V z = Ieee.single.V 0) := Ieee.single.order_eq h1 Ieee.Format.const_0.1
  have e3 : (FloatKind.f32.format.order z 1065353216 == some .lt) = decide (Ieee.single.V z < Ieee.single.V 1065353216) := Ieee.single.order_lt h1 Ieee.Format.const_1.1
  have e4 : (FloatKind.f32.format.order z 1065353216 == some .eq) = decide (Ieee.single.V z = Ieee.single.V 1065353216) := Ieee.single.order_eq h1 Ieee.Format.const_1.1
  rw [e1, e2, e3, e4, Ieee.Format.const_0.2.1, Ieee.Format.const_1.2.1]
  constructor
  · by_cases c : Ieee.single.V z = 0
    · simp [c]
    · have : 0 < Ieee.single.V z := by grind
      simp [this]
  · by_cases c : Ieee.single.V z = 1
    · simp [c]
    · have : Ieee.single.V z < 1 := by grind
      simp [this]
theorem zero_eq : (FloatKind.f32.format.order 0 0 == some .eq) = true := by decide
end Go.Proofs.Ytnfebeebjelgbaa
