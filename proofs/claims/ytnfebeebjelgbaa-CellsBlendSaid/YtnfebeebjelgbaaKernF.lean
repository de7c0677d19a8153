import Derived.Test.YtnfebeebjelgbaaBrushF
import Derived.Test.YtnfebeebjelgbaaFloatQ
namespace Go.Proofs.Ytnfebeebjelgbaa
open Go.ChangeShapes Go.WideShapes Go.ChangeAt Go.RowKit
open Ieee.Format (fin finE htE allFin allHt all_true all_false mulF subF addF Ht Bd divF rootF floorF easeF mixF)
set_option linter.unusedVariables false
open Ieee.Format (He const_1)

/-! ### sums of products, in plain Lean -/
def kerF (κ g : Nat → Nat) : Nat → Nat
  | 0 => mulF (κ 0) (g 0)
  | m + 1 => addF (kerF κ g m) (mulF (κ (m + 1)) (g (m + 1)))
def blurS (g : Nat → Nat) : Nat → Nat
  | 0 => g 0
  | m + 1 => addF (blurS g m) (g (m + 1))
def blurF (g : Nat → Nat) (n : Nat) : Nat := divF (blurS g (n * n - 1)) (cv ((n * n : Nat) : Int))
theorem kerF_he {κ g : Nat → Nat} (hk : ∀ i, Bd 20 (κ i)) (hg : ∀ i, Bd 20 (g i)) (m : Nat) (hm : m ≤ 4000) : He 40 (m + 1) (kerF κ g m) := by
  induction m with
  | zero => exact He.one ((hk 0).mul (hg 0) (by omega))
  | succ m ih => exact (ih (by omega)).add ((hk _).mul (hg _) (by omega)) (by omega) (by omega)
theorem blurS_he {g : Nat → Nat} (hg : ∀ i, Bd 20 (g i)) (m : Nat) (hm : m ≤ 4000) : He 20 (m + 1) (blurS g m) := by
  induction m with
  | zero => exact He.one (hg 0)
  | succ m ih => exact (ih (by omega)).add (hg _) (by omega) (by omega)
theorem kerF_lt (κ g : Nat → Nat) (m : Nat) : kerF κ g m < 4294967296 := by
  cases m with
  | zero => exact Ieee.Format.mulF_lt _ _
  | succ m => exact Ieee.Format.addF_lt _ _
theorem blurF_lt (g : Nat → Nat) (n : Nat) : blurF g n < 4294967296 := Ieee.Format.divF_lt _ _
theorem ker_step {κ g : Nat → Nat} (hk : ∀ i, Bd 20 (κ i)) (hg : ∀ i, Bd 20 (g i)) (m : Nat) (hm : m ≤ 3999) :
    fin Ieee.single (kerF κ g m) ∧ fin Ieee.single (mulF (κ (m + 1)) (g (m + 1))) ∧ fin Ieee.single (kerF κ g (m + 1)) :=
  ⟨(kerF_he hk hg m (by omega)).1, ((hk _).mul (hg _) (by omega)).1, (kerF_he hk hg (m + 1) (by omega)).1⟩
theorem blur_step {g : Nat → Nat} (hg : ∀ i, Bd 20 (g i)) (m : Nat) (hm : m ≤ 3999) :
    fin Ieee.single (blurS g m) ∧ fin Ieee.single (g (m + 1)) ∧ fin Ieee.single (blurS g (m + 1)) :=
  ⟨(blurS_he hg m (by omega)).1, (hg _).1, (blurS_he hg (m + 1) (by omega)).1⟩
theorem blur_end {g : Nat → Nat} (hg : ∀ i, Bd 20 (g i)) {n : Nat} (h1 : 1 ≤ n) (h2 : n ≤ 33) :
    fin Ieee.single (blurS g (n * n - 1)) ∧ fin Ieee.single (cv ((n * n : Nat) : Int)) ∧ Ieee.single.V (cv ((n * n : Nat) : Int)) ≠ 0 ∧ fin Ieee.single (blurF g n) := by
  have a := Nat.mul_le_mul h2 h2
  have b := Nat.mul_le_mul h1 h1
  have c := blurS_he hg (n * n - 1) (by omega)
  obtain ⟨d1, d2, d3, d4⟩ := cv_pos (n := ((n * n : Nat) : Int)) (by omega) (by omega)
  have p := cv_gt0 (n := ((n * n : Nat) : Int)) (by omega) (by omega)
  have e := c.bd (by omega)
  have one : 1 ≤ Ieee.single.V (cv ((n * n : Nat) : Int)) := by
    rw [d2]
    have : ((1 : Int) : Rat) ≤ (((n * n : Nat) : Int) : Rat) := Rat.intCast_le_intCast.2 (by omega)
    exact this
  exact ⟨c.1, d1, by grind, (Ieee.Format.div_one e d1 one (by omega)).1⟩
end Go.Proofs.Ytnfebeebjelgbaa
