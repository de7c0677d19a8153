import Derived.Test.YtnfebeebjelgbaaFloatM
import Derived.Test.YtnfebeebjelgbaaM3
namespace Go.Proofs.Ytnfebeebjelgbaa
open Go.ChangeShapes Go.WideShapes Go.ChangeAt Go.RowKit
open Ieee.Format (fin finE htE allFin allHt all_true all_false mulF subF addF Ht Bd divF rootF floorF easeF mixF)
set_option linter.unusedVariables false

/-! ### tiles of a region, in plain Lean -/
/-- a region as four integers -/
abbrev Rg := Int × Int × Int × Int
def rgV (r : Rg) : List Value := [.int .i64 r.1, .int .i64 r.2.1, .int .i64 r.2.2.1, .int .i64 r.2.2.2]
def rgs (l : List Rg) : List Value := l.flatMap rgV
theorem rgs_append (l m : List Rg) : rgs (l ++ m) = rgs l ++ rgs m := by unfold rgs; simp
theorem rgs_one (r : Rg) : rgs [r] = rgV r := by unfold rgs; simp
theorem rgs_len (l : List Rg) : (rgs l).length = l.length * 4 := by
  induction l with
  | nil => rfl
  | cons a l ih =>
    have : rgs (a :: l) = rgV a ++ rgs l := rfl
    rw [this, List.length_append, ih]; simp [rgV]; omega
/-- where the part of tile i begins -/
def tlo (X s : Int) (i : Nat) : Int := max X (X / s * s + i * s)
def twd (X W s : Int) (i : Nat) : Int := min (X + W) (X / s * s + i * s + s) - tlo X s i
/-- how many tiles a side reaches -/
def tnm (X W s : Int) : Nat := ((X + W - 1) / s - X / s + 1).toNat
def tile1 (X Y W H s : Int) (i j : Nat) : Rg := (tlo X s i, tlo Y s j, twd X W s i, twd Y H s j)
def tilesN (X Y W H s : Int) (n k : Nat) : List Rg := (List.range k).map fun t => tile1 X Y W H s (t % n) (t / n)
theorem tilesN_len (X Y W H s : Int) (n k : Nat) : (tilesN X Y W H s n k).length = k := by simp [tilesN]
theorem tilesN_succ (X Y W H s : Int) (n i j : Nat) (h : i < n) : tilesN X Y W H s n (j * n + (i + 1)) = tilesN X Y W H s n (j * n + i) ++ [tile1 X Y W H s i j] := by
  unfold tilesN
  rw [← Nat.add_assoc, List.range_succ, List.map_append]
  congr 1
  have h1 : (j * n + i) % n = i := by rw [Nat.mul_comm, Nat.mul_add_mod]; exact Nat.mod_eq_of_lt h
  have h2 : (j * n + i) / n = j := by rw [Nat.mul_comm, Nat.mul_add_div (by omega), Nat.div_eq_of_lt h]; omega
  simp [h1, h2]

theorem div_parts (x s : Int) (hs : 1 ≤ s) : x / s * s ≤ x ∧ x < x / s * s + s := by
  have h1 := Int.emod_add_mul_ediv x s
  have h2 := Int.emod_nonneg x (show s ≠ 0 by omega)
  have h3 := Int.emod_lt_of_pos x (show 0 < s by omega)
  rw [Int.mul_comm s] at h1
  omega
theorem div_mono (x y s : Int) (hs : 1 ≤ s) (h : x ≤ y) : x / s ≤ y / s := Int.ediv_le_ediv (by omega) h
/-- bounds of one part -/
theorem twd_bd (X W s : Int) (i : Nat) (hs : 1 ≤ s) (hw : 1 ≤ W) (hi : i < tnm X W s) :
    X ≤ tlo X s i ∧ 1 ≤ twd X W s i ∧ tlo X s i + twd X W s i ≤ X + W ∧ twd X W s i ≤ s := by
  have h1 := div_parts X s hs
  have h2 := div_parts (X + W - 1) s hs
  have h3 : X / s + (i : Int) ≤ (X + W - 1) / s := by unfold tnm at hi; omega
  have h4 : (X / s + (i : Int)) * s ≤ (X + W - 1) / s * s := Int.mul_le_mul_of_nonneg_right h3 (by omega)
  have h5 : 0 ≤ (i : Int) * s := Int.mul_nonneg (by omega) (by omega)
  rw [Int.add_mul] at h4
  unfold twd tlo
  generalize (i : Int) * s = P at *
  generalize X / s * s = A at *
  generalize (X + W - 1) / s * s = B at *
  omega
theorem tnm_pos (X W s : Int) (hs : 1 ≤ s) (hw : 1 ≤ W) : 1 ≤ tnm X W s ∧ (tnm X W s : Int) = (X + W - 1) / s - X / s + 1 := by
  have := div_mono X (X + W - 1) s hs (by omega)
  unfold tnm; omega
theorem tnm_le (X W s : Int) (hs : 1 ≤ s) (hw : 1 ≤ W) : (tnm X W s : Int) ≤ W := by
  rw [(tnm_pos X W s hs hw).2]
  have : (X + W - 1) / s ≤ X / s + (W - 1) := by
    have h1 := div_parts X s hs
    have h2 := div_parts (X + W - 1) s hs
    rcases Int.lt_or_le (X / s + (W - 1)) ((X + W - 1) / s) with h | h
    · exfalso
      have h4 : (X / s + W) * s ≤ (X + W - 1) / s * s := Int.mul_le_mul_of_nonneg_right (by omega) (by omega)
      rw [Int.add_mul] at h4
      have h6 : W * 1 ≤ W * s := Int.mul_le_mul_of_nonneg_left hs (by omega)
      have h7 : (W - 1) * 1 ≤ (W - 1) * s := Int.mul_le_mul_of_nonneg_left hs (by omega)
      have h8 : (W - 1) * s = W * s - s := by rw [Int.sub_mul, Int.one_mul]
      rw [Int.mul_one, h8] at h7
      generalize X / s * s = A at *
      generalize (X + W - 1) / s * s = B at *
      generalize W * s = C at *
      omega
    · exact h
  omega

/-! the parts of a side add up -/
def tsum (X W s : Int) : Nat → Int
  | 0 => 0
  | k + 1 => tsum X W s k + twd X W s k
theorem tsum_to (X W s : Int) (hs : 1 ≤ s) (hw : 1 ≤ W) (k : Nat) (hk : k ≤ tnm X W s) : tsum X W s k = max X (min (X + W) (X / s * s + k * s)) - X := by
  induction k with
  | zero =>
    have h1 := div_parts X s hs
    unfold tsum
    simp only [Int.natCast_zero, Int.zero_mul, Int.cast_ofNat_Int]
    omega
  | succ k ih =>
    have h0 := ih (by omega)
    have h1 := div_parts X s hs
    have h2 := div_parts (X + W - 1) s hs
    have h3 : X / s + (k : Int) ≤ (X + W - 1) / s := by have := (tnm_pos X W s hs hw).2; omega
    have h4 : (X / s + (k : Int)) * s ≤ (X + W - 1) / s * s := Int.mul_le_mul_of_nonneg_right h3 (by omega)
    have h5 : 0 ≤ (k : Int) * s := Int.mul_nonneg (by omega) (by omega)
    have h6 : ((k + 1 : Nat) : Int) * s = k * s + s := by rw [Int.natCast_add, Int.add_mul]; simp
    rw [Int.add_mul] at h4
    unfold tsum
    rw [h0, h6]
    unfold twd tlo
    generalize (k : Int) * s = P at *
    generalize X / s * s = A at *
    generalize (X + W - 1) / s * s = B at *
    omega
theorem tsum_all (X W s : Int) (hs : 1 ≤ s) (hw : 1 ≤ W) : tsum X W s (tnm X W s) = W := by
  rw [tsum_to X W s hs hw _ (Nat.le_refl _)]
  have h1 := div_parts X s hs
  have h2 := div_parts (X + W - 1) s hs
  have h3 : X / s * s + (tnm X W s : Int) * s = (X + W - 1) / s * s + s := by
    rw [(tnm_pos X W s hs hw).2, ← Int.add_mul]
    rw [show X / s + ((X + W - 1) / s - X / s + 1) = (X + W - 1) / s + 1 from by omega, Int.add_mul, Int.one_mul]
  rw [h3]
  generalize X / s * s = A at *
  generalize (X + W - 1) / s * s = B at *
  omega

/-- the area of some regions -/
def areaR (l : List Rg) : Int := (l.map fun r => r.2.2.1 * r.2.2.2).sum
theorem areaR_snoc (l : List Rg) (r : Rg) : areaR (l ++ [r]) = areaR l + r.2.2.1 * r.2.2.2 := by simp [areaR]
theorem area_row (X Y W H s : Int) (n j i : Nat) (hi : i ≤ n) : areaR (tilesN X Y W H s n (j * n + i)) = areaR (tilesN X Y W H s n (j * n)) + tsum X W s i * twd Y H s j := by
  induction i with
  | zero => simp [tsum]
  | succ i ih =>
    rw [tilesN_succ X Y W H s n i j (by omega), areaR_snoc, ih (by omega)]
    show _ + tsum X W s i * twd Y H s j + twd X W s i * twd Y H s j = _ + (tsum X W s i + twd X W s i) * twd Y H s j
    rw [Int.add_mul, Int.add_assoc]
theorem area_rows (X Y W H s : Int) (n j : Nat) : areaR (tilesN X Y W H s n (j * n)) = tsum X W s n * tsum Y H s j := by
  induction j with
  | zero => simp [tsum, tilesN, areaR]
  | succ j ih =>
    rw [show (j + 1) * n = j * n + n from Nat.succ_mul j n, area_row X Y W H s n j n (Nat.le_refl _), ih]
    show _ = tsum X W s n * (tsum Y H s j + twd Y H s j)
    rw [Int.mul_add]
/-- all tiles of a region -/
def tilesL (X Y W H s : Int) : List Rg := tilesN X Y W H s (tnm X W s) (tnm Y H s * tnm X W s)
theorem area_tiles (X Y W H s : Int) (hs : 1 ≤ s) (hw : 1 ≤ W) (hh : 1 ≤ H) : areaR (tilesL X Y W H s) = W * H := by
  unfold tilesL
  rw [area_rows, tsum_all X W s hs hw, tsum_all Y H s hs hh]
end Go.Proofs.Ytnfebeebjelgbaa
