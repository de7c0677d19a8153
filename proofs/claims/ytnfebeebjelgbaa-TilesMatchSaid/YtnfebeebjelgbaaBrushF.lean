import Derived.Test.YtnfebeebjelgbaaShadeOp
import Derived.Test.YtnfebeebjelgbaaCount
namespace Go.Proofs.Ytnfebeebjelgbaa
open Go.ChangeShapes Go.WideShapes Go.ChangeAt Go.RowKit
open Ieee.Format (fin finE htE allFin allHt all_true all_false mulF subF addF Ht Bd divF rootF floorF easeF mixF)
set_option linter.unusedVariables false
open Ieee.Format (conv_exact const_1 const_0)

/-! ### a brush's weight, in plain Lean -/
def wCone (d R : Int) : Nat := subF 1065353216 (divF (rootF (cv d)) (cv R))
def wBell1 (d r : Int) : Nat := subF 1065353216 (divF (cv d) (cv r))
def wBell (d r : Int) : Nat := mulF (wBell1 d r) (wBell1 d r)
def weightF (k d R : Int) : Nat := if R * R ≤ d then 0 else if k = 1 then 1065353216 else if k = 2 then wCone d R else wBell d (R * R)
def stF (H v wt : Nat) : Nat := addF v (mulF H wt)

theorem share_sub {q : Nat} (h : Share q) : Share (subF 1065353216 q) := by
  obtain ⟨h1, h2, h3⟩ := h
  have hs := (Ieee.Format.subF_spec const_1.1 h1).2
  rw [const_1.2.1] at hs
  obtain ⟨a, b, _⟩ := hs.bound (c := 1065353216) const_1.1 (by decide) (by rw [const_1.2.1]; grind) (by rw [const_1.2.1]; grind)
  rw [const_1.2.1] at b
  exact ⟨a, hs.nonneg a (by grind), b⟩
theorem share_mul {q : Nat} (h : Share q) : Share (mulF q q) := by
  obtain ⟨h1, h2, h3⟩ := h
  have hs := (Ieee.Format.mulF_spec h1 h1).2
  have hp : 0 ≤ Ieee.single.V q * Ieee.single.V q := Rat.mul_nonneg h2 h2
  have hq : Ieee.single.V q * Ieee.single.V q ≤ 1 := by
    have := Rat.mul_le_mul_of_nonneg_left h3 h2
    grind
  obtain ⟨a, b, _⟩ := hs.bound (c := 1065353216) const_1.1 (by decide) (by rw [const_1.2.1]; grind) (by rw [const_1.2.1]; grind)
  rw [const_1.2.1] at b
  exact ⟨a, hs.nonneg a hp, b⟩
theorem quo_share {x y : Nat} (hx : fin Ieee.single x) (hy : fin Ieee.single y) (h0 : 0 < Ieee.single.V y) (h1 : 0 ≤ Ieee.single.V x) (h2 : Ieee.single.V x ≤ Ieee.single.V y) : Share (divF x y) := by
  obtain ⟨a, b, c⟩ := Ieee.Format.div_bound (c := 1065353216) hx hy h0 const_1.1 (by decide) (by rw [const_1.2.1]; grind) (by rw [const_1.2.1]; grind)
  rw [const_1.2.1] at b
  exact ⟨a, Ieee.Format.div_nonneg hx hy h0 a h1, b⟩
theorem cv_pos {n : Int} (h1 : 0 ≤ n) (h2 : n < 16777216) : fin Ieee.single (cv n) ∧ Ieee.single.V (cv n) = (n : Rat) ∧ Ieee.single.sgn (cv n) = false ∧ 0 ≤ Ieee.single.V (cv n) := by
  obtain ⟨a, b, c⟩ := conv_exact n h2 (by omega)
  refine ⟨a, b, by rw [c]; simp; omega, ?_⟩
  rw [b]
  exact Rat.intCast_le_intCast.2 h1
theorem cv_lt {n m : Int} (h1 : 0 ≤ n) (h2 : n ≤ m) (h3 : m < 16777216) : Ieee.single.V (cv n) ≤ Ieee.single.V (cv m) := by
  rw [(cv_pos h1 (by omega)).2.1, (cv_pos (by omega) h3).2.1]
  exact Rat.intCast_le_intCast.2 h2
theorem cv_gt0 {n : Int} (h1 : 1 ≤ n) (h2 : n < 16777216) : 0 < Ieee.single.V (cv n) := by
  rw [(cv_pos (by omega) h2).2.1]
  have : ((1 : Int) : Rat) ≤ (n : Rat) := Rat.intCast_le_intCast.2 h1
  have e : ((1 : Int) : Rat) = 1 := rfl
  rw [e] at this
  grind
theorem sq_rad {R : Int} (h1 : 1 ≤ R) (h2 : R ≤ 256) : 1 ≤ R * R ∧ R * R ≤ 65536 := by
  have a := Int.mul_le_mul h2 h2 (by omega) (by omega)
  have b := Int.mul_le_mul h1 h1 (by omega) (by omega)
  omega
/-- what the cone's steps give -/
theorem cone_ok {d R : Int} (h0 : 0 ≤ d) (h : d < R * R) (h1 : 1 ≤ R) (h2 : R ≤ 256) :
    fin Ieee.single (cv d) ∧ 0 ≤ Ieee.single.V (cv d) ∧ fin Ieee.single (rootF (cv d)) ∧ fin Ieee.single (cv R) ∧ 0 < Ieee.single.V (cv R) ∧ Share (divF (rootF (cv d)) (cv R)) ∧ Share (wCone d R) := by
  obtain ⟨_, hr⟩ := sq_rad h1 h2
  obtain ⟨a, b, _, c⟩ := cv_pos h0 (show d < 16777216 by omega)
  obtain ⟨a', b', s', c'⟩ := cv_pos (show 0 ≤ R by omega) (show R < 16777216 by omega)
  have p := cv_gt0 h1 (show R < 16777216 by omega)
  obtain ⟨X, Z, _, _, _, f, g, u, _⟩ := Ieee.Format.root_spec a c
  have hle : Ieee.single.V (rootF (cv d)) ≤ Ieee.single.V (cv R) := by
    refine u _ a' s' ?_
    rw [b, b', ← Rat.intCast_mul]
    exact Rat.intCast_le_intCast.2 (by omega)
  have hq := quo_share f a' p g hle
  exact ⟨a, c, f, a', p, hq, share_sub hq⟩
theorem bell_ok {d r : Int} (h0 : 0 ≤ d) (h : d < r) (hr : r ≤ 65536) :
    fin Ieee.single (cv d) ∧ fin Ieee.single (cv r) ∧ 0 < Ieee.single.V (cv r) ∧ Share (divF (cv d) (cv r)) ∧ Share (wBell1 d r) ∧ Share (wBell d r) := by
  obtain ⟨a, b, _, c⟩ := cv_pos h0 (show d < 16777216 by omega)
  obtain ⟨a', b', s', c'⟩ := cv_pos (show 0 ≤ r by omega) (show r < 16777216 by omega)
  have p := cv_gt0 (show 1 ≤ r by omega) (show r < 16777216 by omega)
  have hq := quo_share a a' p c (cv_lt h0 (by omega) (by omega))
  exact ⟨a, a', p, hq, share_sub hq, share_mul (share_sub hq)⟩
theorem weight_share {k d R : Int} (h0 : 0 ≤ d) (h1 : 1 ≤ R) (h2 : R ≤ 256) : Share (weightF k d R) := by
  unfold weightF
  split
  · exact ⟨const_0.1, by rw [const_0.2.1]; grind, by rw [const_0.2.1]; decide⟩
  · split
    · exact ⟨const_1.1, by rw [const_1.2.1]; decide, by rw [const_1.2.1]; grind⟩
    · split
      · exact (cone_ok h0 (by omega) h1 h2).2.2.2.2.2.2
      · exact (bell_ok h0 (by omega) (sq_rad h1 h2).2).2.2.2.2.2
theorem weightF_lt (k d R : Int) : weightF k d R < 4294967296 := by
  unfold weightF
  split
  · decide
  · split
    · decide
    · split
      · exact Ieee.Format.subF_lt _ _
      · exact Ieee.Format.mulF_lt _ _
theorem Share.bd {x : Nat} (h : Share x) : Bd 0 x := by
  obtain ⟨a, b, c⟩ := h
  have p := Ieee.P2_nat 0
  have e : Ieee.P2 ((0 : Nat) : Int) = 1 := by rw [Ieee.P2_nat]; rfl
  exact ⟨a, by rw [e]; grind, by rw [e]; exact c⟩
theorem st_bd {H v wt : Nat} (hH : Bd 20 H) (hv : Bd 20 v) (hw : Share wt) : Bd 20 (mulF H wt) ∧ Bd 21 (stF H v wt) := by
  have a := hH.mul hw.bd (by omega)
  exact ⟨a, hv.add a (by omega)⟩
theorem stF_lt (H v wt : Nat) : stF H v wt < 4294967296 := Ieee.Format.addF_lt _ _

/-- the square of a distance -/
def sqD (x y X Y : Int) : Int := (x - X) * (x - X) + (y - Y) * (y - Y)
theorem sqD_bd {x y X Y : Int} (h1 : -4194304 ≤ X ∧ X ≤ 4194304 ∧ -4194304 ≤ Y ∧ Y ≤ 4194304) (h2 : -8388608 ≤ x ∧ x ≤ 8388608 ∧ -8388608 ≤ y ∧ y ≤ 8388608) :
    (0 ≤ (x - X) * (x - X) ∧ (x - X) * (x - X) ≤ 281474976710656) ∧ (0 ≤ (y - Y) * (y - Y) ∧ (y - Y) * (y - Y) ≤ 281474976710656) := by
  have a := sq_int (x - X) 16777216 (by omega) (by omega)
  have b := sq_int (y - Y) 16777216 (by omega) (by omega)
  omega
end Go.Proofs.Ytnfebeebjelgbaa
