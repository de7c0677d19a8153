import Derived.Test.YtlpbofhmpfilnaaWithin
namespace Go.Proofs.Ytlpbofhmpfilnaa
open Go.ChangeShapes Go.WideShapes Go.ChangeAt Go.RowKit
open Ieee.Format (fin finE htE allFin allHt all_true all_false mulF subF addF Ht Bd divF rootF floorF easeF mixF)
set_option linter.unusedVariables false
open Ieee.Format (conv_exact const_1)

abbrev cv (n : Int) : Nat := floatOfInt .f32 n
theorem cv_bd {n : Int} {k : Nat} (hk : k ≤ 23) (h1 : -(2 ^ k : Nat) ≤ n) (h2 : n ≤ (2 ^ k : Nat)) : Bd k (cv n) := by
  have hp : (2 ^ k : Nat) ≤ 2 ^ 23 := Nat.pow_le_pow_right (by omega) hk
  have : (2 : Nat) ^ 23 = 8388608 := by decide
  obtain ⟨a, b, _⟩ := conv_exact n (by omega) (by omega)
  refine ⟨a, ?_⟩
  rw [b, Ieee.P2_nat]
  constructor
  · rw [← Rat.intCast_natCast, ← Rat.intCast_neg]; exact Rat.intCast_le_intCast.2 h1
  · rw [← Rat.intCast_natCast]; exact Rat.intCast_le_intCast.2 h2
theorem sq_int (n m : Int) (h1 : -m ≤ n) (h2 : n ≤ m) : 0 ≤ n * n ∧ n * n ≤ m * m := by
  constructor
  · rcases Int.le_total 0 n with h | h
    · exact Int.mul_nonneg h h
    · have := Int.mul_nonneg (show 0 ≤ -n by omega) (show 0 ≤ -n by omega)
      rw [Int.neg_mul_neg] at this; exact this
  · rcases Int.le_total 0 n with h | h
    · exact Int.mul_le_mul h2 h2 h (by omega)
    · have := Int.mul_le_mul (show -n ≤ m by omega) (show -n ≤ m by omega) (show 0 ≤ -n by omega) (show 0 ≤ m by omega)
      rw [Int.neg_mul_neg] at this; exact this
theorem sq_pos {n : Int} (h : n ≠ 0) : 1 ≤ n * n := by
  rcases Int.lt_or_gt_of_ne h with h | h
  · have := Int.mul_le_mul (show 1 ≤ -n by omega) (show 1 ≤ -n by omega) (by omega) (show 0 ≤ -n by omega)
    rw [Int.neg_mul_neg] at this; omega
  · have := Int.mul_le_mul (show 1 ≤ n by omega) (show 1 ≤ n by omega) (by omega) (show 0 ≤ n by omega)
    omega
theorem cv_root {n : Int} (h1 : 1 ≤ n) (h2 : n < 16777216) : fin Ieee.single (cv n) ∧ 0 ≤ Ieee.single.V (cv n) ∧ fin Ieee.single (rootF (cv n)) ∧ 1 ≤ Ieee.single.V (rootF (cv n)) := by
  obtain ⟨a, b, _⟩ := conv_exact n h2 (by omega)
  have hb : 1 ≤ Ieee.single.V (cv n) := by
    rw [b]
    have : ((1 : Int) : Rat) ≤ (n : Rat) := Rat.intCast_le_intCast.2 h1
    exact this
  have h0 : 0 ≤ Ieee.single.V (cv n) := by grind
  obtain ⟨X, Z, _, _, _, f, _⟩ := Ieee.Format.root_spec a h0
  exact ⟨a, h0, f, Ieee.Format.root_one a hb⟩

theorem light_zero {x y z : Int} (h : lightE x y z = 0) : (-1000 ≤ x ∧ x ≤ 1000) ∧ (-1000 ≤ y ∧ y ≤ 1000) ∧ (-1000 ≤ z ∧ z ≤ 1000) ∧ ¬ (x = 0 ∧ y = 0 ∧ z = 0) := by
  unfold lightE at h
  cases hc : (inB 1000 x && inB 1000 y && inB 1000 z) with
  | false => rw [hc, if_pos rfl] at h; omega
  | true =>
    rw [hc, if_neg (by decide)] at h
    simp only [Bool.and_eq_true, inB, decide_eq_true_eq] at hc
    refine ⟨hc.1.1, hc.1.2, hc.2, fun e => ?_⟩
    rw [if_pos e] at h; omega
theorem light_ok {x y z : Int} (h : lightE x y z = 0) : LightOk (cv x) (cv y) (cv z) (rootF (cv (x * x + y * y + z * z))) ∧ fin Ieee.single (cv (x * x + y * y + z * z)) ∧ 0 ≤ Ieee.single.V (cv (x * x + y * y + z * z)) ∧
    (0 ≤ x * x ∧ x * x ≤ 1000000) ∧ (0 ≤ y * y ∧ y * y ≤ 1000000) ∧ (0 ≤ z * z ∧ z * z ≤ 1000000) := by
  obtain ⟨h1, h2, h3, h4⟩ := light_zero h
  have a := sq_int x 1000 h1.1 h1.2
  have b := sq_int y 1000 h2.1 h2.2
  have c := sq_int z 1000 h3.1 h3.2
  have hp : 1 ≤ x * x + y * y + z * z := by
    by_cases e1 : x = 0
    · by_cases e2 : y = 0
      · by_cases e3 : z = 0
        · exact absurd ⟨e1, e2, e3⟩ h4
        · have := sq_pos e3; omega
      · have := sq_pos e2; omega
    · have := sq_pos e1; omega
  obtain ⟨r1, r2, r3, r4⟩ := cv_root hp (by omega)
  exact ⟨⟨cv_bd (by omega) (by simp; omega) (by simp; omega), cv_bd (by omega) (by simp; omega) (by simp; omega), cv_bd (by omega) (by simp; omega) (by simp; omega), r3, r4⟩, r1, r2, by omega, by omega, by omega⟩

theorem light_world (w : World) (x y z : Int) (M A B C : Nat) : ∀ W0, W0 = ((((w.alloc (.cells #[.int .i64 x, .int .i64 y, .int .i64 z] 3)).alloc (.cells #[.float .f32 M] 28)).alloc (.cells #[.float .f32 A] 28)).alloc (.cells #[.float .f32 B] 28)).alloc (.cells #[.float .f32 C] 28) →
    Blk W0 (w.heap.size + 1) #[.float .f32 M] 28 ∧ Blk W0 (w.heap.size + 1 + 1) #[.float .f32 A] 28 ∧ Blk W0 (w.heap.size + 1 + 1 + 1) #[.float .f32 B] 28 ∧ Blk W0 (w.heap.size + 1 + 1 + 1 + 1) #[.float .f32 C] 28 ∧ Below w.heap.size w W0 := by
  rintro _ rfl
  refine ⟨?_, ?_, ?_, ?_, (by repeat (first | with_reducible exact Below.refl _ _ | with_reducible apply Below.drew | with_reducible refine below_drewN ?_ _ | (with_reducible refine Below.setCell ?_ ?_ _; rotate_left; focus (first | omega | (simp <;> omega))) | (with_reducible refine Below.alloc ?_ ?_ _; rotate_left; focus (first | omega | (simp <;> omega)))))⟩
  · have := (((Blk.new (w.alloc (.cells #[.int .i64 x, .int .i64 y, .int .i64 z] 3)) #[.float .f32 M] 28).alloc (.cells #[.float .f32 A] 28)).alloc (.cells #[.float .f32 B] 28)).alloc (.cells #[.float .f32 C] 28)
    simpa using this
  · have := ((Blk.new ((w.alloc (.cells #[.int .i64 x, .int .i64 y, .int .i64 z] 3)).alloc (.cells #[.float .f32 M] 28)) #[.float .f32 A] 28).alloc (.cells #[.float .f32 B] 28)).alloc (.cells #[.float .f32 C] 28)
    simpa using this
  · have := (Blk.new (((w.alloc (.cells #[.int .i64 x, .int .i64 y, .int .i64 z] 3)).alloc (.cells #[.float .f32 M] 28)).alloc (.cells #[.float .f32 A] 28)) #[.float .f32 B] 28).alloc (.cells #[.float .f32 C] 28)
    simpa using this
  · have := Blk.new ((((w.alloc (.cells #[.int .i64 x, .int .i64 y, .int .i64 z] 3)).alloc (.cells #[.float .f32 M] 28)).alloc (.cells #[.float .f32 A] 28)).alloc (.cells #[.float .f32 B] 28)) #[.float .f32 C] 28
    simpa using this

theorem shadeF_lt (A B C M n s e w v : Nat) : shadeF A B C M n s e w v < 4294967296 := by
  unfold shadeF; split
  · exact Ieee.Format.divF_lt _ _
  · decide

end Go.Proofs.Ytlpbofhmpfilnaa
