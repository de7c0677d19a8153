import Derived.Test.YtkmcinibaffpmaaWideFn
namespace Go.Proofs.Ytkmcinibaffpmaa
open Go.ChangeShapes Go.WideShapes Go.ChangeAt Go.RowKit
open Ieee.Format (fin finE htE allFin allHt all_true all_false mulF subF addF Ht Bd divF rootF floorF easeF mixF)
set_option linter.unusedVariables false
open Wide

theorem wrap_u64 (n : Int) : IntKind.u64.wrap n = n % 18446744073709551616 := by simp [IntKind.wrap, IntKind.bits, IntKind.signed]
theorem ofInt_64 (n : Nat) (h : n < 18446744073709551616) : (BitVec.ofInt 64 (n : Int)).toNat = n := by
  rw [BitVec.toNat_ofInt]; omega
theorem ofInt_32 (n : Nat) (h : n < 4294967296) : (BitVec.ofInt 32 (n : Int)).toNat = n := by
  rw [BitVec.toNat_ofInt]; omega
theorem xor_u64 (x : Int) (h0 : 0 ≤ x) (h1 : x < 18446744073709551616) : bits .xor .u64 (if IntKind.u64.signed = true then -1 else IntKind.u64.max) x = 18446744073709551615 - x := by
  obtain ⟨n, rfl⟩ := Int.eq_ofNat_of_zero_le h0
  show IntKind.u64.wrap ((BitVec.ofInt 64 18446744073709551615 ^^^ BitVec.ofInt 64 (n : Int)).toNat : Int) = _
  rw [show BitVec.ofInt 64 18446744073709551615 = BitVec.allOnes 64 from by decide, BitVec.allOnes_xor, BitVec.toNat_not, ofInt_64 n (by omega), wrap_u64]
  omega
theorem and_u64 (x : Int) (h0 : 0 ≤ x) (h1 : x < 18446744073709551616) : bits .and .u64 x 4294967295 = x % 4294967296 := by
  obtain ⟨n, rfl⟩ := Int.eq_ofNat_of_zero_le h0
  show IntKind.u64.wrap ((BitVec.ofInt 64 (n : Int) &&& BitVec.ofInt 64 4294967295).toNat : Int) = _
  rw [BitVec.toNat_and, show (BitVec.ofInt 64 4294967295).toNat = 2 ^ 32 - 1 from by decide, Nat.and_two_pow_sub_one_eq_mod, ofInt_64 n (by omega), wrap_u64]
  omega
theorem and_u32 (k : Nat) (hk : k ≤ 31) (x : Int) (h0 : 0 ≤ x) (h1 : x < 4294967296) : bits .and .u32 x ((2 ^ k - 1 : Nat) : Int) = x % ((2 ^ k : Nat) : Int) := by
  obtain ⟨n, rfl⟩ := Int.eq_ofNat_of_zero_le h0
  have hp : 2 ^ k ≤ 2 ^ 31 := Nat.pow_le_pow_right (by omega) hk
  have hp0 : 0 < 2 ^ k := Nat.two_pow_pos k
  show IntKind.u32.wrap ((BitVec.ofInt 32 (n : Int) &&& BitVec.ofInt 32 ((2 ^ k - 1 : Nat) : Int)).toNat : Int) = _
  rw [BitVec.toNat_and, ofInt_32 (2 ^ k - 1) (by omega), Nat.and_two_pow_sub_one_eq_mod, ofInt_32 n (by omega)]
  have hm := Nat.mod_lt n hp0
  rw [show IntKind.u32.wrap ((n % 2 ^ k : Nat) : Int) = ((n % 2 ^ k : Nat) : Int) % 4294967296 from by simp [IntKind.wrap, IntKind.bits, IntKind.signed]]
  rw [Int.emod_eq_of_lt (by omega) (by omega)]
  exact Int.natCast_emod n (2 ^ k)
theorem or_u64 (n : Nat) (h : n < 8388608) : bits .or .u64 (n : Int) 8388608 = (n : Int) + 8388608 := by
  show IntKind.u64.wrap ((BitVec.ofInt 64 (n : Int) ||| BitVec.ofInt 64 8388608).toNat : Int) = _
  rw [BitVec.toNat_or, show (BitVec.ofInt 64 8388608).toNat = 2 ^ 23 * 1 from by decide, ofInt_64 n (by omega), Nat.or_comm, ← Nat.two_pow_add_eq_or_of_lt (by omega), wrap_u64]
  omega
/-- the greater half of a product -/
theorem mul_high {x y : Int} (h0 : 0 ≤ x) (h1 : x < 18446744073709551616) (h2 : 0 ≤ y) (h3 : y < 18446744073709551616) :
    IntKind.u64.wrap (IntKind.u64.wrap (IntKind.u64.wrap (x / 4294967296 * (y / 4294967296)) + IntKind.u64.wrap (IntKind.u64.wrap (x / 4294967296 * (y % 4294967296)) + IntKind.u64.wrap (x % 4294967296 * (y % 4294967296)) / 4294967296) / 4294967296) +
      IntKind.u64.wrap (IntKind.u64.wrap (IntKind.u64.wrap (x / 4294967296 * (y % 4294967296)) + IntKind.u64.wrap (x % 4294967296 * (y % 4294967296)) / 4294967296) % 4294967296 + IntKind.u64.wrap (x % 4294967296 * (y / 4294967296))) / 4294967296) = x * y / 18446744073709551616 := by
  have ex := Int.emod_add_mul_ediv x 4294967296
  have ey := Int.emod_add_mul_ediv y 4294967296
  have a0 := Int.emod_nonneg x (show (4294967296 : Int) ≠ 0 by omega)
  have a1 := Int.emod_lt_of_pos x (show (0 : Int) < 4294967296 by omega)
  have b0 := Int.emod_nonneg y (show (4294967296 : Int) ≠ 0 by omega)
  have b1 := Int.emod_lt_of_pos y (show (0 : Int) < 4294967296 by omega)
  have c0 : 0 ≤ x / 4294967296 := by omega
  have c1 : x / 4294967296 ≤ 4294967295 := by omega
  have d0 : 0 ≤ y / 4294967296 := by omega
  have d1 : y / 4294967296 ≤ 4294967295 := by omega
  generalize x / 4294967296 = X1 at *
  generalize x % 4294967296 = X0 at *
  generalize y / 4294967296 = Y1 at *
  generalize y % 4294967296 = Y0 at *
  subst ex ey
  have e : (X0 + 4294967296 * X1) * (Y0 + 4294967296 * Y1) = X0 * Y0 + 4294967296 * (X1 * Y0) + 4294967296 * (X0 * Y1) + 18446744073709551616 * (X1 * Y1) := by grind
  rw [e]
  have p0 := Int.mul_nonneg c0 d0
  have p1 := Int.mul_le_mul c1 d1 d0 (show (0 : Int) ≤ 4294967295 by omega)
  have q0 := Int.mul_nonneg c0 b0
  have q1 := Int.mul_le_mul c1 (show Y0 ≤ 4294967295 by omega) b0 (show (0 : Int) ≤ 4294967295 by omega)
  have r0 := Int.mul_nonneg a0 d0
  have r1 := Int.mul_le_mul (show X0 ≤ 4294967295 by omega) d1 d0 (show (0 : Int) ≤ 4294967295 by omega)
  have s0 := Int.mul_nonneg a0 b0
  have s1 := Int.mul_le_mul (show X0 ≤ 4294967295 by omega) (show Y0 ≤ 4294967295 by omega) b0 (show (0 : Int) ≤ 4294967295 by omega)
  generalize X1 * Y1 = A at *
  generalize X1 * Y0 = B at *
  generalize X0 * Y1 = C at *
  generalize X0 * Y0 = D at *
  simp only [wrap_u64]
  omega
theorem mul64_any (x y : Int) (h0 : 0 ≤ x) (h1 : x < 18446744073709551616) (h2 : 0 ≤ y) (h3 : y < 18446744073709551616) (w : World) :
    Calls Try.prog 203 #[.int .u64 x, .int .u64 y] w fun e w' => e = .returned (.tuple #[.int .u64 (x * y / 18446744073709551616), .int .u64 (x * y % 18446744073709551616)]) ∧ w = w' := by
  have K := Lib.hid (mul_high h0 h1 h2 h3)
  have ax := and_u64 x h0 h1
  have ay := and_u64 y h2 h3
  have az := fun z => and_u64 (IntKind.u64.wrap z) (by rw [wrap_u64]; omega) (by rw [wrap_u64]; omega)
  have KW := Lib.hid (wrap_u64 (x * y))
  go_enter Try.func203, Try.ntmps203
  go_wp2_with fail
  go_ret2
  refine ⟨?_, rfl⟩
  rw [← K.out, ← KW.out]
  rfl
theorem cmp64_any (x y : Int) (w : World) : Calls Try.prog 204 #[.int .u64 x, .int .u64 y] w fun e w' => e = .returned (.int .i64 (cmpI x y)) ∧ w = w' := by
  unfold cmpI
  rcases Int.lt_trichotomy x y with h | h | h
  · rw [if_pos h]
    have h2 : ¬ y < x := by omega
    go_enter Try.func204, Try.ntmps204
    go_wp2
    go_ret
    exact ⟨rfl, rfl⟩
  · subst h
    rw [if_neg (by omega), if_neg (by omega)]
    go_enter Try.func204, Try.ntmps204
    go_wp2
    go_ret
    exact ⟨rfl, rfl⟩
  · rw [if_neg (by omega), if_pos h]
    have h2 : ¬ x < y := by omega
    go_enter Try.func204, Try.ntmps204
    go_wp2
    go_ret
    exact ⟨rfl, rfl⟩
end Go.Proofs.Ytkmcinibaffpmaa
