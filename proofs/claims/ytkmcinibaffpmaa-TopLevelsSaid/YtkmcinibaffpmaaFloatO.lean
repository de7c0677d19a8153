import Derived.Test.YtkmcinibaffpmaaFloatN
namespace Ieee
namespace Format
open Go

theorem cut_zero (neg : Bool) (n drop : Nat) : Toward.zero.cut neg n drop = n / 2 ^ drop := by
  unfold Toward.cut
  by_cases h : drop ≤ n.log2 + 2
  · rw [Nat.min_eq_left h, Nat.one_shiftLeft]
    rfl
  · have h1 : n < 2 ^ (n.log2 + 1) := Nat.lt_log2_self
    have h2 : 2 ^ (n.log2 + 2) ≤ 2 ^ drop := Nat.pow_le_pow_right (by omega) (by omega)
    rw [Nat.min_eq_right (by omega), Nat.one_shiftLeft]
    have e : 2 ^ (n.log2 + 2) = 2 * 2 ^ (n.log2 + 1) := by rw [Nat.pow_succ]; omega
    have a1 : n / 2 ^ (n.log2 + 2) = 0 := Nat.div_eq_of_lt (by omega)
    have b1 : n / 2 ^ drop = 0 := Nat.div_eq_of_lt (by omega)
    simp only [a1, b1]
    rfl

theorem int_of_sg {s : Bool} {c : Nat} {z : Int} (h : sg s * (c : Rat) = (z : Rat)) : signed s c 0 = z := by
  unfold signed
  simp only [Nat.shiftLeft_zero]
  cases s
  · simp only [sg, Bool.false_eq_true, if_false, Rat.one_mul] at h ⊢
    have : ((c : Int) : Rat) = (z : Rat) := by rw [Rat.intCast_natCast]; exact h
    exact Rat.intCast_inj.1 this
  · simp only [sg, if_true] at h ⊢
    have : ((-(c : Int) : Int) : Rat) = (z : Rat) := by rw [Rat.intCast_neg, Rat.intCast_natCast]; grind
    exact Rat.intCast_inj.1 this

/-- a single that is a whole number, made an int -/
theorem whole_int {x : Nat} {z : Int} (hx : single.fin x) (hz : single.V x = (z : Rat)) (h1 : -9223372036854775808 ≤ z) (h2 : z ≤ 9223372036854775807) : floatToIntVal .f32 x .i64 = some z := by
  have hd : FloatKind.decode .f32 x = .number (single.sgn x) (single.rmag (single.rung x)) (single.rplace (single.rung x)) := single.read_fin hx
  have hV := single.V_read x
  rw [hz] at hV
  unfold floatToIntVal
  rw [hd]
  generalize single.rmag (single.rung x) = m at *
  generalize single.rplace (single.rung x) = i at *
  generalize single.sgn x = s at *
  have ht : Datum.toInt .zero (.number s m i) = some (signed s (Toward.zero.cut s (m <<< i.toNat) (-i).toNat) 0) := rfl
  rw [ht, cut_zero]
  have hc : sg s * ((m <<< i.toNat / 2 ^ (-i).toNat : Nat) : Rat) = (z : Rat) := by
    by_cases hi : 0 ≤ i
    · obtain ⟨j, rfl⟩ := Int.eq_ofNat_of_zero_le hi
      rw [show (-(j : Int)).toNat = 0 by omega, Int.toNat_natCast, Nat.pow_zero, Nat.div_one, Nat.shiftLeft_eq, Rat.natCast_mul, ← P2_nat]
      exact hV.symm
    · obtain ⟨d, hd⟩ : ∃ d : Nat, (-i).toNat = d := ⟨_, rfl⟩
      have hi2 : i = -(d : Int) := by omega
      rw [show i.toNat = 0 by omega, hd, Nat.shiftLeft_zero]
      -- m = |z| * 2^d
      have e1 : (m : Rat) = ((z.natAbs * 2 ^ d : Nat) : Rat) := by
        have hz2 : sg s * (z : Rat) = (m : Rat) * P2 i := by rw [hV, ← Rat.mul_assoc, sg_sq, Rat.one_mul]
        have hm0 : 0 ≤ (m : Rat) * P2 i := Rat.mul_nonneg Rat.natCast_nonneg (Rat.le_of_lt (P2_pos i))
        have ha : ((z.natAbs : Nat) : Rat) = (m : Rat) * P2 i := by
          rw [← hz2] at hm0 ⊢
          cases s
          · simp only [sg, Bool.false_eq_true, if_false, Rat.one_mul] at hm0 ⊢
            have := Rat.intCast_nonneg.1 hm0
            rw [← Rat.intCast_natCast, show (z.natAbs : Int) = z by omega]
          · simp only [sg, if_true] at hm0 ⊢
            have : 0 ≤ ((-z : Int) : Rat) := by rw [Rat.intCast_neg]; grind
            have := Rat.intCast_nonneg.1 this
            rw [← Rat.intCast_natCast, show (z.natAbs : Int) = -z by omega, Rat.intCast_neg]; grind
        rw [Rat.natCast_mul, ha, ← P2_nat, Rat.mul_assoc, ← P2_add, hi2, show -(d : Int) + d = 0 by omega, P2_zero, Rat.mul_one]
      have e2 : m = z.natAbs * 2 ^ d := Rat.natCast_inj.1 e1
      rw [e2, Nat.mul_div_cancel _ (Nat.two_pow_pos d)]
      rw [hV, e2, Rat.natCast_mul, ← P2_nat, Rat.mul_assoc, ← P2_add, hi2, show (d : Int) + -(d : Int) = 0 by omega, P2_zero, Rat.mul_one]
  have := int_of_sg hc
  rw [this]
  simp only
  rw [if_pos]
  exact ⟨h1, h2⟩

/-- what is left above the floor -/
theorem frac_bd {x : Nat} (hx : single.fin x) (hl : x < 4294967296) : Bd 0 (subF x (floorF x)) ∧ single.fin (floorF x) := by
  obtain ⟨X, s, m, i, _, _, _, hf, _, z, h1, h2, h3⟩ := floor_spec hx hl
  have hr := (subF_spec hx hf).2
  have := hr.bd (k := 0) (by omega) (by rw [h1]; show _ ≤ P2 0; rw [P2_zero]; grind) (by rw [h1]; show -P2 0 ≤ _; rw [P2_zero]; grind)
  exact ⟨this, hf⟩
theorem frac_zero {x : Nat} {n : Int} (hx : single.fin x) (hl : x < 4294967296) (hn : single.V x = (n : Rat)) : single.V (floorF x) = (n : Rat) ∧ single.V (subF x (floorF x)) = 0 := by
  obtain ⟨X, s, m, i, _, _, _, hf, _, z, h1, h2, h3⟩ := floor_spec hx hl
  rw [hn] at h2 h3
  have a : z ≤ n := Rat.intCast_le_intCast.1 h2
  have b : n < z + 1 := by
    have : (n : Rat) < ((z + 1 : Int) : Rat) := by rw [Rat.intCast_add]; exact h3
    exact Rat.intCast_lt_intCast.1 this
  have : z = n := by omega
  subst this
  refine ⟨h1, ?_⟩
  have hr := (subF_spec hx hf).2
  have := hr.exact 0 0 (by omega) (by omega) (by omega) (by omega) (by rw [hn, h1]; simp; grind)
  rw [this.2.1, hn, h1]; grind
end Format
end Ieee
