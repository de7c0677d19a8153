import Derived.Test.YtkmcinibaffpmaaFloatO
namespace Ieee
namespace Format
open Go

/-- finite, and at most n times the greatest height -/
def Hn (n : Nat) (x : Nat) : Prop := single.fin x ∧ -((n : Rat) * P2 20) ≤ single.V x ∧ single.V x ≤ (n : Rat) * P2 20
theorem const_nat (n : Nat) (hn : n < 16777216) : ∃ c, single.fin c ∧ single.V c = (n : Rat) * P2 20 ∧ single.sgn c = false := by
  have r : single.Rounds ((n : Rat) * P2 20) false (single.write (.number false n 20)) := single.write_rounds single_fb false n 20 (by simp [sg])
  exact ⟨_, r.exact (n : Int) 20 (by omega) (by omega) (by decide) (by decide) (by rw [Rat.intCast_natCast])⟩
theorem Hn.one {x : Nat} (h : Bd 20 x) : Hn 1 x := by
  obtain ⟨a, b, c⟩ := h
  have e : ((1 : Nat) : Rat) * P2 20 = P2 20 := by rw [show ((1 : Nat) : Rat) = 1 from rfl, Rat.one_mul]
  exact ⟨a, by rw [e]; exact b, by rw [e]; exact c⟩
theorem Hn.add {n x y : Nat} (hx : Hn n x) (hy : Bd 20 y) (hn : n + 1 < 16777216) : Hn (n + 1) (addF x y) := by
  have r := (addF_spec hx.1 hy.1).2
  obtain ⟨c, fc, vc, sc⟩ := const_nat (n + 1) hn
  obtain ⟨_, x1, x2⟩ := hx
  obtain ⟨_, y1, y2⟩ := hy
  have e : ((n + 1 : Nat) : Rat) * P2 20 = (n : Rat) * P2 20 + P2 20 := by
    rw [show ((n + 1 : Nat) : Rat) = (n : Rat) + 1 from by exact_mod_cast rfl, Rat.add_mul, Rat.one_mul]
  have z : P2 ((20 : Nat) : Int) = P2 20 := rfl
  rw [z] at y1 y2
  have := r.bound fc sc (by rw [vc, e]; grind) (by rw [vc, e]; grind)
  rw [vc] at this
  exact ⟨this.1, this.2.2.1, this.2.1⟩

/-- 'float32(n)' of any integer -/
theorem conv_rounds (n : Int) : single.Rounds (n : Rat) (decide (n < 0)) (floatOfInt .f32 n) := by
  have e : sg (decide (n < 0)) * (((n.natAbs : Nat) : Rat) * P2 0) = (n : Rat) := by
    rw [P2_zero, Rat.mul_one]
    by_cases c : n < 0
    · have e : ((n.natAbs : Nat) : Rat) = -((n : Int) : Rat) := by
        rw [← Rat.intCast_natCast, show (n.natAbs : Int) = -n from by omega, Rat.intCast_neg]
      rw [e]; simp [c, sg]; grind
    · have e : ((n.natAbs : Nat) : Rat) = ((n : Int) : Rat) := by
        rw [← Rat.intCast_natCast, show (n.natAbs : Int) = n from by omega]
      rw [e]; simp [c, sg]
  exact single.write_rounds single_fb (decide (n < 0)) n.natAbs 0 e
theorem conv_big {n : Int} {k : Nat} (hk : k ≤ 100) (h1 : -((2 ^ k : Nat) : Int) ≤ n) (h2 : n ≤ ((2 ^ k : Nat) : Int)) : Bd k (floatOfInt .f32 n) := by
  have r := conv_rounds n
  have e : P2 k = (((2 ^ k : Nat) : Int) : Rat) := by rw [P2_nat, Rat.intCast_natCast]
  refine r.bd hk ?_ ?_
  · rw [e]; exact Rat.intCast_le_intCast.2 h2
  · rw [e, ← Rat.intCast_neg]; exact Rat.intCast_le_intCast.2 h1
theorem conv_nonneg {n : Int} {k : Nat} (hk : k ≤ 100) (h1 : 0 ≤ n) (h2 : n ≤ ((2 ^ k : Nat) : Int)) : 0 ≤ single.V (floatOfInt .f32 n) := by
  have h0 : (0 : Int) ≤ ((2 ^ k : Nat) : Int) := by omega
  exact (conv_rounds n).nonneg (conv_big hk (by omega) h2).1 (Rat.intCast_nonneg.2 h1)
/-- exact up to 2^24 itself -/
theorem conv_24 {n : Int} (h1 : 1 ≤ n) (h2 : n ≤ 16777216) : single.fin (floatOfInt .f32 n) ∧ single.V (floatOfInt .f32 n) = (n : Rat) ∧ single.sgn (floatOfInt .f32 n) = false := by
  have d : decide (n < 0) = false := decide_eq_false (by omega)
  have r := conv_rounds n
  rw [d] at r
  by_cases c : n = 16777216
  · subst c
    exact r.exact 1 24 (by decide) (by decide) (by decide) (by decide) (by rw [show P2 24 = ((2 ^ 24 : Nat) : Rat) from P2_nat 24]; decide +kernel)
  · exact r.exact n 0 (by omega) (by omega) (by decide) (by decide) (by rw [P2_zero, Rat.mul_one])
/-- the sign is kept -/
theorem Rounds.nonpos {x : Rat} {s : Bool} {w : Nat} (h : single.Rounds x s w) (fw : single.fin w) (h0 : x ≤ 0) : single.V w ≤ 0 := by
  obtain ⟨r, rfl, hr⟩ := h
  have lt := (single.fin_word_iff s r).1 fw
  rw [single.V_word lt]
  have p := single.rv_nonneg r
  cases s
  · have h1 := hr.2.2
    simp [sg] at h1
    have x0 : x = 0 := by grind
    subst x0
    have hz : single.Near (single.rv 0) r := by rw [single.rv_zero]; simpa [sg] using hr
    have := hz.eq_of
    subst this
    rw [single.rv_zero]
    simp [sg]
  · simp [sg]; grind
theorem div_nonpos {x y : Nat} (hx : single.fin x) (hy : single.fin y) (h0 : 0 < single.V y) (fd : single.fin (divF x y)) (h1 : single.V x ≤ 0) : single.V (divF x y) ≤ 0 := by
  have hr := (divF_spec hx hy (by intro e; rw [e] at h0; exact absurd h0 (by grind))).2
  have e : single.V x / single.V y * single.V y = single.V x := Rat.div_mul_cancel (by grind)
  exact hr.nonpos fd (mul_le_cancel h0 (by rw [e]; grind))
end Format
end Ieee
