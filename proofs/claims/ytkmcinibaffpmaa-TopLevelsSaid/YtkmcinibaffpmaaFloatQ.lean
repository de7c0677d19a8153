import Derived.Test.YtkmcinibaffpmaaFloatP
namespace Ieee
namespace Format
open Go

/-- finite, and at most n times 2^e -/
def He (e n : Nat) (x : Nat) : Prop := single.fin x ∧ -((n : Rat) * P2 e) ≤ single.V x ∧ single.V x ≤ (n : Rat) * P2 e
theorem const_nat_e (e n : Nat) (he : e ≤ 100) (hn : n < 16777216) : ∃ c, single.fin c ∧ single.V c = (n : Rat) * P2 e ∧ single.sgn c = false := by
  have r : single.Rounds ((n : Rat) * P2 e) false (single.write (.number false n e)) := single.write_rounds single_fb false n e (by simp [sg])
  exact ⟨_, r.exact (n : Int) e (by omega) (by omega) (by omega) (by omega) (by rw [Rat.intCast_natCast])⟩
theorem He.one {e x : Nat} (h : Bd e x) : He e 1 x := by
  obtain ⟨a, b, c⟩ := h
  have q : ((1 : Nat) : Rat) * P2 e = P2 e := by rw [show ((1 : Nat) : Rat) = 1 from rfl, Rat.one_mul]
  exact ⟨a, by rw [q]; exact b, by rw [q]; exact c⟩
theorem He.add {e n x y : Nat} (hx : He e n x) (hy : Bd e y) (he : e ≤ 100) (hn : n + 1 < 16777216) : He e (n + 1) (addF x y) := by
  have r := (addF_spec hx.1 hy.1).2
  obtain ⟨c, fc, vc, sc⟩ := const_nat_e e (n + 1) he hn
  obtain ⟨_, x1, x2⟩ := hx
  obtain ⟨_, y1, y2⟩ := hy
  have q : ((n + 1 : Nat) : Rat) * P2 e = (n : Rat) * P2 e + P2 e := by
    rw [show ((n + 1 : Nat) : Rat) = (n : Rat) + 1 from by exact_mod_cast rfl, Rat.add_mul, Rat.one_mul]
  have := r.bound fc sc (by rw [vc, q]; grind) (by rw [vc, q]; grind)
  rw [vc] at this
  exact ⟨this.1, this.2.2.1, this.2.1⟩
/-- what is at most 2^12 times 2^e is at most 2^(e+12) -/
theorem He.bd {e n x : Nat} (h : He e n x) (hn : n ≤ 4096) : Bd (e + 12) x := by
  obtain ⟨a, b, c⟩ := h
  have p := P2_pos (e : Int)
  have q : P2 ((e + 12 : Nat) : Int) = 4096 * P2 e := by
    rw [show ((e + 12 : Nat) : Int) = 12 + (e : Int) from by omega, P2_add, show P2 12 = ((2 ^ 12 : Nat) : Rat) from P2_nat 12]
    rfl
  have hq : (n : Rat) ≤ 4096 := by exact_mod_cast hn
  have := Rat.mul_le_mul_of_nonneg_right hq (Rat.le_of_lt p)
  exact ⟨a, by rw [q]; grind, by rw [q]; grind⟩
end Format
end Ieee
