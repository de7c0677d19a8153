import Derived.Test.YtkmcinibaffpmaaGreatSumF
namespace Wide
/-! ### wide numbers, in plain Lean: five digits of 64 bits -/
def qd (z : Int) : Nat → Int
  | 0 => z
  | k + 1 => qd z k / 18446744073709551616
def dig (z : Int) (k : Nat) : Int := qd z k % 18446744073709551616
theorem dig_bd (z : Int) (k : Nat) : 0 ≤ dig z k ∧ dig z k < 18446744073709551616 := by unfold dig; omega
theorem qd_split (z : Int) (k : Nat) : qd z k = 18446744073709551616 * qd z (k + 1) + dig z k := by unfold dig; rw [qd]; omega
/-- what is carried in a sum -/
def car (a b : Int) : Nat → Int
  | 0 => 0
  | k + 1 => (dig a k + dig b k + car a b k) / 18446744073709551616
theorem qd_add (a b : Int) : ∀ k, qd (a + b) k = qd a k + qd b k + car a b k ∧ 0 ≤ car a b k ∧ car a b k ≤ 1
  | 0 => by unfold qd car; omega
  | k + 1 => by
    obtain ⟨h1, h2, h3⟩ := qd_add a b k
    have s1 := qd_split a k
    have s2 := qd_split b k
    obtain ⟨d1, d2⟩ := dig_bd a k
    obtain ⟨d3, d4⟩ := dig_bd b k
    rw [car, show qd (a + b) (k + 1) = qd (a + b) k / 18446744073709551616 from rfl, h1]
    omega
theorem dig_add (a b : Int) (k : Nat) : dig (a + b) k = (dig a k + dig b k + car a b k) % 18446744073709551616 := by
  obtain ⟨h1, _, _⟩ := qd_add a b k
  have s1 := qd_split a k
  have s2 := qd_split b k
  rw [show dig (a + b) k = qd (a + b) k % 18446744073709551616 from rfl, h1]
  omega
theorem qd_not (a : Int) : ∀ k, qd (-1 - a) k = -1 - qd a k
  | 0 => rfl
  | k + 1 => by
    have := qd_not a k
    rw [show qd (-1 - a) (k + 1) = qd (-1 - a) k / 18446744073709551616 from rfl, show qd a (k + 1) = qd a k / 18446744073709551616 from rfl, this]
    omega
theorem dig_not (a : Int) (k : Nat) : dig (-1 - a) k = 18446744073709551615 - dig a k := by
  unfold dig
  rw [qd_not]
  omega
/-- what is carried in a product -/
def carm (a n : Int) : Nat → Int
  | 0 => 0
  | k + 1 => (dig a k * n + carm a n k) / 18446744073709551616
theorem qd_mul (a n : Int) (h0 : 0 ≤ n) : ∀ k, qd (a * n) k = qd a k * n + carm a n k ∧ 0 ≤ carm a n k ∧ carm a n k ≤ n
  | 0 => by simp [qd, carm]; omega
  | k + 1 => by
    obtain ⟨h1, h2, h3⟩ := qd_mul a n h0 k
    have s1 := qd_split a k
    obtain ⟨d1, d2⟩ := dig_bd a k
    have p0 := Int.mul_nonneg d1 (show 0 ≤ n by omega)
    have p1 := Int.mul_le_mul_of_nonneg_right (show dig a k ≤ 18446744073709551615 by omega) (show 0 ≤ n by omega)
    have e : qd a k * n = 18446744073709551616 * (qd a (k + 1) * n) + dig a k * n := by rw [s1]; grind
    rw [carm, show qd (a * n) (k + 1) = qd (a * n) k / 18446744073709551616 from rfl, h1]
    generalize qd a (k + 1) * n = R at *
    generalize dig a k * n = P at *
    omega
theorem dig_mul (a n : Int) (h0 : 0 ≤ n) (k : Nat) : dig (a * n) k = (dig a k * n + carm a n k) % 18446744073709551616 := by
  obtain ⟨h1, _, _⟩ := qd_mul a n h0 k
  have s1 := qd_split a k
  have e : qd a k * n = 18446744073709551616 * (qd a (k + 1) * n) + dig a k * n := by rw [s1]; grind
  rw [show dig (a * n) k = qd (a * n) k % 18446744073709551616 from rfl, h1]
  generalize qd a (k + 1) * n = R at *
  generalize dig a k * n = P at *
  omega
/-- less, alike, greater -/
def cmpI (a b : Int) : Int := if a < b then -1 else if b < a then 1 else 0
theorem qd_mono {a b : Int} (h : a ≤ b) : ∀ k, qd a k ≤ qd b k
  | 0 => h
  | k + 1 => Int.ediv_le_ediv (by omega) (qd_mono h k)
theorem cmp_at {a b : Int} {k : Nat} (h : qd a (k + 1) = qd b (k + 1)) : (dig a k = dig b k → qd a k = qd b k) ∧ (dig a k ≠ dig b k → cmpI a b = cmpI (dig a k) (dig b k)) := by
  have s1 := qd_split a k
  have s2 := qd_split b k
  refine ⟨fun e => by omega, fun e => ?_⟩
  rcases Int.lt_or_lt_of_ne e with h1 | h1
  · have : a < b := by
      by_cases c : a < b
      · exact c
      · have := qd_mono (show b ≤ a by omega) k
        omega
    unfold cmpI
    rw [if_pos this, if_pos h1]
  · have : b < a := by
      by_cases c : b < a
      · exact c
      · have := qd_mono (show a ≤ b by omega) k
        omega
    unfold cmpI
    rw [if_neg (by omega), if_pos this, if_neg (by omega), if_pos h1]
theorem qd_5 {a : Int} (h0 : 0 ≤ a) (h1 : a < 2135987035920910082395021706169552114602704522356652769947041607822219725780640550022962086936576) : qd a 5 = 0 := by
  simp only [qd]
  omega
theorem top_digit {z : Int} (h0 : -1067993517960455041197510853084776057301352261178326384973520803911109862890320275011481043468288 ≤ z) (h1 : z < 1067993517960455041197510853084776057301352261178326384973520803911109862890320275011481043468288) :
    (dig z 4 / 9223372036854775808 = if z < 0 then 1 else 0) := by
  unfold dig
  simp only [qd]
  split <;> omega
def zabs (z : Int) : Int := if z < 0 then -z else z
end Wide
namespace Ieee
namespace Format
open Go Kah Wide

/-- a single in units of 2^-160 -/
def zi (x : Nat) : Int := (if single.sgn x then -1 else 1) * ((single.rmag (single.rung x) * 2 ^ (single.rplace (single.rung x) + 160).toNat : Nat) : Int)
theorem zi_V (x : Nat) : ((zi x : Int) : Rat) = single.V x * P2 160 := by
  have hp := single.least_le (single.rung x)
  rw [single_least] at hp
  unfold zi V rv
  have e : P2 (single.rplace (single.rung x)) * P2 160 = ((2 ^ (single.rplace (single.rung x) + 160).toNat : Nat) : Rat) := by
    rw [← P2_add, ← P2_nat]
    congr 1
    omega
  have e2 : (((single.rmag (single.rung x) * 2 ^ (single.rplace (single.rung x) + 160).toNat : Nat) : Int) : Rat) = (single.rmag (single.rung x) : Rat) * (P2 (single.rplace (single.rung x)) * P2 160) := by
    rw [e, Rat.intCast_natCast, Rat.natCast_mul]
  rw [Rat.intCast_mul, e2]
  cases single.sgn x <;> simp [sg] <;> grind
def sumZ : List Nat → Int
  | [] => 0
  | x :: t => zi x + sumZ t
def magZ : List Nat → Int
  | [] => 0
  | x :: t => zabs (zi x) + magZ t
theorem sumZ_V : ∀ l, ((sumZ l : Int) : Rat) = sumV l * P2 160
  | [] => by simp [sumZ, sumV]
  | x :: t => by unfold sumZ sumV; rw [Rat.intCast_add, zi_V, sumZ_V t]; grind
theorem zabs_V {z : Int} {v : Rat} (h : (z : Rat) = v * P2 160) : ((zabs z : Int) : Rat) = ab v * P2 160 := by
  have p := P2_pos 160
  unfold zabs ab
  by_cases c : z < 0
  · have : (z : Rat) < ((0 : Int) : Rat) := Rat.intCast_lt_intCast.2 c
    have hv : ¬ 0 ≤ v := fun h0 => by
      have := Rat.mul_nonneg h0 (Rat.le_of_lt p)
      simp at *
      grind
    rw [if_pos c, if_neg hv, Rat.intCast_neg, h]
    grind
  · have : ((0 : Int) : Rat) ≤ (z : Rat) := Rat.intCast_le_intCast.2 (by omega)
    have hv : 0 ≤ v := by
      refine mul_le_cancel p ?_
      rw [← h]
      simpa using this
    rw [if_neg c, if_pos hv, h]
theorem magZ_V : ∀ l, ((magZ l : Int) : Rat) = magV l * P2 160
  | [] => by simp [magZ, magV]
  | x :: t => by unfold magZ magV; rw [Rat.intCast_add, zabs_V (zi_V x), magZ_V t]; grind
theorem magZ_nonneg (l : List Nat) : 0 ≤ magZ l := by
  have h : ((0 : Int) : Rat) ≤ ((magZ l : Int) : Rat) := by
    rw [magZ_V]
    simpa using Rat.mul_nonneg (sumV_le l).2.2 (Rat.le_of_lt (P2_pos 160))
  exact Rat.intCast_le_intCast.1 h
/-- a sum that is off by so little is within -/
theorem within_of {k v : Nat} {l : List Nat} (h : Off k v l) : zabs (zi v - sumZ l) * 8388608 ≤ magZ l * (k : Int) := by
  have hz : ((zi v - sumZ l : Int) : Rat) = (single.V v - sumV l) * P2 160 := by rw [Rat.intCast_sub, zi_V, sumZ_V]; grind
  have ha := zabs_V hz
  have hb := ab_le h.1 h.2
  have p := P2_pos 160
  have hc := Rat.mul_le_mul_of_nonneg_right hb (Rat.le_of_lt p)
  rw [← ha] at hc
  have s : sv * 16777216 = 1 := by
    have a := P2_add 24 (-24)
    rw [show P2 24 = ((2 ^ 24 : Nat) : Rat) from P2_nat 24, show (24 : Int) + -24 = 0 from rfl, P2_zero] at a
    have e : ((2 ^ 24 : Nat) : Rat) = 16777216 := rfl
    rw [e] at a
    unfold sv
    grind
  have e1 : ((zabs (zi v - sumZ l) * 8388608 : Int) : Rat) = ((zabs (zi v - sumZ l) : Int) : Rat) * 8388608 := by rw [Rat.intCast_mul]; rfl
  have e2 : ((magZ l * (k : Int) : Int) : Rat) = magV l * P2 160 * (k : Rat) := by rw [Rat.intCast_mul, magZ_V, Rat.intCast_natCast]
  have e3 : (k : Rat) * (2 * (sv * magV l)) * P2 160 * 8388608 = magV l * P2 160 * (k : Rat) := by
    have : sv * 16777216 * (magV l * P2 160 * (k : Rat)) = 1 * (magV l * P2 160 * (k : Rat)) := by rw [s]
    grind
  refine Rat.intCast_le_intCast.1 ?_
  rw [e1, e2, ← e3]
  grind
theorem zi_bd {k x : Nat} (h : Bd k x) (hk : k ≤ 40) : -((2 ^ (k + 160) : Nat) : Int) ≤ zi x ∧ zi x ≤ ((2 ^ (k + 160) : Nat) : Int) := by
  have p := P2_pos 160
  have a := Rat.mul_le_mul_of_nonneg_right h.2.1 (Rat.le_of_lt p)
  have b := Rat.mul_le_mul_of_nonneg_right h.2.2 (Rat.le_of_lt p)
  have e : P2 (k : Int) * P2 160 = (((2 ^ (k + 160) : Nat) : Int) : Rat) := by
    rw [← P2_add, show ((k : Int) + 160) = ((k + 160 : Nat) : Int) from by omega, P2_nat, Rat.intCast_natCast]
  have hz := zi_V x
  constructor
  · refine Rat.intCast_le_intCast.1 ?_
    rw [Rat.intCast_neg, ← e, hz]
    grind
  · refine Rat.intCast_le_intCast.1 ?_
    rw [← e, hz]
    exact b
theorem zabs_bd {z B : Int} (h1 : -B ≤ z) (h2 : z ≤ B) : 0 ≤ zabs z ∧ zabs z ≤ B := by unfold zabs; split <;> omega
theorem sumZ_le : ∀ l : List Nat, -magZ l ≤ sumZ l ∧ sumZ l ≤ magZ l
  | [] => by simp [sumZ, magZ]
  | x :: t => by
    have := sumZ_le t
    unfold sumZ magZ zabs
    split <;> omega
theorem magZ_bd : ∀ l : List Nat, (∀ x ∈ l, Ht x) → magZ l ≤ (l.length : Int) * 1532495540865888858358347027150309183618739122183602176
  | [], _ => by simp [magZ]
  | x :: t, h => by
    have a := magZ_bd t (fun y hy => h y (List.mem_cons_of_mem _ hy))
    have b := zi_bd (h x (List.mem_cons_self ..)).bd (by omega)
    have c := (zabs_bd b.1 b.2).2
    have e : ((2 ^ (20 + 160) : Nat) : Int) = 1532495540865888858358347027150309183618739122183602176 := by simp
    rw [e] at c
    unfold magZ
    rw [List.length_cons]
    push_cast
    omega
end Format
end Ieee
