import Derived.Test.YtkmcinibaffpmaaFloatL
namespace Ieee
namespace Format
open Go

theorem cut_down (neg : Bool) (n drop : Nat) : Toward.down.cut neg n drop = n / 2 ^ drop + (neg && n % 2 ^ drop != 0).toNat := by
  unfold Toward.cut
  by_cases h : drop ≤ n.log2 + 2
  · rw [Nat.min_eq_left h, Nat.one_shiftLeft]
  · have h1 : n < 2 ^ (n.log2 + 1) := Nat.lt_log2_self
    have h2 : 2 ^ (n.log2 + 2) ≤ 2 ^ drop := Nat.pow_le_pow_right (by omega) (by omega)
    rw [Nat.min_eq_right (by omega), Nat.one_shiftLeft]
    have e : 2 ^ (n.log2 + 2) = 2 * 2 ^ (n.log2 + 1) := by rw [Nat.pow_succ]; omega
    have a1 : n / 2 ^ (n.log2 + 2) = 0 := Nat.div_eq_of_lt (by omega)
    have a2 : n % 2 ^ (n.log2 + 2) = n := Nat.mod_eq_of_lt (by omega)
    have b1 : n / 2 ^ drop = 0 := Nat.div_eq_of_lt (by omega)
    have b2 : n % 2 ^ drop = n := Nat.mod_eq_of_lt (by omega)
    simp only [a1, a2, b1, b2]

/-- the whole number below -/
def below (s : Bool) (m : Nat) (i : Int) : Nat := Toward.down.cut s (m <<< i.toNat) (-i).toNat

theorem below_spec (s : Bool) (m : Nat) (i : Int) : ∃ z : Int, sg s * (below s m i : Rat) = (z : Rat) ∧ (z : Rat) ≤ sg s * ((m : Rat) * P2 i) ∧ sg s * ((m : Rat) * P2 i) < (z : Rat) + 1 ∧
    (0 ≤ i → (below s m i : Rat) = (m : Rat) * P2 i) ∧ (i < 0 → below s m i ≤ m / 2 + 1) := by
  unfold below
  rw [cut_down]
  by_cases hi : 0 ≤ i
  · have e1 : (-i).toNat = 0 := by omega
    obtain ⟨j, rfl⟩ := Int.eq_ofNat_of_zero_le hi
    rw [e1, Int.toNat_natCast, Nat.pow_zero, Nat.div_one, Nat.mod_one]
    simp only [bne_self_eq_false, Bool.and_false, Bool.toNat_false, Nat.add_zero]
    have e2 : ((m <<< j : Nat) : Rat) = (m : Rat) * P2 j := by rw [Nat.shiftLeft_eq, Rat.natCast_mul, P2_nat]
    rw [← e2]
    refine ⟨if s then -((m <<< j : Nat) : Int) else ((m <<< j : Nat) : Int), ?_⟩
    have e3 : (((m <<< j : Nat) : Int) : Rat) = ((m <<< j : Nat) : Rat) := Rat.intCast_natCast _
    have ee : sg s * ((m <<< j : Nat) : Rat) = ((if s then -((m <<< j : Nat) : Int) else ((m <<< j : Nat) : Int) : Int) : Rat) := by
      cases s
      · simp only [sg, Bool.false_eq_true, if_false]; rw [e3]; grind
      · simp only [sg, if_true]; rw [Rat.intCast_neg, e3]; grind
    refine ⟨ee, ?_, ?_, fun _ => rfl, fun h => by omega⟩ <;> rw [ee] <;> grind
  · obtain ⟨d, hd⟩ : ∃ d : Nat, (-i).toNat = d := ⟨_, rfl⟩
    have hi2 : i = -(d : Int) := by omega
    have e1 : i.toNat = 0 := by omega
    rw [e1, hd]
    simp only [Nat.shiftLeft_zero]
    have hv : (m : Rat) * P2 i * ((2 ^ d : Nat) : Rat) = (m : Rat) * P2 0 := by
      rw [hi2, ← P2_nat, Rat.mul_assoc, ← P2_add]; congr 2; omega
    obtain ⟨q1, q2, q3, q4⟩ := quot_floor m (2 ^ d) (Nat.two_pow_pos d) 0 _ hv
    generalize (m : Rat) * P2 i = v at *
    rw [P2_zero, Rat.mul_one] at *
    have hd1 : 1 ≤ d := by omega
    have hdv : m / 2 ^ d ≤ m / 2 := Nat.div_le_div_left (by have := Nat.pow_le_pow_right (show 0 < 2 by omega) hd1; omega) (by omega)
    cases s
    · simp only [Bool.false_and, Bool.toNat_false, Nat.add_zero]
      refine ⟨((m / 2 ^ d : Nat) : Int), ?_, ?_, ?_, fun h => absurd h hi, fun _ => by omega⟩
      · rw [Rat.intCast_natCast]; simp only [sg, Bool.false_eq_true, if_false]; grind
      · rw [Rat.intCast_natCast]; simp only [sg, Bool.false_eq_true, if_false]; grind
      · rw [Rat.intCast_natCast]; simp only [sg, Bool.false_eq_true, if_false]; rw [Rat.natCast_add] at q2; have : ((1 : Nat) : Rat) = 1 := rfl; grind
    · by_cases hr : m % 2 ^ d = 0
      · have q5 := q3 hr
        simp only [hr, Bool.true_and, bne_self_eq_false, Bool.toNat_false, Nat.add_zero]
        refine ⟨-((m / 2 ^ d : Nat) : Int), ?_, ?_, ?_, fun h => absurd h hi, fun _ => by omega⟩
        · rw [Rat.intCast_neg, Rat.intCast_natCast]; simp only [sg, if_true]; grind
        · rw [Rat.intCast_neg, Rat.intCast_natCast]; simp only [sg, if_true]; grind
        · rw [Rat.intCast_neg, Rat.intCast_natCast]; simp only [sg, if_true]; grind
      · have q5 := q4 hr
        have hb : (true && m % 2 ^ d != 0).toNat = 1 := by simp [hr]
        rw [hb]
        refine ⟨-((m / 2 ^ d + 1 : Nat) : Int), ?_, ?_, ?_, fun h => absurd h hi, fun _ => by omega⟩
        · rw [Rat.intCast_neg, Rat.intCast_natCast]; simp only [sg, if_true]; grind
        · rw [Rat.intCast_neg, Rat.intCast_natCast]; simp only [sg, if_true]; grind
        · rw [Rat.intCast_neg, Rat.intCast_natCast]; simp only [sg, if_true]; rw [Rat.natCast_add]; have : ((1 : Nat) : Rat) = 1 := rfl; grind

theorem P2_128_lt {x : Nat} (hx : single.fin x) : single.rv (single.rung x) < P2 128 := by
  rw [← rv_inf]; exact single.rv_lt hx

theorem whole_23 {z : Int} (h1 : (z : Rat) ≤ P2 23) (h2 : -P2 23 - 1 < (z : Rat)) : z ≤ 8388608 ∧ -8388609 < z := by
  have e23 : P2 23 = ((8388608 : Int) : Rat) := P2_nat 23
  constructor
  · rw [e23] at h1; exact Rat.intCast_le_intCast.1 h1
  · have e : -P2 23 - 1 = ((-8388609 : Int) : Rat) := by
      rw [e23, ← Rat.intCast_neg, show (1 : Rat) = ((1 : Int) : Rat) from rfl, ← Rat.intCast_sub]; rfl
    rw [e] at h2
    exact Rat.intCast_lt_intCast.1 h2

/-- the floor of a single, by way of a double -/
def floorF (x : Nat) : Nat := ((floatToFloatBits .f32 x .f64).bind fun X => floatToFloatBits .f64 (double.write ((double.read X).integral .down)) .f32).getD 0
theorem floorF_lt (x : Nat) : floorF x < 4294967296 := by
  unfold floorF
  refine some_lt fun r h => ?_
  obtain ⟨X, _, h⟩ := Option.bind_eq_some_iff.1 h
  exact f64f32_lt h

theorem floor_spec {x : Nat} (hx : single.fin x) (hl : x < 4294967296) :
    ∃ X s m i, floatToFloatBits .f32 x .f64 = some X ∧ FloatKind.decode .f64 X = .number s m i ∧ floatToFloatBits .f64 (FloatKind.encode .f64 (Datum.integral .down (.number s m i))) .f32 = some (floorF x) ∧
      single.fin (floorF x) ∧ single.sgn (floorF x) = single.sgn x ∧ ∃ z : Int, single.V (floorF x) = (z : Rat) ∧ (z : Rat) ≤ single.V x ∧ single.V x < (z : Rat) + 1 := by
  obtain ⟨X, a1, a2, a3, a4⟩ := widen hx
  have hml := double.rmag_lt (double.rung X)
  have hrd := double.read_fin a2
  have hV := double.V_read X
  have hfl : floorF x = (floatToFloatBits .f64 (double.write ((double.read X).integral .down)) .f32).getD 0 := by unfold floorF; rw [a1]; rfl
  refine ⟨X, _, _, _, a1, hrd, ?_⟩
  rw [hrd] at hfl
  rw [a4] at hV hfl ⊢
  rw [a3] at hV
  have hrl : -1074 ≤ double.rplace (double.rung X) := by have := double.least_le (double.rung X); rw [double_least] at this; exact this
  generalize double.rmag (double.rung X) = m at *
  generalize double.rplace (double.rung X) = i at *
  obtain ⟨z, b1, b2, b3, b4, b5⟩ := below_spec (single.sgn x) m i
  have hint : Datum.integral .down (.number (single.sgn x) m i) = .number (single.sgn x) (below (single.sgn x) m i) 0 := rfl
  rw [hint] at hfl ⊢
  rw [← hV] at b2 b3
  generalize below (single.sgn x) m i = c at *
  have hvx := P2_128_lt hx
  have hvx0 := single.rv_nonneg (single.rung x)
  have hvd : single.V x = sg (single.sgn x) * single.rv (single.rung x) := rfl
  have hc0 : (0 : Rat) ≤ (c : Rat) := Rat.natCast_nonneg
  have hcP : (c : Rat) ≤ P2 128 := by
    by_cases hi : 0 ≤ i
    · rw [b4 hi]
      have : (m : Rat) * P2 i = single.rv (single.rung x) := by
        rw [hvd] at hV
        cases hs : single.sgn x <;> rw [hs] at hV <;> simp [sg] at hV <;> grind
      rw [this]; exact Rat.le_of_lt hvx
    · have h1 := b5 (by omega)
      rw [double_binade] at hml
      have : (c : Rat) ≤ ((2 ^ 128 : Nat) : Rat) := by exact_mod_cast (show c ≤ 2 ^ 128 by omega)
      rw [← P2_nat] at this; exact this
  obtain ⟨b, hb⟩ : ∃ b, double.rv b = (c : Rat) * P2 0 := by
    by_cases hi : 0 ≤ i
    · obtain ⟨b, hb⟩ := double.rep' (m := m) (p := i) hml (by rw [double_least]; omega)
      exact ⟨b, by rw [hb, P2_zero, Rat.mul_one, b4 hi]⟩
    · have h1 := b5 (by omega)
      exact double.rep' (m := c) (p := 0) (by rw [double_binade] at hml ⊢; omega) (by rw [double_least]; omega)
  obtain ⟨r, e1, e2⟩ := double.write_number double_fb (single.sgn x) c 0
  rw [← hb] at e2
  obtain rfl := e2.eq_of
  have lt : r < double.infRung := double_pow_fin (by rw [hb, P2_zero, Rat.mul_one]; exact hcP)
  have hZf : double.fin (double.word (single.sgn x) (min r double.infRung)) := (double.fin_word_iff _ _).2 lt
  have hZv : double.V (double.word (single.sgn x) (min r double.infRung)) = (z : Rat) := by rw [double.V_word lt, hb, P2_zero, Rat.mul_one, b1]
  have hZs : double.sgn (double.word (single.sgn x) (min r double.infRung)) = single.sgn x := double.sgn_word _ (double.min_lt_sw r)
  have he : FloatKind.encode .f64 (.number (single.sgn x) c 0) = double.word (single.sgn x) (min r double.infRung) := e1
  rw [he]
  rw [e1] at hfl
  generalize double.word (single.sgn x) (min r double.infRung) = Z at *
  have key : ∃ w, floatToFloatBits .f64 Z .f32 = some w ∧ single.fin w ∧ single.V w = (z : Rat) ∧ single.sgn w = single.sgn x := by
    by_cases hp : 0 ≤ single.rplace (single.rung x)
    · -- whole already
      have hz : (z : Rat) = single.V x := by
        obtain ⟨k, hk⟩ : ∃ k : Int, single.V x = (k : Rat) := by
          obtain ⟨q, hq⟩ := mult_up (single.rmag (single.rung x)) hp
          refine ⟨if single.sgn x then -(q : Int) else (q : Int), ?_⟩
          have : single.rv (single.rung x) = (q : Rat) := by
            show (single.rmag (single.rung x) : Rat) * P2 (single.rplace (single.rung x)) = _
            rw [hq, P2_zero, Rat.mul_one]
          rw [hvd, this]
          cases single.sgn x
          · simp only [sg, Bool.false_eq_true, if_false]; rw [Rat.intCast_natCast]; grind
          · simp only [sg, if_true]; rw [Rat.intCast_neg, Rat.intCast_natCast]; grind
        rw [hk] at b2 b3 ⊢
        have h1 : z ≤ k := by exact_mod_cast b2
        have h2 : k < z + 1 := by
          have : (k : Rat) < ((z + 1 : Int) : Rat) := by rw [Rat.intCast_add]; exact b3
          exact_mod_cast this
        have : z = k := by omega
        rw [this]
      refine ⟨x, narrow_of hZf ?_ hx, hx, hz.symm, rfl⟩
      rw [hZv, hZs, hz]
      exact Rounds.self hx hl
    · have hsm := single.rmag_lt (single.rung x)
      rw [single_binade] at hsm
      have hle : single.rv (single.rung x) ≤ P2 23 := by
        show (single.rmag (single.rung x) : Rat) * P2 (single.rplace (single.rung x)) ≤ _
        have a1 := P2_mono (show single.rplace (single.rung x) ≤ -1 by omega)
        have a2 := Rat.mul_le_mul_of_nonneg_left a1 (show (0 : Rat) ≤ (single.rmag (single.rung x) : Rat) from Rat.natCast_nonneg)
        have a3 := Rat.mul_le_mul_of_nonneg_right (show (single.rmag (single.rung x) : Rat) ≤ ((2 ^ 24 : Nat) : Rat) from by exact_mod_cast (show single.rmag (single.rung x) ≤ 2 ^ 24 by omega)) (Rat.le_of_lt (P2_pos (-1)))
        have a4 : ((2 ^ 24 : Nat) : Rat) * P2 (-1) = P2 23 := by rw [← P2_nat, ← P2_add]; rfl
        grind
      have hz1 : (z : Rat) ≤ P2 23 ∧ -P2 23 - 1 < (z : Rat) := by
        rw [hvd] at b2 b3
        generalize P2 23 = p at *
        cases hs : single.sgn x <;> rw [hs] at b2 b3 <;> simp only [sg, if_true, Bool.false_eq_true, if_false] at b2 b3 <;> constructor <;> grind
      obtain ⟨hz2, hz3⟩ := whole_23 hz1.1 hz1.2
      have hr := single.write_rounds single_fb (double.sgn Z) (double.rmag (double.rung Z)) (double.rplace (double.rung Z)) (double.V_read Z).symm
      have := hr.exact z 0 (by omega) (by omega) (by decide) (by decide) (by rw [hZv, P2_zero, Rat.mul_one])
      exact ⟨_, narrow_of hZf hr this.1, this.1, by rw [this.2.1, hZv], by rw [this.2.2, hZs]⟩
  obtain ⟨w, w1, w2, w3, w4⟩ := key
  rw [w1] at hfl
  have hfl' : floorF x = w := hfl
  rw [hfl']
  exact ⟨w1, w2, w4, z, w3, b2, b3⟩
end Format
end Ieee
