import Derived.Test.YtiiogjjjgoeghaaG02
namespace Ieee
namespace Format
open Go

/-- finite, and at most n times the greatest height -/
def Hn (n : Nat) (x : Nat) : Prop := single.fin x ∧ -((n : Rat) * P2 20) ≤ single.V x ∧ single.V x ≤ (n : Rat) * P2 20
theorem const_nat (n : Nat) (hn : n < 16777216) : ∃ c, single.fin c ∧ single.V c = (n : Rat) * P2 20 ∧ single.sgn c = false := by
  have r : single.Rounds ((n : Rat) * P2 20) false (single.write (.number false n 20)) := single.write_rounds single_fb false n 20 (by simp [sg])
  exact ⟨_, r.exact (n : Int) 20 (by omega) (by omega) (by decide) (by decide) (by rw [Rat.intCast_natCast])⟩
theorem Hn.one {x : Nat} (h : Bd 20 x) : Hn 1 x := by
  obtain ⟨a, b, c⟩ := h
  have e : ((1 : Nat) : Rat) * P2 20 = P2 20 := by rw [show ((1 : Nat) : Rat) = 1 from rfl, Rat.one_mul]
  exact ⟨a, by rw [e]; exact b, by rw [e]; exact c⟩
theorem Hn.add {n x y : Nat} (hx : Hn n x) (hy : Bd 20 y) (hn : n + 1 < 16777216) : Hn (n + 1) (addF x y) := by
  have r := (addF_spec hx.1 hy.1).2
  obtain ⟨c, fc, vc, sc⟩ := const_nat (n + 1) hn
  obtain ⟨_, x1, x2⟩ := hx
  obtain ⟨_, y1, y2⟩ := hy
  have e : ((n + 1 : Nat) : Rat) * P2 20 = (n : Rat) * P2 20 + P2 20 := by
    rw [show ((n + 1 : Nat) : Rat) = (n : Rat) + 1 from by exact_mod_cast rfl, Rat.add_mul, Rat.one_mul]
  have z : P2 ((20 : Nat) : Int) = P2 20 := rfl
  rw [z] at y1 y2
  have := r.bound fc sc (by rw [vc, e]; grind) (by rw [vc, e]; grind)
  rw [vc] at this
  exact ⟨this.1, this.2.2.1, this.2.1⟩

/-- 'float32(n)' of any integer -/
theorem conv_rounds (n : Int) : single.Rounds (n : Rat) (decide (n < 0)) (floatOfInt .f32 n) := by
  have e : sg (decide (n < 0)) * (((n.natAbs : Nat) : Rat) * P2 0) = (n : Rat) := by
    rw [P2_zero, Rat.mul_one]
    by_cases c : n < 0
    · have e : ((n.natAbs : Nat) : Rat) = -((n : Int) : Rat) := by
        rw [← Rat.intCast_natCast, show (n.natAbs : Int) = -n from by omega, Rat.intCast_neg]
      rw [e]; simp [c, sg]; grind
    · have e : ((n.natAbs : Nat) : Rat) = ((n : Int) : Rat) := by
        rw [← Rat.intCast_natCast, show (n.natAbs : Int) = n from by omega]
      rw [e]; simp [c, sg]
  exact single.write_rounds single_fb (decide (n < 0)) n.natAbs 0 e
theorem conv_big {n : Int} {k : Nat} (hk : k ≤ 100) (h1 : -((2 ^ k : Nat) : Int) ≤ n) (h2 : n ≤ ((2 ^ k : Nat) : Int)) : Bd k (floatOfInt .f32 n) := by
  have r := conv_rounds n
  have e : P2 k = (((2 ^ k : Nat) : Int) : Rat) := by rw [P2_nat, Rat.intCast_natCast]
  refine r.bd hk ?_ ?_
  · rw [e]; exact Rat.intCast_le_intCast.2 h2
  · rw [e, ← Rat.intCast_neg]; exact Rat.intCast_le_intCast.2 h1
theorem conv_nonneg {n : Int} {k : Nat} (hk : k ≤ 100) (h1 : 0 ≤ n) (h2 : n ≤ ((2 ^ k : Nat) : Int)) : 0 ≤ single.V (floatOfInt .f32 n) := by
  have h0 : (0 : Int) ≤ ((2 ^ k : Nat) : Int) := by omega
  exact (conv_rounds n).nonneg (conv_big hk (by omega) h2).1 (Rat.intCast_nonneg.2 h1)
/-- exact up to 2^24 itself -/
theorem conv_24 {n : Int} (h1 : 1 ≤ n) (h2 : n ≤ 16777216) : single.fin (floatOfInt .f32 n) ∧ single.V (floatOfInt .f32 n) = (n : Rat) ∧ single.sgn (floatOfInt .f32 n) = false := by
  have d : decide (n < 0) = false := decide_eq_false (by omega)
  have r := conv_rounds n
  rw [d] at r
  by_cases c : n = 16777216
  · subst c
    exact r.exact 1 24 (by decide) (by decide) (by decide) (by decide) (by rw [show P2 24 = ((2 ^ 24 : Nat) : Rat) from P2_nat 24]; decide +kernel)
  · exact r.exact n 0 (by omega) (by omega) (by decide) (by decide) (by rw [P2_zero, Rat.mul_one])
/-- the sign is kept -/
theorem Rounds.nonpos {x : Rat} {s : Bool} {w : Nat} (h : single.Rounds x s w) (fw : single.fin w) (h0 : x ≤ 0) : single.V w ≤ 0 := by
  obtain ⟨r, rfl, hr⟩ := h
  have lt := (single.fin_word_iff s r).1 fw
  rw [single.V_word lt]
  have p := single.rv_nonneg r
  cases s
  · have h1 := hr.2.2
    simp [sg] at h1
    have x0 : x = 0 := by grind
    subst x0
    have hz : single.Near (single.rv 0) r := by rw [single.rv_zero]; simpa [sg] using hr
    have := hz.eq_of
    subst this
    rw [single.rv_zero]
    simp [sg]
  · simp [sg]; grind
theorem div_nonpos {x y : Nat} (hx : single.fin x) (hy : single.fin y) (h0 : 0 < single.V y) (fd : single.fin (divF x y)) (h1 : single.V x ≤ 0) : single.V (divF x y) ≤ 0 := by
  have hr := (divF_spec hx hy (by intro e; rw [e] at h0; exact absurd h0 (by grind))).2
  have e : single.V x / single.V y * single.V y = single.V x := Rat.div_mul_cancel (by grind)
  exact hr.nonpos fd (mul_le_cancel h0 (by rw [e]; grind))
end Format
end Ieee

namespace Ieee
namespace Format
open Go

/-- finite, and at most n times 2^e -/
def He (e n : Nat) (x : Nat) : Prop := single.fin x ∧ -((n : Rat) * P2 e) ≤ single.V x ∧ single.V x ≤ (n : Rat) * P2 e
theorem const_nat_e (e n : Nat) (he : e ≤ 100) (hn : n < 16777216) : ∃ c, single.fin c ∧ single.V c = (n : Rat) * P2 e ∧ single.sgn c = false := by
  have r : single.Rounds ((n : Rat) * P2 e) false (single.write (.number false n e)) := single.write_rounds single_fb false n e (by simp [sg])
  exact ⟨_, r.exact (n : Int) e (by omega) (by omega) (by omega) (by omega) (by rw [Rat.intCast_natCast])⟩
theorem He.one {e x : Nat} (h : Bd e x) : He e 1 x := by
  obtain ⟨a, b, c⟩ := h
  have q : ((1 : Nat) : Rat) * P2 e = P2 e := by rw [show ((1 : Nat) : Rat) = 1 from rfl, Rat.one_mul]
  exact ⟨a, by rw [q]; exact b, by rw [q]; exact c⟩
theorem He.add {e n x y : Nat} (hx : He e n x) (hy : Bd e y) (he : e ≤ 100) (hn : n + 1 < 16777216) : He e (n + 1) (addF x y) := by
  have r := (addF_spec hx.1 hy.1).2
  obtain ⟨c, fc, vc, sc⟩ := const_nat_e e (n + 1) he hn
  obtain ⟨_, x1, x2⟩ := hx
  obtain ⟨_, y1, y2⟩ := hy
  have q : ((n + 1 : Nat) : Rat) * P2 e = (n : Rat) * P2 e + P2 e := by
    rw [show ((n + 1 : Nat) : Rat) = (n : Rat) + 1 from by exact_mod_cast rfl, Rat.add_mul, Rat.one_mul]
  have := r.bound fc sc (by rw [vc, q]; grind) (by rw [vc, q]; grind)
  rw [vc] at this
  exact ⟨this.1, this.2.2.1, this.2.1⟩
/-- what is at most 2^12 times 2^e is at most 2^(e+12) -/
theorem He.bd {e n x : Nat} (h : He e n x) (hn : n ≤ 4096) : Bd (e + 12) x := by
  obtain ⟨a, b, c⟩ := h
  have p := P2_pos (e : Int)
  have q : P2 ((e + 12 : Nat) : Int) = 4096 * P2 e := by
    rw [show ((e + 12 : Nat) : Int) = 12 + (e : Int) from by omega, P2_add, show P2 12 = ((2 ^ 12 : Nat) : Rat) from P2_nat 12]
    rfl
  have hq : (n : Rat) ≤ 4096 := by exact_mod_cast hn
  have := Rat.mul_le_mul_of_nonneg_right hq (Rat.le_of_lt p)
  exact ⟨a, by rw [q]; grind, by rw [q]; grind⟩
end Format
end Ieee

namespace Ieee
namespace Format
open Go

/-- finite, and at most c in magnitude -/
def Wi (c : Rat) (x : Nat) : Prop := single.fin x ∧ -c ≤ single.V x ∧ single.V x ≤ c
/-- how far a rounded number lies from the number -/
theorem Rounds.err {x : Rat} {s : Bool} {w c : Nat} {e : Int} (h : single.Rounds x s w) (fc : single.fin c) (hc : single.sgn c = false) (h1 : x ≤ single.V c) (h2 : -single.V c ≤ x)
    (hr : ∀ r, r < single.rung c → single.rplace r ≤ e) : single.fin w ∧ 2 * single.V w ≤ 2 * x + P2 e ∧ 2 * x ≤ 2 * single.V w + P2 e := by
  obtain ⟨fw, _, _, hle, _⟩ := h.bound fc hc h1 h2
  refine ⟨fw, ?_⟩
  obtain ⟨r, rfl, hn⟩ := h
  have hlt : r < single.infRung := (single.fin_word_iff s r).1 fw
  rw [single.V_word hlt]
  rw [single.rung_word s (single.min_lt_sw r), Nat.min_eq_left (Nat.le_of_lt hlt)] at hle
  have hv : sg s * x ≤ single.rv (single.rung c) := by
    rw [← V_pos_word hc]
    cases s <;> simp [sg] <;> grind
  have key : 2 * single.rv r ≤ 2 * (sg s * x) + P2 e ∧ 2 * (sg s * x) ≤ 2 * single.rv r + P2 e := by
    rcases Nat.lt_or_ge r (single.rung c) with hlt2 | hge
    · obtain ⟨a, b⟩ := hn.off
      have := P2_mono (hr r hlt2)
      grind
    · obtain rfl : r = single.rung c := by omega
      have hp := P2_pos e
      refine ⟨?_, by grind⟩
      rcases hn.2.1 with h0 | h0
      · rw [h0, single.rv_zero]
        have := hn.2.2
        grind
      · rcases Nat.eq_zero_or_pos (single.rung c) with hz | hz
        · rw [hz, single.rv_zero]
          have := hn.2.2
          grind
        · have h3 : single.rv (single.rung c - 1) + single.rv (single.rung c) ≤ 2 * (sg s * x) := by
            split at h0
            · exact h0
            · exact Rat.le_of_lt h0
          have h4 := single.rv_succ (single.rung c - 1)
          rw [show single.rung c - 1 + 1 = single.rung c from by omega] at h4
          have := P2_mono (hr (single.rung c - 1) (by omega))
          grind
  cases s <;> simp [sg] at key ⊢ <;> grind
theorem place_le {r R : Nat} {e : Int} (he : single.rplace R = e) : ∀ q, q < r → r ≤ R + 1 → single.rplace q ≤ e := fun q hq hr => by
  rw [← he]; exact single.rplace_mono (by omega)
theorem const_4 : single.fin 1082130432 ∧ single.V 1082130432 = 4 ∧ single.sgn 1082130432 = false := by
  have := V_const false 128 8388608 (.inr (by decide)) (by decide) (by decide)
  rw [show single.word false (128 * 8388608 + 8388608) = 1082130432 from by decide] at this
  refine ⟨this.1, ?_, this.2.2⟩
  rw [this.2.1, show ((128 : Nat) : Int) - 149 = -21 from rfl, show ((8388608 : Nat) : Rat) = P2 23 from (P2_nat 23).symm, ← P2_add]
  simp [sg]
  exact P2_nat 2
theorem const_8 : single.fin 1090519040 ∧ single.V 1090519040 = 8 ∧ single.sgn 1090519040 = false := by
  have := V_const false 129 8388608 (.inr (by decide)) (by decide) (by decide)
  rw [show single.word false (129 * 8388608 + 8388608) = 1090519040 from by decide] at this
  refine ⟨this.1, ?_, this.2.2⟩
  rw [this.2.1, show ((129 : Nat) : Int) - 149 = -20 from rfl, show ((8388608 : Nat) : Rat) = P2 23 from (P2_nat 23).symm, ← P2_add]
  simp [sg]
  exact P2_nat 3
/-- numbers of at most M are rounded by at most d, and stay at most M -/
def Near1 (M d : Rat) : Prop := ∀ (x : Rat) (s : Bool) (w : Nat), single.Rounds x s w → x ≤ M → -M ≤ x → single.fin w ∧ single.V w ≤ x + d ∧ x ≤ single.V w + d ∧ single.V w ≤ M ∧ -M ≤ single.V w
theorem near_of {c : Nat} {M : Rat} (e d : Int) (R : Nat) (hd : d = e - 1) (hc : single.fin c ∧ single.V c = M ∧ single.sgn c = false) (hR : c % 2147483648 = R + 1) (he : single.rplace R = e) : Near1 M (P2 d) := by
  subst hd
  intro x s w h h1 h2
  obtain ⟨fc, vc, sc⟩ := hc
  rw [← vc] at h1 h2
  have h3 := h.err fc sc h1 h2 (fun r hr => place_le he r (by rw [rung_lit, hR] at hr; exact hr) (Nat.le_refl _))
  have h4 := h.bound fc sc h1 h2
  rw [vc] at h4
  have h5 := P2_double e
  exact ⟨h3.1, by grind, by grind, h4.2.1, h4.2.2.1⟩
theorem place_at (l k : Nat) (h : k < 8388608) : single.rplace ((l + 1) * 8388608 + k) = -149 + (l : Int) := by
  unfold rplace
  have e1 : single.binade = 8388608 := by decide
  have e2 : single.leastPlace = -149 := by decide
  rw [e1, e2, if_neg (by omega), show ((l + 1) * 8388608 + k) / 8388608 = l + 1 from by omega]
  simp
theorem place_2 : single.rplace 1073741823 = -23 := by
  rw [show (1073741823 : Nat) = (126 + 1) * 8388608 + 8388607 from by omega, place_at _ _ (by omega)]; rfl
theorem place_4 : single.rplace 1082130431 = -22 := by
  rw [show (1082130431 : Nat) = (127 + 1) * 8388608 + 8388607 from by omega, place_at _ _ (by omega)]; rfl
theorem place_8 : single.rplace 1090519039 = -21 := by
  rw [show (1090519039 : Nat) = (128 + 1) * 8388608 + 8388607 from by omega, place_at _ _ (by omega)]; rfl
theorem near_2 : Near1 2 (P2 (-24)) := near_of (-23) (-24) 1073741823 (by omega) const_2 (by omega) place_2
theorem near_4 : Near1 4 (P2 (-23)) := near_of (-22) (-23) 1082130431 (by omega) const_4 (by omega) place_4
theorem near_8 : Near1 8 (P2 (-22)) := near_of (-21) (-22) 1090519039 (by omega) const_8 (by omega) place_8
theorem mix_lin {c dM U A B D P : Rat} (u0 : 0 ≤ U) (u1 : U ≤ 1) (hd : 0 ≤ dM) (a1 : -c ≤ A) (a2 : A ≤ c) (b1 : -c ≤ B) (b2 : B ≤ c) (D1 : D ≤ B - A + dM) (D2 : B - A ≤ D + dM) (P1 : P ≤ D * U + dM) (P2 : D * U ≤ P + dM) :
    A + P ≤ c + 2 * dM ∧ -(c + 2 * dM) ≤ A + P := by
  have e0 : 0 ≤ 1 - U := by grind
  have q1 := Rat.mul_le_mul_of_nonneg_right a2 e0
  have q2 := Rat.mul_le_mul_of_nonneg_right a1 e0
  have q3 := Rat.mul_le_mul_of_nonneg_right b2 u0
  have q4 := Rat.mul_le_mul_of_nonneg_right b1 u0
  have q5 := Rat.mul_le_mul_of_nonneg_right D1 u0
  have q6 := Rat.mul_le_mul_of_nonneg_right D2 u0
  have q7 := Rat.mul_le_mul_of_nonneg_left u1 hd
  constructor <;> grind
/-- between two numbers -/
theorem mix_wi {c M N dM dN : Rat} {a b u : Nat} (KM : Near1 M dM) (KN : Near1 N dN) (ha : Wi c a) (hb : Wi c b) (hu : single.fin u) (u0 : 0 ≤ single.V u) (u1 : single.V u ≤ 1) (hM : 2 * c ≤ M) (hN : c + 2 * dM ≤ N) (hd : 0 ≤ dM) (hM0 : 0 ≤ M) :
    single.fin (subF b a) ∧ single.fin (mulF (subF b a) u) ∧ Wi (c + 2 * dM + dN) (mixF a b u) := by
  obtain ⟨fa, a1, a2⟩ := ha
  obtain ⟨fb, b1, b2⟩ := hb
  obtain ⟨fD, D1, D2, D3, D4⟩ := KM _ _ _ (subF_spec fb fa).2 (by grind) (by grind)
  have m1 := Rat.mul_le_mul_of_nonneg_right D3 u0
  have m2 := Rat.mul_le_mul_of_nonneg_right D4 u0
  have m3 := Rat.mul_le_mul_of_nonneg_left u1 hM0
  obtain ⟨fP, P1, P2, _, _⟩ := KM _ _ _ (mulF_spec fD hu).2 (by grind) (by grind)
  obtain ⟨s1, s2⟩ := mix_lin u0 u1 hd a1 a2 b1 b2 D1 D2 P1 P2
  obtain ⟨fS, S1, S2, _, _⟩ := KN _ _ _ (addF_spec fa fP).2 (by grind) (by grind)
  exact ⟨fD, fP, fS, by unfold mixF; grind, by unfold mixF; grind⟩
/-- the noise of values: three steps between numbers of at most 1 -/
theorem value_wi {a b c d u v : Nat} (ha : Wi 1 a) (hb : Wi 1 b) (hc : Wi 1 c) (hd : Wi 1 d) (hu : single.fin u) (u0 : 0 ≤ single.V u) (u1 : single.V u ≤ 1) (hv : single.fin v) (v0 : 0 ≤ single.V v) (v1 : single.V v ≤ 1) :
    Wi (1 + 8 * P2 (-24)) (mixF (mixF a b u) (mixF c d u) v) := by
  have p := P2_pos (-24)
  have q : P2 (-23) = 2 * P2 (-24) := P2_double (-23)
  have r : 16777216 * P2 (-24) = 1 := by
    have := P2_add 24 (-24)
    rw [show P2 24 = ((2 ^ 24 : Nat) : Rat) from P2_nat 24] at this
    rw [show (24 : Int) + -24 = 0 from rfl, P2_zero] at this
    rw [this]; rfl
  have h1 := (mix_wi near_2 near_2 ha hb hu u0 u1 (by grind) (by grind) (by grind) (by grind)).2.2
  have h2 := (mix_wi near_2 near_2 hc hd hu u0 u1 (by grind) (by grind) (by grind) (by grind)).2.2
  have h3 := (mix_wi near_4 near_2 h1 h2 hv v0 v1 (by grind) (by grind) (by grind) (by grind)).2.2
  obtain ⟨f, x, y⟩ := h3
  exact ⟨f, by grind, by grind⟩
/-- the noise of directions -/
theorem grad_wi {a b c d u v : Nat} (ha : Wi 2 a) (hb : Wi 2 b) (hc : Wi 2 c) (hd : Wi 2 d) (hu : single.fin u) (u0 : 0 ≤ single.V u) (u1 : single.V u ≤ 1) (hv : single.fin v) (v0 : 0 ≤ single.V v) (v1 : single.V v ≤ 1) :
    Wi (2 + 16 * P2 (-24)) (mixF (mixF a b u) (mixF c d u) v) := by
  have p := P2_pos (-24)
  have q : P2 (-23) = 2 * P2 (-24) := P2_double (-23)
  have q2 : P2 (-22) = 2 * P2 (-23) := P2_double (-22)
  have r : 16777216 * P2 (-24) = 1 := by
    have := P2_add 24 (-24)
    rw [show P2 24 = ((2 ^ 24 : Nat) : Rat) from P2_nat 24] at this
    rw [show (24 : Int) + -24 = 0 from rfl, P2_zero] at this
    rw [this]; rfl
  have h1 := (mix_wi near_4 near_4 ha hb hu u0 u1 (by grind) (by grind) (by grind) (by grind)).2.2
  have h2 := (mix_wi near_4 near_4 hc hd hu u0 u1 (by grind) (by grind) (by grind) (by grind)).2.2
  have h3 := (mix_wi near_8 near_4 h1 h2 hv v0 v1 (by grind) (by grind) (by grind) (by grind)).2.2
  obtain ⟨f, x, y⟩ := h3
  exact ⟨f, by grind, by grind⟩
end Format
end Ieee

namespace Ieee
namespace Format
open Go

/-- the form of a root in double -/
theorem sqrt_at {X : Nat} (hX : double.fin X) (h0 : 0 < double.V X) (hb : double.V X ≤ P2 128) :
    ∃ (Z n : Nat) (h : Int) (q : Nat), double.sqrt X = some Z ∧ double.fin Z ∧ 324518553658426726783156020576256 ≤ n ∧ n < 1298074214633706907132624082305024 ∧ double.V X = (n : Rat) * (P2 h * P2 h) ∧ q * q ≤ n ∧ n < (q + 1) * (q + 1) ∧
      double.Rounds (((2 * q + (q * q != n).toNat : Nat) : Rat) * P2 (h - 1)) false Z := by
  obtain ⟨Z0, e0, f0, _⟩ := sqrt_spec hX (Rat.le_of_lt h0) hb
  have hml := double.rmag_lt (double.rung X)
  have hV := double.V_read X
  have e1 := e0
  unfold sqrt at e0
  rw [double.read_fin hX] at e0
  generalize double.rmag (double.rung X) = m at *
  generalize double.rplace (double.rung X) = i at *
  generalize double.sgn X = s at *
  have hm : m ≠ 0 := by rintro rfl; rw [hV] at h0; simp at h0
  have hm0 : (0 : Rat) < (m : Rat) := by exact_mod_cast (show 0 < m by omega)
  have hmp : 0 < (m : Rat) * P2 i := Rat.mul_pos hm0 (P2_pos i)
  have hs : s = false := by
    cases s
    · rfl
    · exfalso; rw [hV] at h0; simp [sg] at h0; grind
  subst hs
  have hVm : double.V X = (m : Rat) * P2 i := by rw [hV]; simp [sg]
  unfold Datum.root at e0
  simp only [if_neg hm, Bool.false_eq_true, if_false, Option.map_some] at e0
  obtain ⟨more, hmore⟩ : ∃ more, more = 2 * (double.fractionBits + 2) - m.log2 + ((i - ((2 * (double.fractionBits + 2) - m.log2 : Nat) : Int)) % 2).toNat := ⟨_, rfl⟩
  rw [← hmore] at e0
  have hfb : double.fractionBits = 52 := rfl
  rw [hfb] at hmore
  have hlm : m.log2 ≤ 52 := by
    have : m.log2 < 53 := (Nat.log2_lt hm).2 (by rw [binade_two] at hml; exact hml)
    omega
  have hmore2 : 108 ≤ m.log2 + more := by omega
  have hmore3 : m.log2 + more ≤ 109 := by omega
  have heven : (i - more) % 2 = 0 := by omega
  obtain ⟨h, hh⟩ : ∃ h, h = (i - more) / 2 := ⟨_, rfl⟩
  have hi : i = h + h + more := by omega
  rw [← hh] at e0
  have big : 324518553658426726783156020576256 ≤ m <<< more := by
    rw [Nat.shiftLeft_eq]
    have g2 : 2 ^ m.log2 ≤ m := Nat.log2_self_le hm
    calc 324518553658426726783156020576256 = 2 ^ 108 := by decide
      _ ≤ 2 ^ (m.log2 + more) := Nat.pow_le_pow_right (by omega) hmore2
      _ = 2 ^ m.log2 * 2 ^ more := Nat.pow_add ..
      _ ≤ m * 2 ^ more := Nat.mul_le_mul_right _ g2
  have small : m <<< more < 1298074214633706907132624082305024 := by
    rw [Nat.shiftLeft_eq]
    have g2 : m < 2 ^ (m.log2 + 1) := Nat.lt_log2_self
    calc m * 2 ^ more < 2 ^ (m.log2 + 1) * 2 ^ more := Nat.mul_lt_mul_of_pos_right g2 (Nat.two_pow_pos _)
      _ = 2 ^ (m.log2 + 1 + more) := (Nat.pow_add ..).symm
      _ ≤ 2 ^ 110 := Nat.pow_le_pow_right (by omega) (by omega)
      _ = 1298074214633706907132624082305024 := by decide
  have hat : double.V X = ((m <<< more : Nat) : Rat) * (P2 h * P2 h) := by
    rw [hVm, hi, P2_add, P2_add, Nat.shiftLeft_eq, Rat.natCast_mul, P2_nat]; grind
  generalize m <<< more = n at *
  obtain ⟨q1, q2⟩ := whole_root n (by omega) _ rfl
  generalize Datum.rootFrom n (n.log2 / 2 + 1) 0 = q at *
  have hr := double.write_rounds double_fb false (2 * q + (q * q != n).toNat) (h - 1) (x := ((2 * q + (q * q != n).toNat : Nat) : Rat) * P2 (h - 1)) (by simp [sg])
  injection e0 with e0
  rw [e0] at hr
  exact ⟨Z0, n, h, q, e1, f0, big, small, hat, q1, q2, hr⟩
theorem sqrt_le {n n' q q' : Nat} {h h' : Int} (b1 : 324518553658426726783156020576256 ≤ n) (b2 : n < 1298074214633706907132624082305024) (b1' : 324518553658426726783156020576256 ≤ n') (b2' : n' < 1298074214633706907132624082305024)
    (q1 : q * q ≤ n) (q2 : n < (q + 1) * (q + 1)) (q1' : q' * q' ≤ n') (q2' : n' < (q' + 1) * (q' + 1)) (hle : (n : Rat) * (P2 h * P2 h) ≤ (n' : Rat) * (P2 h' * P2 h')) :
    ((2 * q + (q * q != n).toNat : Nat) : Rat) * P2 (h - 1) ≤ ((2 * q' + (q' * q' != n').toNat : Nat) : Rat) * P2 (h' - 1) := by
  have hp := P2_pos h
  have hp' := P2_pos h'
  rcases (by omega : h = h' ∨ h < h' ∨ h' < h) with e | e | e
  · subst e
    have hn : n ≤ n' := by
      have := mul_le_cancel (Rat.mul_pos hp hp) hle
      exact_mod_cast this
    have hq : q ≤ q' := by
      apply Nat.le_of_not_lt
      intro hc
      have := Nat.mul_le_mul (show q' + 1 ≤ q from hc) (show q' + 1 ≤ q from hc)
      omega
    have hz : 2 * q + (q * q != n).toNat ≤ 2 * q' + (q' * q' != n').toNat := by
      rcases (by omega : q = q' ∨ q + 1 ≤ q') with rfl | h1
      · by_cases c : q * q = n'
        · have e : n' = n := by omega
          rw [e]; exact Nat.le_refl _
        · have : (q * q != n').toNat = 1 := by simp [c]
          have := Bool.toNat_le (q * q != n)
          omega
      · have := Bool.toNat_le (q * q != n)
        omega
    exact Rat.mul_le_mul_of_nonneg_right (by exact_mod_cast hz) (Rat.le_of_lt (P2_pos _))
  · have hq : q < 36028797018963968 := by
      apply Nat.lt_of_not_le
      intro hc
      have := Nat.mul_le_mul hc hc
      omega
    have hq' : 18014398509481983 ≤ q' := by
      apply Nat.le_of_not_lt
      intro hc
      have := Nat.mul_le_mul (show q' + 1 ≤ 18014398509481983 from hc) (show q' + 1 ≤ 18014398509481983 from hc)
      omega
    have hq'' : 18014398509481984 ≤ q' := by
      rcases (by omega : q' = 18014398509481983 ∨ 18014398509481984 ≤ q') with rfl | h1
      · omega
      · exact h1
    have t := Bool.toNat_le (q * q != n)
    have a1 : ((2 * q + (q * q != n).toNat : Nat) : Rat) ≤ ((72057594037927936 : Nat) : Rat) := by exact_mod_cast (show 2 * q + (q * q != n).toNat ≤ 72057594037927936 by omega)
    have a2 : ((36028797018963968 : Nat) : Rat) ≤ ((2 * q' + (q' * q' != n').toNat : Nat) : Rat) := by exact_mod_cast (show 36028797018963968 ≤ 2 * q' + (q' * q' != n').toNat by omega)
    have p1 := P2_mono (show h - 1 + 1 ≤ h' - 1 by omega)
    rw [P2_succ] at p1
    have g := P2_pos (h - 1)
    have g' := P2_pos (h' - 1)
    have s1 := Rat.mul_le_mul_of_nonneg_right a1 (Rat.le_of_lt g)
    have s2 := Rat.mul_le_mul_of_nonneg_right a2 (Rat.le_of_lt g')
    have s3 := Rat.mul_le_mul_of_nonneg_left p1 (show (0 : Rat) ≤ ((36028797018963968 : Nat) : Rat) from Rat.natCast_nonneg)
    have s4 : ((72057594037927936 : Nat) : Rat) = 2 * ((36028797018963968 : Nat) : Rat) := by decide +kernel
    grind
  · exfalso
    have p1 := P2_mono (show h' + 1 ≤ h by omega)
    rw [P2_succ] at p1
    have p2 := sq_le (show 0 ≤ 2 * P2 h' by grind) p1
    have a1 : ((324518553658426726783156020576256 : Nat) : Rat) ≤ (n : Rat) := by exact_mod_cast b1
    have a2 : (n' : Rat) < ((1298074214633706907132624082305024 : Nat) : Rat) := by exact_mod_cast b2'
    have hpp := Rat.mul_pos hp hp
    have hpp' := Rat.mul_pos hp' hp'
    have s1 := Rat.mul_le_mul_of_nonneg_right a1 (Rat.le_of_lt hpp)
    have s2 := Rat.mul_lt_mul_of_pos_right a2 hpp'
    have s3 := Rat.mul_le_mul_of_nonneg_left p2 (show (0 : Rat) ≤ ((324518553658426726783156020576256 : Nat) : Rat) from Rat.natCast_nonneg)
    have s4 : ((1298074214633706907132624082305024 : Nat) : Rat) = 4 * ((324518553658426726783156020576256 : Nat) : Rat) := by decide +kernel
    grind
/-- rounding keeps the order -/
theorem Rounds.mono {f : Format} {x y : Rat} {w v : Nat} (h : f.Rounds x false w) (h' : f.Rounds y false v) (fw : f.fin w) (fv : f.fin v) (hxy : x ≤ y) : f.V w ≤ f.V v := by
  obtain ⟨r, rfl, hr⟩ := h
  obtain ⟨r', rfl, hr'⟩ := h'
  have l1 := (f.fin_word_iff false r).1 fw
  have l2 := (f.fin_word_iff false r').1 fv
  rw [f.V_word l1, f.V_word l2]
  have := f.rv_mono (hr.mono hr' (by simp [sg]; exact hxy))
  simp [sg]; exact this
theorem pos_sgn {f : Format} {x : Nat} (h : 0 < f.V x) : f.sgn x = false := by
  unfold V at h
  cases e : f.sgn x
  · rfl
  · rw [e] at h
    have := f.rv_nonneg (f.rung x)
    simp [sg] at h
    grind
theorem root_mono {x y : Nat} (hx : single.fin x) (hy : single.fin y) (h0 : 0 ≤ single.V x) (hxy : single.V x ≤ single.V y) : single.V (rootF x) ≤ single.V (rootF y) := by
  obtain ⟨X, Z, a1, a2, a3, a4, a5, a6, a7⟩ := root_spec hx h0
  obtain ⟨Y, T, b1, b2, b3, b4, b5, b6, b7⟩ := root_spec hy (by grind)
  by_cases hz : single.V x = 0
  · have := a6 0 const_0.1 const_0.2.2 (by rw [hz, const_0.2.1]; simp)
    rw [const_0.2.1] at this
    grind
  · have hm : ∀ {x}, single.fin x → single.V x ≤ P2 128 := fun {x} hx => by
      have := single.rv_mono (Nat.le_of_lt hx)
      rw [rv_inf] at this
      unfold V
      have p := single.rv_nonneg (single.rung x)
      cases single.sgn x <;> simp [sg] <;> grind
    have mx := hm hx
    have my := hm hy
    obtain ⟨X', e1, f1, g1, _⟩ := widen hx
    obtain ⟨Y', e2, f2, g2, _⟩ := widen hy
    obtain rfl : X = X' := by rw [a1] at e1; exact Option.some.inj e1
    obtain rfl : Y = Y' := by rw [b1] at e2; exact Option.some.inj e2
    obtain ⟨Z', n, h, q, c1, c2, c3, c4, c5, c6, c7, c8⟩ := sqrt_at f1 (by rw [g1]; grind) (by rw [g1]; exact mx)
    obtain ⟨T', n', h', q', d1, d2, d3, d4, d5, d6, d7, d8⟩ := sqrt_at f2 (by rw [g2]; grind) (by rw [g2]; exact my)
    obtain rfl : Z = Z' := by rw [a2] at c1; exact Option.some.inj c1
    obtain rfl : T = T' := by rw [b2] at d1; exact Option.some.inj d1
    have le1 := sqrt_le c3 c4 d3 d4 c6 c7 d6 d7 (by rw [← c5, ← d5, g1, g2]; exact hxy)
    have le2 := c8.mono d8 c2 d2 le1
    obtain ⟨Z2, z1, _, z3, z4, _⟩ := sqrt_spec f1 (by rw [g1]; exact h0) (by rw [g1]; exact mx)
    obtain ⟨T2, t1, _, t3, t4, _⟩ := sqrt_spec f2 (by rw [g2]; grind) (by rw [g2]; exact my)
    obtain rfl : Z = Z2 := by rw [a2] at z1; exact Option.some.inj z1
    obtain rfl : T = T2 := by rw [b2] at t1; exact Option.some.inj t1
    have u := P2_mono (show (64 : Int) ≤ 100 by omega)
    have u2 := P2_pos 100
    obtain ⟨w, w1, w2, w3⟩ := narrow_any c2 (by grind) (by grind)
    obtain ⟨v, v1, v2, v3⟩ := narrow_any d2 (by grind) (by grind)
    obtain rfl : w = rootF x := by rw [a3] at w1; exact (Option.some.inj w1).symm
    obtain rfl : v = rootF y := by rw [b3] at v1; exact (Option.some.inj v1).symm
    by_cases zp : 0 < double.V Z
    · rw [pos_sgn zp] at w3
      rw [pos_sgn (show 0 < double.V T by grind)] at v3
      exact w3.mono v3 w2 v2 le2
    · have z0 : double.V Z = 0 := by grind
      have := (w3.bound const_0.1 const_0.2.2 (by rw [z0, const_0.2.1]; decide) (by rw [z0, const_0.2.1]; decide)).2.1
      rw [const_0.2.1] at this
      grind
theorem conv_mono {m n : Int} (h0 : 0 ≤ m) (h : m ≤ n) (hn : n ≤ 1073741824) : single.V (floatOfInt .f32 m) ≤ single.V (floatOfInt .f32 n) := by
  have a := conv_rounds m
  have b := conv_rounds n
  rw [show decide (m < 0) = false from decide_eq_false (by omega)] at a
  rw [show decide (n < 0) = false from decide_eq_false (by omega)] at b
  exact a.mono b (conv_big (k := 30) (by omega) (by omega) (by omega)).1 (conv_big (k := 30) (by omega) (by omega) (by omega)).1 (Rat.intCast_le_intCast.2 h)
theorem div_mono {x y c : Nat} (hx : single.fin x) (hy : single.fin y) (hc : single.fin c) (c0 : 0 < single.V c) (h0 : 0 ≤ single.V x) (hxy : single.V x ≤ single.V y) (fx : single.fin (divF x c)) (fy : single.fin (divF y c)) : single.V (divF x c) ≤ single.V (divF y c) := by
  have hcne : single.V c ≠ 0 := by grind
  have a := (divF_spec hx hc hcne).2
  have b := (divF_spec hy hc hcne).2
  by_cases z : single.V x = 0
  · have e : single.V x / single.V c = 0 := by rw [z, Rat.div_def, Rat.zero_mul]
    rw [e] at a
    have := (a.bound const_0.1 const_0.2.2 (by rw [const_0.2.1]; decide) (by rw [const_0.2.1]; decide)).2.1
    rw [const_0.2.1] at this
    have := div_nonneg hy hc c0 fy (by grind)
    grind
  · rw [pos_sgn (show 0 < single.V x by grind), pos_sgn c0] at a
    rw [pos_sgn (show 0 < single.V y by grind), pos_sgn c0] at b
    refine a.mono b fx fy ?_
    rw [Rat.div_def, Rat.div_def]
    exact Rat.mul_le_mul_of_nonneg_right hxy (Rat.le_of_lt (Rat.inv_pos.2 c0))
/-- the distance of a lattice's centre, of its square: between 0 and 4 -/
def farF (d c : Int) : Nat := divF (rootF (floatOfInt .f32 d)) (floatOfInt .f32 c)
theorem sq_bd {c : Int} (h1 : 1 ≤ c) (h2 : c ≤ 4096) : 1 ≤ c * c ∧ c * c ≤ 16777216 := by
  have a := Int.mul_le_mul h2 h2 (by omega) (by omega)
  have b := Int.mul_le_mul h1 h1 (by omega) (by omega)
  omega
theorem sq_exact {k c : Int} {p q : Nat} (hp : k * k = ((2 ^ p : Nat) : Int)) (hq : q = p + 24) (hp4 : p ≤ 4) (h1 : 1 ≤ c) (h2 : c ≤ 4096) : single.V (floatOfInt .f32 ((k * c) * (k * c))) = (((k * c) * (k * c) : Int) : Rat) := by
  have e : (k * c) * (k * c) = (c * c) * ((2 ^ p : Nat) : Int) := by rw [← hp]; grind
  obtain ⟨c1, c2⟩ := sq_bd h1 h2
  have x := conv_rounds ((k * c) * (k * c))
  rw [e] at x ⊢
  have pp : (0 : Int) < ((2 ^ p : Nat) : Int) := by have := Nat.two_pow_pos p; omega
  rw [show decide ((c * c) * ((2 ^ p : Nat) : Int) < 0) = false from decide_eq_false (by have := Int.mul_nonneg (show 0 ≤ c * c by omega) (Int.le_of_lt pp); omega)] at x
  by_cases c4 : c * c = 16777216
  · rw [c4] at x ⊢
    refine (x.exact 1 q (by decide) (by decide) (by omega) (by omega) ?_).2.1
    rw [P2_nat, hq, Nat.pow_add, Rat.intCast_mul, Rat.natCast_mul, Rat.intCast_natCast]
    have : ((16777216 : Int) : Rat) = ((2 ^ 24 : Nat) : Rat) := by decide +kernel
    rw [this]
    have : ((1 : Int) : Rat) = 1 := rfl
    grind
  · refine (x.exact (c * c) p (by omega) (by omega) (by omega) (by omega) ?_).2.1
    rw [P2_nat, Rat.intCast_mul, Rat.intCast_natCast]
theorem far_ok {d c : Int} (k : Int) (hk : k = 2 ∨ k = 4) (h0 : 0 ≤ d) (h1 : 1 ≤ c) (h2 : c ≤ 4096) (hd : d ≤ (k * c) * (k * c)) :
    single.fin (floatOfInt .f32 d) ∧ 0 ≤ single.V (floatOfInt .f32 d) ∧ single.fin (rootF (floatOfInt .f32 d)) ∧ single.fin (floatOfInt .f32 c) ∧ 0 < single.V (floatOfInt .f32 c) ∧ single.fin (farF d c) ∧ 0 ≤ single.V (farF d c) ∧ single.V (farF d c) ≤ (k : Rat) := by
  obtain ⟨c1, c2⟩ := sq_bd h1 h2
  have e : (k * c) * (k * c) = (k * k) * (c * c) := by grind
  have ve : single.V (floatOfInt .f32 ((k * c) * (k * c))) = (((k * c) * (k * c) : Int) : Rat) := by
    rcases hk with rfl | rfl
    · exact sq_exact (p := 2) (q := 26) rfl rfl (by omega) h1 h2
    · exact sq_exact (p := 4) (q := 28) rfl rfl (by omega) h1 h2
  have hb : 1 ≤ k ∧ k ≤ 4 ∧ (k * c) * (k * c) ≤ 268435456 ∧ 1 ≤ k * c ∧ k * c ≤ 16384 := by
    rw [e]
    rcases hk with rfl | rfl <;> omega
  obtain ⟨k1, k4, hsq, kc1, kc2⟩ := hb
  have b := conv_big (n := d) (k := 28) (by omega) (by omega) (by omega)
  have n := conv_nonneg (n := d) (k := 28) (by omega) h0 (by omega)
  obtain ⟨fc, vc, sc⟩ := conv_24 (n := c) h1 (by omega)
  obtain ⟨fk, vk, sk⟩ := conv_24 (n := k * c) kc1 (by omega)
  obtain ⟨fK, vK, sK⟩ := conv_24 (n := k) k1 (by omega)
  obtain ⟨X, Z, _, _, _, f, g, u, _⟩ := root_spec b.1 n
  have hc0 : 0 < single.V (floatOfInt .f32 c) := by
    rw [vc]
    have : ((0 : Int) : Rat) < (c : Rat) := Rat.intCast_lt_intCast.2 (by omega)
    simpa using this
  have hm : single.V (floatOfInt .f32 d) ≤ single.V (floatOfInt .f32 (k * c)) * single.V (floatOfInt .f32 (k * c)) := by
    have m := conv_mono h0 hd (by omega)
    rw [ve] at m
    rw [vk, ← Rat.intCast_mul]
    exact m
  have le := u _ fk sk hm
  have q := div_bound f fc hc0 fK sK (by rw [vK, vc]; rw [vk, Rat.intCast_mul] at le; exact le) (by
    rw [vK, vc]
    have : (0 : Rat) ≤ (k : Rat) * (c : Rat) := by rw [← Rat.intCast_mul]; exact Rat.intCast_nonneg.2 (by omega)
    grind)
  rw [vK] at q
  exact ⟨b.1, n, f, fc, hc0, q.1, div_nonneg f fc hc0 q.1 g, q.2.1⟩
theorem far_mono {d e c : Int} (h0 : 0 ≤ d) (hde : d ≤ e) (h1 : 1 ≤ c) (h2 : c ≤ 4096) (hd : e ≤ (4 * c) * (4 * c)) : single.V (farF d c) ≤ single.V (farF e c) := by
  obtain ⟨a1, a2, a3, a4, a5, a6, a7, a8⟩ := far_ok (d := d) 4 (.inr rfl) h0 h1 h2 (by omega)
  obtain ⟨b1, b2, b3, b4, b5, b6, b7, b8⟩ := far_ok (d := e) 4 (.inr rfl) (by omega) h1 h2 hd
  obtain ⟨_, _, _, _, _, _, g, _, _⟩ := root_spec a1 a2
  obtain ⟨c1, c2⟩ := sq_bd h1 h2
  exact div_mono a3 b3 a4 a5 g (root_mono a1 b1 a2 (conv_mono h0 hde (by
    have : (4 * c) * (4 * c) = 16 * (c * c) := by grind
    omega))) a6 b6
end Format
end Ieee

namespace Ieee
namespace Format
open Go
set_option linter.unusedVariables false
set_option linter.unusedSimpArgs false

/-! ### words that are no NaN: the order goes by V, infinities among them -/
def num (w : Nat) : Prop := single.rung w ≤ single.infRung
theorem fin_num {w : Nat} (h : single.fin w) : num w := Nat.le_of_lt h
theorem rat_tri (a b : Rat) : a < b ∨ a = b ∨ b < a := by grind
theorem num_cases {w : Nat} (h : num w) : single.fin w ∨ single.rung w = single.infRung := by
  rcases Nat.lt_or_ge (single.rung w) single.infRung with c | c
  · exact .inl c
  · exact .inr (Nat.le_antisymm h c)
theorem neg_sgn {x : Nat} (h : single.V x < 0) : single.sgn x = true := by
  unfold V at h
  cases e : single.sgn x
  · rw [e] at h
    have := single.rv_nonneg (single.rung x)
    simp [sg] at h
    grind
  · rfl
theorem V_inf {w : Nat} (h : single.rung w = single.infRung) : single.V w = sg (single.sgn w) * single.rv single.infRung := by unfold V; rw [h]
theorem V_fin_lt {w : Nat} (h : single.fin w) : -single.rv single.infRung < single.V w ∧ single.V w < single.rv single.infRung := by
  have m := single.rv_lt h
  have p := single.rv_nonneg (single.rung w)
  unfold V
  cases single.sgn w <;> simp [sg] <;> grind
theorem inf_pos : 0 < single.rv single.infRung := by
  have h : (0 : Nat) < single.infRung := by decide
  have := single.rv_lt h
  have p := single.rv_nonneg 0
  grind
theorem order_num {x y : Nat} (hx : num x) (hy : num y) : single.order x y = some (if single.V x < single.V y then .lt else if single.V x = single.V y then .eq else .gt) := by
  rcases num_cases hx with fx | ix
  · rcases num_cases hy with fy | iy
    · exact single.order_fin fx fy
    · obtain ⟨h1, h2⟩ := V_fin_lt fx
      unfold order
      rw [single.read_fin fx, single.read_inf single_bi iy, V_inf iy]
      cases single.sgn y
      · rw [if_pos (by simp [sg]; exact h2)]; rfl
      · rw [if_neg (by simp [sg]; grind), if_neg (by simp [sg]; grind)]; rfl
  · rcases num_cases hy with fy | iy
    · obtain ⟨h1, h2⟩ := V_fin_lt fy
      unfold order
      rw [single.read_inf single_bi ix, single.read_fin fy, V_inf ix]
      cases single.sgn x
      · rw [if_neg (by simp [sg]; grind), if_neg (by simp [sg]; grind)]; rfl
      · rw [if_pos (by simp [sg]; grind)]; rfl
    · have hp := inf_pos
      unfold order
      rw [single.read_inf single_bi ix, single.read_inf single_bi iy, V_inf ix, V_inf iy]
      cases single.sgn x <;> cases single.sgn y
      · rw [if_neg (by simp [sg]), if_pos rfl]; rfl
      · rw [if_neg (by simp [sg]; grind), if_neg (by simp [sg]; grind)]; rfl
      · rw [if_pos (by simp [sg]; grind)]; rfl
      · rw [if_neg (by simp [sg]), if_pos rfl]; rfl
theorem num_lt {x y : Nat} (hx : num x) (hy : num y) : (single.order x y == some .lt) = decide (single.V x < single.V y) := by
  rw [order_num hx hy]
  by_cases h : single.V x < single.V y
  · simp [h]
  · by_cases h2 : single.V x = single.V y <;> simp [h, h2]
theorem num_gt {x y : Nat} (hx : num x) (hy : num y) : (single.order x y == some .gt) = decide (single.V y < single.V x) := by
  rw [order_num hx hy]
  by_cases h : single.V x < single.V y
  · have : ¬ single.V y < single.V x := by grind
    simp [h, this]
  · by_cases h2 : single.V x = single.V y
    · simp [h2]
    · have : single.V y < single.V x := by grind
      simp [h, h2, this]
theorem num_eq {x y : Nat} (hx : num x) (hy : num y) : (single.order x y == some .eq) = decide (single.V x = single.V y) := by
  rw [order_num hx hy]
  by_cases h : single.V x < single.V y
  · have : single.V x ≠ single.V y := by grind
    simp [h, this]
  · by_cases h2 : single.V x = single.V y <;> simp [h, h2]

/-! ### rounding keeps the order, over into infinity -/
theorem Rounds.num {x : Rat} {s : Bool} {w : Nat} (h : single.Rounds x s w) : num w := by
  obtain ⟨r, rfl, _⟩ := h
  unfold Format.num
  rw [single.rung_word s (single.min_lt_sw r)]
  exact Nat.min_le_right _ _
theorem Rounds.val {x : Rat} {s : Bool} {w : Nat} (h : single.Rounds x s w) : ∃ r, single.Near (sg s * x) r ∧ single.V w = sg s * single.rv (min r single.infRung) := by
  obtain ⟨r, rfl, hr⟩ := h
  refine ⟨r, hr, ?_⟩
  unfold V
  rw [single.sgn_word s (single.min_lt_sw r), single.rung_word s (single.min_lt_sw r)]
theorem rv_zero0 : single.rv 0 = 0 := by
  have a := single.rv_nonneg 0
  unfold rv rmag
  rw [if_pos (by decide)]
  simp
theorem near_nonpos {v : Rat} {r : Nat} (h : single.Near v r) (hv : v ≤ 0) : r = 0 := by
  have := h.le_of (b := 0) (by rw [rv_zero0]; exact hv)
  omega
theorem Rounds.le {x y : Rat} {s t : Bool} {w v : Nat} (h : single.Rounds x s w) (h' : single.Rounds y t v) (hs : x < 0 → s = true) (ht : 0 < y → t = false) (hxy : x ≤ y) : single.V w ≤ single.V v := by
  obtain ⟨r, hr, e⟩ := h.val
  obtain ⟨q, hq, e'⟩ := h'.val
  rw [e, e']
  have p1 := single.rv_nonneg (min r single.infRung)
  have p2 := single.rv_nonneg (min q single.infRung)
  cases s
  · cases t
    · simp only [sg] at hr hq ⊢
      have := hr.mono hq (by simpa using hxy)
      have := single.rv_mono (show min r single.infRung ≤ min q single.infRung by omega)
      simpa using this
    · have hy : ¬ 0 < y := fun h => by have := ht h; simp at this
      have hx : ¬ x < 0 := fun h => by have := hs h; simp at this
      have hx0 : x = 0 := by grind
      have hy0 : y = 0 := by grind
      subst hx0 hy0
      have r0 := near_nonpos hr (by simp [sg])
      have q0 := near_nonpos hq (by simp [sg])
      subst r0 q0
      rw [Nat.zero_min, rv_zero0]
      simp [sg]
  · cases t
    · simp only [sg]
      simp
      grind
    · simp only [sg] at hr hq ⊢
      have := hq.mono hr (by simp; grind)
      have := single.rv_mono (show min q single.infRung ≤ min r single.infRung by omega)
      simp
      grind
theorem sum_sgn {s t : Bool} {x : Rat} : (x < 0 → sumSign s t x = true) ∧ (0 < x → sumSign s t x = false) := by
  unfold sumSign
  constructor
  · intro h
    rw [if_neg (by grind)]
    exact decide_eq_true h
  · intro h
    rw [if_neg (by grind)]
    exact decide_eq_false (by grind)
theorem prod_sgn {x y : Nat} : (single.V x * single.V y < 0 → (single.sgn x ^^ single.sgn y) = true) ∧ (0 < single.V x * single.V y → (single.sgn x ^^ single.sgn y) = false) := by
  constructor
  · intro h
    rcases rat_tri (single.V x) 0 with c | c | c
    · have : 0 < single.V y := by
        rcases rat_tri (single.V y) 0 with d | d | d
        · have := Rat.mul_pos (show 0 < -single.V x by grind) (show 0 < -single.V y by grind)
          grind
        · rw [d] at h; simp at h
        · exact d
      rw [neg_sgn c, pos_sgn this]; rfl
    · rw [c] at h; simp at h
    · have : single.V y < 0 := by
        rcases rat_tri (single.V y) 0 with d | d | d
        · exact d
        · rw [d] at h; simp at h
        · have := Rat.mul_pos c d
          grind
      rw [pos_sgn c, neg_sgn this]; rfl
  · intro h
    rcases rat_tri (single.V x) 0 with c | c | c
    · have : single.V y < 0 := by
        rcases rat_tri (single.V y) 0 with d | d | d
        · exact d
        · rw [d] at h; simp at h
        · have := Rat.mul_pos (show 0 < -single.V x by grind) d
          grind
      rw [neg_sgn c, neg_sgn this]; rfl
    · rw [c] at h; simp at h
    · have : 0 < single.V y := by
        rcases rat_tri (single.V y) 0 with d | d | d
        · have := Rat.mul_pos c (show 0 < -single.V y by grind)
          grind
        · rw [d] at h; simp at h
        · exact d
      rw [pos_sgn c, pos_sgn this]; rfl
theorem add_mono {a b c d : Nat} (fa : single.fin a) (fb : single.fin b) (fc : single.fin c) (fd : single.fin d) (h1 : single.V a ≤ single.V c) (h2 : single.V b ≤ single.V d) : single.V (addF a b) ≤ single.V (addF c d) :=
  (addF_spec fa fb).2.le (addF_spec fc fd).2 sum_sgn.1 sum_sgn.2 (by grind)
theorem sub_mono {a b c d : Nat} (fa : single.fin a) (fb : single.fin b) (fc : single.fin c) (fd : single.fin d) (h1 : single.V a ≤ single.V c) (h2 : single.V d ≤ single.V b) : single.V (subF a b) ≤ single.V (subF c d) :=
  (subF_spec fa fb).2.le (subF_spec fc fd).2 sum_sgn.1 sum_sgn.2 (by grind)
theorem mul_mono {a b c : Nat} (fa : single.fin a) (fb : single.fin b) (fc : single.fin c) (h0 : 0 ≤ single.V a) (h : single.V b ≤ single.V c) : single.V (mulF a b) ≤ single.V (mulF a c) :=
  (mulF_spec fa fb).2.le (mulF_spec fa fc).2 prod_sgn.1 prod_sgn.2 (Rat.mul_le_mul_of_nonneg_left h h0)
theorem mul_anti {a b c : Nat} (fa : single.fin a) (fb : single.fin b) (fc : single.fin c) (h0 : single.V a ≤ 0) (h : single.V b ≤ single.V c) : single.V (mulF a c) ≤ single.V (mulF a b) :=
  (mulF_spec fa fc).2.le (mulF_spec fa fb).2 prod_sgn.1 prod_sgn.2 (by
    have := Rat.mul_le_mul_of_nonneg_left h (show 0 ≤ -single.V a by grind)
    grind)
theorem quot_sgn {x y : Nat} (h0 : single.V y ≠ 0) : (single.V x / single.V y < 0 → (single.sgn x ^^ single.sgn y) = true) ∧ (0 < single.V x / single.V y → (single.sgn x ^^ single.sgn y) = false) := by
  have hq : 0 < single.V y * single.V y := by
    rcases rat_tri (single.V y) 0 with d | d | d
    · have := Rat.mul_pos (show 0 < -single.V y by grind) (show 0 < -single.V y by grind)
      grind
    · exact absurd d h0
    · exact Rat.mul_pos d d
  have e : single.V x * single.V y = single.V x / single.V y * (single.V y * single.V y) := by
    rw [← Rat.mul_assoc, Rat.div_mul_cancel h0]
  constructor
  · intro h
    refine prod_sgn.1 ?_
    rw [e]
    have := Rat.mul_pos (show 0 < -(single.V x / single.V y) by grind) hq
    grind
  · intro h
    refine prod_sgn.2 ?_
    rw [e]
    exact Rat.mul_pos h hq
theorem quo_mono {a b s : Nat} (fa : single.fin a) (fb : single.fin b) (fs : single.fin s) (h0 : 0 < single.V s) (h : single.V a ≤ single.V b) : single.V (divF a s) ≤ single.V (divF b s) := by
  have hn : single.V s ≠ 0 := by grind
  refine (divF_spec fa fs hn).2.le (divF_spec fb fs hn).2 (quot_sgn hn).1 (quot_sgn hn).2 ?_
  rw [Rat.div_def, Rat.div_def]
  exact Rat.mul_le_mul_of_nonneg_right h (Rat.le_of_lt (Rat.inv_pos.2 h0))
theorem quo_anti {a b s : Nat} (fa : single.fin a) (fb : single.fin b) (fs : single.fin s) (h0 : single.V s < 0) (h : single.V a ≤ single.V b) : single.V (divF b s) ≤ single.V (divF a s) := by
  have hn : single.V s ≠ 0 := by grind
  refine (divF_spec fb fs hn).2.le (divF_spec fa fs hn).2 (quot_sgn hn).1 (quot_sgn hn).2 ?_
  have ea := Rat.div_mul_cancel (a := single.V a) hn
  have eb := Rat.div_mul_cancel (a := single.V b) hn
  rcases rat_tri (single.V a / single.V s) (single.V b / single.V s) with c | c | c
  · have := Rat.mul_pos (show 0 < single.V b / single.V s - single.V a / single.V s by grind) (show 0 < -single.V s by grind)
    grind
  · rw [c]; exact Rat.le_refl
  · exact Rat.le_of_lt c
theorem quo_num {a s : Nat} (fa : single.fin a) (fs : single.fin s) (h0 : single.V s ≠ 0) : num (divF a s) := (divF_spec fa fs h0).2.num
end Format
end Ieee

namespace Ieee
namespace Format
open Go
set_option linter.unusedVariables false
set_option linter.unusedSimpArgs false

/-! ### rays, as functions of words -/
abbrev ci (z : Int) : Nat := floatOfInt .f32 z
theorem ci_ok {z : Int} (h1 : -8388608 ≤ z) (h2 : z ≤ 8388608) : single.fin (ci z) ∧ single.V (ci z) = (z : Rat) ∧ Bd 23 (ci z) := by
  obtain ⟨a, b, _⟩ := conv_exact z (by omega) (by omega)
  refine ⟨a, b, a, ?_⟩
  rw [b, P2_nat]
  constructor
  · rw [← Rat.intCast_natCast, ← Rat.intCast_neg]; exact Rat.intCast_le_intCast.2 (by simpa using h1)
  · rw [← Rat.intCast_natCast]; exact Rat.intCast_le_intCast.2 (by simpa using h2)
theorem ci_le {a b : Int} (h1 : -8388608 ≤ a) (h2 : a ≤ b) (h3 : b ≤ 8388608) : single.V (ci a) ≤ single.V (ci b) := by
  rw [(ci_ok h1 (by omega)).2.1, (ci_ok (by omega) h3).2.1]
  exact Rat.intCast_le_intCast.2 h2
def grF (a b : Nat) : Nat := if single.V a < single.V b then b else a
def lsF (a b : Nat) : Nat := if single.V b < single.V a then b else a
theorem grF_V (a b : Nat) : single.V a ≤ single.V (grF a b) ∧ single.V b ≤ single.V (grF a b) ∧ (grF a b = a ∨ grF a b = b) := by
  unfold grF
  split
  · exact ⟨by grind, Rat.le_refl, .inr rfl⟩
  · exact ⟨Rat.le_refl, by grind, .inl rfl⟩
theorem lsF_V (a b : Nat) : single.V (lsF a b) ≤ single.V a ∧ single.V (lsF a b) ≤ single.V b ∧ (lsF a b = a ∨ lsF a b = b) := by
  unfold lsF
  split
  · exact ⟨by grind, Rat.le_refl, .inr rfl⟩
  · exact ⟨Rat.le_refl, by grind, .inl rfl⟩
theorem grF_le {a b c d : Nat} (h1 : single.V a ≤ single.V c) (h2 : single.V b ≤ single.V d) : single.V (grF a b) ≤ single.V (grF c d) := by
  obtain ⟨p, q, _⟩ := grF_V c d
  rcases (grF_V a b).2.2 with e | e <;> rw [e] <;> grind
theorem lsF_le {a b c d : Nat} (h1 : single.V a ≤ single.V c) (h2 : single.V b ≤ single.V d) : single.V (lsF a b) ≤ single.V (lsF c d) := by
  obtain ⟨p, q, _⟩ := lsF_V a b
  rcases (lsF_V c d).2.2 with e | e <;> rw [e] <;> grind
theorem grF_num {a b : Nat} (h1 : num a) (h2 : num b) : num (grF a b) := by rcases (grF_V a b).2.2 with e | e <;> rw [e] <;> assumption
theorem lsF_num {a b : Nat} (h1 : num a) (h2 : num b) : num (lsF a b) := by rcases (lsF_V a b).2.2 with e | e <;> rw [e] <;> assumption

/-- a ray -/
structure Ry where
  X : Nat
  Y : Nat
  H : Nat
  DX : Nat
  DY : Nat
  DH : Nat
  Mo : Nat
structure Ry.ok (r : Ry) : Prop where
  x : Ht r.X
  y : Ht r.Y
  h : Ht r.H
  dx : Ht r.DX
  dy : Ht r.DY
  dh : Ht r.DH
  mo : Ht r.Mo
  m0 : 0 ≤ single.V r.Mo
  m1 : single.V r.Mo ≤ P2 16

/-- from when, to when a ray is between two coordinates -/
def quI (f s : Nat) (z : Int) : Nat := divF (subF (ci z) f) s
def axI (f s : Nat) (lo hi : Int) : Nat := if single.V s = 0 then 0 else if single.V (quI f s hi) < single.V (quI f s lo) then quI f s hi else quI f s lo
def axO (f s m : Nat) (lo hi : Int) : Nat := if single.V s = 0 then m else if single.V (quI f s hi) < single.V (quI f s lo) then quI f s lo else quI f s hi
def axB (f s : Nat) (lo hi : Int) : Prop := single.V s = 0 → single.V (ci lo) ≤ single.V f ∧ single.V f < single.V (ci hi)
instance (f s : Nat) (lo hi : Int) : Decidable (axB f s lo hi) := by unfold axB; infer_instance
theorem num_zero : num 0 := by unfold num; decide
theorem V_zero : single.V 0 = 0 := const_0.2.1
theorem sub_ci {f : Nat} (hf : Ht f) {z : Int} (h1 : -8388608 ≤ z) (h2 : z ≤ 8388608) : single.fin (subF (ci z) f) := ((ci_ok h1 h2).2.2.sub (hf.bd.mono (by omega)) (by omega)).1
theorem qu_num {f s : Nat} (hf : Ht f) (hs : Ht s) (h0 : single.V s ≠ 0) {z : Int} (h1 : -8388608 ≤ z) (h2 : z ≤ 8388608) : num (quI f s z) := quo_num (sub_ci hf h1 h2) hs.fin h0
theorem qu_le {f s : Nat} (hf : Ht f) (hs : Ht s) (h0 : 0 < single.V s) {a b : Int} (h1 : -8388608 ≤ a) (h2 : a ≤ b) (h3 : b ≤ 8388608) : single.V (quI f s a) ≤ single.V (quI f s b) := by
  refine quo_mono (sub_ci hf h1 (by omega)) (sub_ci hf (by omega) h3) hs.fin h0 ?_
  exact sub_mono (ci_ok h1 (by omega)).1 hf.fin (ci_ok (by omega) h3).1 hf.fin (ci_le h1 h2 h3) Rat.le_refl
theorem qu_ge {f s : Nat} (hf : Ht f) (hs : Ht s) (h0 : single.V s < 0) {a b : Int} (h1 : -8388608 ≤ a) (h2 : a ≤ b) (h3 : b ≤ 8388608) : single.V (quI f s b) ≤ single.V (quI f s a) := by
  refine quo_anti (sub_ci hf h1 (by omega)) (sub_ci hf (by omega) h3) hs.fin h0 ?_
  exact sub_mono (ci_ok h1 (by omega)).1 hf.fin (ci_ok (by omega) h3).1 hf.fin (ci_le h1 h2 h3) Rat.le_refl
theorem ax_num {f s m : Nat} (hf : Ht f) (hs : Ht s) (hm : Ht m) {lo hi : Int} (h1 : -8388608 ≤ lo) (h2 : lo ≤ hi) (h3 : hi ≤ 8388608) : num (axI f s lo hi) ∧ num (axO f s m lo hi) := by
  unfold axI axO
  by_cases h0 : single.V s = 0
  · rw [if_pos h0, if_pos h0]; exact ⟨num_zero, fin_num hm.fin⟩
  · rw [if_neg h0, if_neg h0]
    have a := qu_num hf hs h0 h1 (show lo ≤ 8388608 by omega)
    have b := qu_num hf hs h0 (show -8388608 ≤ hi by omega) h3
    split
    · exact ⟨b, a⟩
    · exact ⟨a, b⟩
/-- a greater stretch is entered no later and left no sooner -/
theorem ax_mono {f s m : Nat} (hf : Ht f) (hs : Ht s) {lo hi lo' hi' : Int} (h1 : -8388608 ≤ lo') (h2 : lo' ≤ lo) (h3 : lo ≤ hi) (h4 : hi ≤ hi') (h5 : hi' ≤ 8388608) :
    single.V (axI f s lo' hi') ≤ single.V (axI f s lo hi) ∧ single.V (axO f s m lo hi) ≤ single.V (axO f s m lo' hi') ∧ (axB f s lo hi → axB f s lo' hi') := by
  refine ⟨?_, ?_, fun h h0 => ?_⟩
  · unfold axI
    by_cases h0 : single.V s = 0
    · rw [if_pos h0, if_pos h0]; exact Rat.le_refl
    · rw [if_neg h0, if_neg h0]
      rcases rat_tri (single.V s) 0 with c | c | c
      · have a1 := qu_ge hf hs c h1 h2 (show lo ≤ 8388608 by omega)
        have a2 := qu_ge hf hs c (show -8388608 ≤ lo by omega) h3 (show hi ≤ 8388608 by omega)
        have a3 := qu_ge hf hs c (show -8388608 ≤ hi by omega) h4 h5
        split <;> split <;> grind
      · exact absurd c h0
      · have a1 := qu_le hf hs c h1 h2 (show lo ≤ 8388608 by omega)
        have a2 := qu_le hf hs c (show -8388608 ≤ lo by omega) h3 (show hi ≤ 8388608 by omega)
        have a3 := qu_le hf hs c (show -8388608 ≤ hi by omega) h4 h5
        split <;> split <;> grind
  · unfold axO
    by_cases h0 : single.V s = 0
    · rw [if_pos h0, if_pos h0]; exact Rat.le_refl
    · rw [if_neg h0, if_neg h0]
      rcases rat_tri (single.V s) 0 with c | c | c
      · have a1 := qu_ge hf hs c h1 h2 (show lo ≤ 8388608 by omega)
        have a2 := qu_ge hf hs c (show -8388608 ≤ lo by omega) h3 (show hi ≤ 8388608 by omega)
        have a3 := qu_ge hf hs c (show -8388608 ≤ hi by omega) h4 h5
        split <;> split <;> grind
      · exact absurd c h0
      · have a1 := qu_le hf hs c h1 h2 (show lo ≤ 8388608 by omega)
        have a2 := qu_le hf hs c (show -8388608 ≤ lo by omega) h3 (show hi ≤ 8388608 by omega)
        have a3 := qu_le hf hs c (show -8388608 ≤ hi by omega) h4 h5
        split <;> split <;> grind
  · obtain ⟨a, b⟩ := h h0
    have e1 := ci_le h1 h2 (show lo ≤ 8388608 by omega)
    have e2 := ci_le (show -8388608 ≤ hi by omega) h4 h5
    exact ⟨by grind, by grind⟩

/-- a region of cells in whole numbers: columns from x to x2, rows from y to y2 -/
structure Bx where
  x : Int
  y : Int
  x2 : Int
  y2 : Int
structure Bx.ok (c : Bx) : Prop where
  x1 : -8388608 ≤ c.x
  x2 : c.x ≤ c.x2
  x3 : c.x2 ≤ 8388608
  y1 : -8388608 ≤ c.y
  y2 : c.y ≤ c.y2
  y3 : c.y2 ≤ 8388608
def Bx.sub (c d : Bx) : Prop := d.x ≤ c.x ∧ c.x2 ≤ d.x2 ∧ d.y ≤ c.y ∧ c.y2 ≤ d.y2
def crI (r : Ry) (c : Bx) : Nat := grF (grF (axI r.X r.DX c.x c.x2) (axI r.Y r.DY c.y c.y2)) 0
def crO (r : Ry) (c : Bx) : Nat := lsF (lsF (axO r.X r.DX r.Mo c.x c.x2) (axO r.Y r.DY r.Mo c.y c.y2)) r.Mo
def crB (r : Ry) (c : Bx) : Prop := axB r.X r.DX c.x c.x2 ∧ axB r.Y r.DY c.y c.y2 ∧ single.V (crI r c) ≤ single.V (crO r c)
instance (r : Ry) (c : Bx) : Decidable (crB r c) := by unfold crB; infer_instance
theorem cr_num {r : Ry} (hr : r.ok) {c : Bx} (hc : c.ok) : num (crI r c) ∧ num (crO r c) := by
  obtain ⟨a1, a2⟩ := ax_num hr.x hr.dx hr.mo hc.x1 hc.x2 hc.x3
  obtain ⟨b1, b2⟩ := ax_num hr.y hr.dy hr.mo hc.y1 hc.y2 hc.y3
  exact ⟨grF_num (grF_num a1 b1) num_zero, lsF_num (lsF_num a2 b2) (fin_num hr.mo.fin)⟩
theorem cr_mono {r : Ry} (hr : r.ok) {c d : Bx} (hc : c.ok) (hd : d.ok) (h : c.sub d) (hb : crB r c) : crB r d ∧ single.V (crI r d) ≤ single.V (crI r c) ∧ single.V (crO r c) ≤ single.V (crO r d) := by
  obtain ⟨h1, h2, h3, h4⟩ := h
  obtain ⟨b1, b2, b3⟩ := hb
  obtain ⟨p1, p2, p3⟩ := ax_mono (m := r.Mo) hr.x hr.dx hd.x1 h1 hc.x2 h2 hd.x3
  obtain ⟨q1, q2, q3⟩ := ax_mono (m := r.Mo) hr.y hr.dy hd.y1 h3 hc.y2 h4 hd.y3
  have e1 : single.V (crI r d) ≤ single.V (crI r c) := grF_le (grF_le p1 q1) Rat.le_refl
  have e2 : single.V (crO r c) ≤ single.V (crO r d) := lsF_le (lsF_le p2 q2) Rat.le_refl
  exact ⟨⟨p3 b1, q3 b2, by grind⟩, e1, e2⟩
/-- when a ray is in a region, its times are right ones -/
structure Tm (r : Ry) (t : Nat) : Prop where
  n : num t
  lo : 0 ≤ single.V t
  hi : single.V t ≤ single.V r.Mo
theorem Tm.fin {r : Ry} (hr : r.ok) {t : Nat} (h : Tm r t) : single.fin t ∧ Bd 16 t := by
  have hf : single.fin t := by
    rcases num_cases h.n with c | c
    · exact c
    · have e := V_inf c
      have m := (V_fin_lt hr.mo.fin).2
      have hl := h.lo
      have hh := h.hi
      have p := inf_pos
      rw [e] at hl hh
      cases hs : single.sgn t
      · rw [hs] at hh; simp [sg] at hh; grind
      · rw [hs] at hl; simp [sg] at hl; grind
  refine ⟨hf, hf, ?_, ?_⟩
  · have := h.lo
    have p := P2_pos 16
    show -P2 16 ≤ _
    grind
  · have := h.hi
    have := hr.m1
    show _ ≤ P2 16
    grind
theorem cr_tm {r : Ry} (hr : r.ok) {c : Bx} (hc : c.ok) (hb : crB r c) : Tm r (crI r c) ∧ Tm r (crO r c) := by
  obtain ⟨n1, n2⟩ := cr_num hr hc
  have a := (grF_V (grF (axI r.X r.DX c.x c.x2) (axI r.Y r.DY c.y c.y2)) 0).2.1
  have b := (lsF_V (lsF (axO r.X r.DX r.Mo c.x c.x2) (axO r.Y r.DY r.Mo c.y c.y2)) r.Mo).2.1
  have h := hb.2.2
  rw [V_zero] at a
  have a' : 0 ≤ single.V (crI r c) := a
  have b' : single.V (crO r c) ≤ single.V r.Mo := b
  exact ⟨⟨n1, a', by grind⟩, ⟨n2, by grind, b'⟩⟩
/-- how high a ray is -/
def hgF (r : Ry) (t : Nat) : Nat := addF r.H (mulF r.DH t)
theorem hg_bd {r : Ry} (hr : r.ok) {t : Nat} (ht : Tm r t) : Bd 36 (mulF r.DH t) ∧ Bd 37 (hgF r t) := by
  have h1 : Bd 36 (mulF r.DH t) := hr.dh.bd.mul (ht.fin hr).2 (by omega)
  exact ⟨h1, (hr.h.bd.mono (by omega)).add h1 (by omega)⟩
theorem hg_mono {r : Ry} (hr : r.ok) {a b : Nat} (ha : Tm r a) (hb : Tm r b) (h : single.V a ≤ single.V b) :
    (0 ≤ single.V r.DH → single.V (hgF r a) ≤ single.V (hgF r b)) ∧ (single.V r.DH ≤ 0 → single.V (hgF r b) ≤ single.V (hgF r a)) := by
  have fa := (ha.fin hr).1
  have fb := (hb.fin hr).1
  have ma := (hg_bd hr ha).1.1
  have mb := (hg_bd hr hb).1.1
  exact ⟨fun h0 => add_mono hr.h.fin ma hr.h.fin mb Rat.le_refl (mul_mono hr.dh.fin fa fb h0 h), fun h0 => add_mono hr.h.fin mb hr.h.fin ma Rat.le_refl (mul_anti hr.dh.fin fa fb h0 h)⟩
/-- between two times a ray is nowhere lower than at one of them -/
theorem hg_between {r : Ry} (hr : r.ok) {a b t : Nat} (ha : Tm r a) (hb : Tm r b) (ht : Tm r t) (h1 : single.V a ≤ single.V t) (h2 : single.V t ≤ single.V b) {v : Rat} (hv : single.V (hgF r t) ≤ v) : single.V (hgF r a) ≤ v ∨ single.V (hgF r b) ≤ v := by
  rcases (show 0 ≤ single.V r.DH ∨ single.V r.DH ≤ 0 by grind) with c | c
  · exact .inl (by have := (hg_mono hr ha ht h1).1 c; grind)
  · exact .inr (by have := (hg_mono hr ht hb h2).2 c; grind)
/-- when a ray strikes a cell -/
def stF (r : Ry) (c : Bx) (v : Nat) : Option Nat :=
  if ¬ crB r c then none else if single.V (hgF r (crI r c)) ≤ single.V v then some (crI r c) else if single.V (hgF r (crO r c)) ≤ single.V v then some (lsF (grF (divF (subF v r.H) r.DH) (crI r c)) (crO r c)) else none
theorem stF_some {r : Ry} {c : Bx} {v t : Nat} (h : stF r c v = some t) : crB r c ∧ single.V (crI r c) ≤ single.V t ∧ single.V t ≤ single.V (crO r c) ∧ (single.V (hgF r (crI r c)) ≤ single.V v ∨ single.V (hgF r (crO r c)) ≤ single.V v) := by
  unfold stF at h
  by_cases hb : crB r c
  · rw [if_neg (by simpa using hb)] at h
    have hio := hb.2.2
    split at h
    · obtain rfl := Option.some.inj h
      exact ⟨hb, Rat.le_refl, hio, .inl (by assumption)⟩
    · split at h
      · obtain rfl := Option.some.inj h
        obtain ⟨l1, l2, l3⟩ := lsF_V (grF (divF (subF v r.H) r.DH) (crI r c)) (crO r c)
        obtain ⟨g1, g2, g3⟩ := grF_V (divF (subF v r.H) r.DH) (crI r c)
        refine ⟨hb, ?_, l2, .inr (by assumption)⟩
        rcases l3 with e | e <;> rw [e]
        · exact g2
        · exact hio
      · cases h
  · rw [if_pos hb] at h; cases h
/-- a box that a ray misses holds no cell that it strikes -/
theorem miss_none {r : Ry} (hr : r.ok) {c d : Bx} (hc : c.ok) (hd : d.ok) (hs : c.sub d) {v t : Nat} (h : stF r c v = some t) : crB r d ∧ single.V (crI r d) ≤ single.V t ∧ (single.V (hgF r (crI r d)) ≤ single.V v ∨ single.V (hgF r (crO r d)) ≤ single.V v) := by
  obtain ⟨hb, h1, h2, h3⟩ := stF_some h
  obtain ⟨m1, m2, m3⟩ := cr_mono hr hc hd hs hb
  obtain ⟨t1, t2⟩ := cr_tm hr hc hb
  obtain ⟨u1, u2⟩ := cr_tm hr hd m1
  have hio := hb.2.2
  refine ⟨m1, by grind, ?_⟩
  rcases h3 with h3 | h3
  · exact hg_between hr u1 u2 t1 m2 (by grind) h3
  · exact hg_between hr u1 u2 t2 (by grind) m3 h3
end Format
end Ieee
