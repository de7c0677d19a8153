import Derived.Test.YtfmbekdfigbfiaaJC
namespace Ieee
namespace Format
open Go

/-- finite, and at most n times the greatest height -/
def Hn (n : Nat) (x : Nat) : Prop := single.fin x ∧ -((n : Rat) * P2 20) ≤ single.V x ∧ single.V x ≤ (n : Rat) * P2 20
theorem const_nat (n : Nat) (hn : n < 16777216) : ∃ c, single.fin c ∧ single.V c = (n : Rat) * P2 20 ∧ single.sgn c = false := by
  have r : single.Rounds ((n : Rat) * P2 20) false (single.write (.number false n 20)) := single.write_rounds single_fb false n 20 (by simp [sg])
  exact ⟨_, r.exact (n : Int) 20 (by omega) (by omega) (by decide) (by decide) (by rw [Rat.intCast_natCast])⟩
theorem Hn.one {x : Nat} (h : Bd 20 x) : Hn 1 x := by
  obtain ⟨a, b, c⟩ := h
  have e : ((1 : Nat) : Rat) * P2 20 = P2 20 := by rw [show ((1 : Nat) : Rat) = 1 from rfl, Rat.one_mul]
  exact ⟨a, by rw [e]; exact b, by rw [e]; exact c⟩
theorem Hn.add {n x y : Nat} (hx : Hn n x) (hy : Bd 20 y) (hn : n + 1 < 16777216) : Hn (n + 1) (addF x y) := by
  have r := (addF_spec hx.1 hy.1).2
  obtain ⟨c, fc, vc, sc⟩ := const_nat (n + 1) hn
  obtain ⟨_, x1, x2⟩ := hx
  obtain ⟨_, y1, y2⟩ := hy
  have e : ((n + 1 : Nat) : Rat) * P2 20 = (n : Rat) * P2 20 + P2 20 := by
    rw [show ((n + 1 : Nat) : Rat) = (n : Rat) + 1 from by exact_mod_cast rfl, Rat.add_mul, Rat.one_mul]
  have z : P2 ((20 : Nat) : Int) = P2 20 := rfl
  rw [z] at y1 y2
  have := r.bound fc sc (by rw [vc, e]; grind) (by rw [vc, e]; grind)
  rw [vc] at this
  exact ⟨this.1, this.2.2.1, this.2.1⟩

/-- 'float32(n)' of any integer -/
theorem conv_rounds (n : Int) : single.Rounds (n : Rat) (decide (n < 0)) (floatOfInt .f32 n) := by
  have e : sg (decide (n < 0)) * (((n.natAbs : Nat) : Rat) * P2 0) = (n : Rat) := by
    rw [P2_zero, Rat.mul_one]
    by_cases c : n < 0
    · have e : ((n.natAbs : Nat) : Rat) = -((n : Int) : Rat) := by
        rw [← Rat.intCast_natCast, show (n.natAbs : Int) = -n from by omega, Rat.intCast_neg]
      rw [e]; simp [c, sg]; grind
    · have e : ((n.natAbs : Nat) : Rat) = ((n : Int) : Rat) := by
        rw [← Rat.intCast_natCast, show (n.natAbs : Int) = n from by omega]
      rw [e]; simp [c, sg]
  exact single.write_rounds single_fb (decide (n < 0)) n.natAbs 0 e
theorem conv_big {n : Int} {k : Nat} (hk : k ≤ 100) (h1 : -((2 ^ k : Nat) : Int) ≤ n) (h2 : n ≤ ((2 ^ k : Nat) : Int)) : Bd k (floatOfInt .f32 n) := by
  have r := conv_rounds n
  have e : P2 k = (((2 ^ k : Nat) : Int) : Rat) := by rw [P2_nat, Rat.intCast_natCast]
  refine r.bd hk ?_ ?_
  · rw [e]; exact Rat.intCast_le_intCast.2 h2
  · rw [e, ← Rat.intCast_neg]; exact Rat.intCast_le_intCast.2 h1
theorem conv_nonneg {n : Int} {k : Nat} (hk : k ≤ 100) (h1 : 0 ≤ n) (h2 : n ≤ ((2 ^ k : Nat) : Int)) : 0 ≤ single.V (floatOfInt .f32 n) := by
  have h0 : (0 : Int) ≤ ((2 ^ k : Nat) : Int) := by omega
  exact (conv_rounds n).nonneg (conv_big hk (by omega) h2).1 (Rat.intCast_nonneg.2 h1)
/-- exact up to 2^24 itself -/
theorem conv_24 {n : Int} (h1 : 1 ≤ n) (h2 : n ≤ 16777216) : single.fin (floatOfInt .f32 n) ∧ single.V (floatOfInt .f32 n) = (n : Rat) ∧ single.sgn (floatOfInt .f32 n) = false := by
  have d : decide (n < 0) = false := decide_eq_false (by omega)
  have r := conv_rounds n
  rw [d] at r
  by_cases c : n = 16777216
  · subst c
    exact r.exact 1 24 (by decide) (by decide) (by decide) (by decide) (by rw [show P2 24 = ((2 ^ 24 : Nat) : Rat) from P2_nat 24]; decide +kernel)
  · exact r.exact n 0 (by omega) (by omega) (by decide) (by decide) (by rw [P2_zero, Rat.mul_one])
/-- the sign is kept -/
theorem Rounds.nonpos {x : Rat} {s : Bool} {w : Nat} (h : single.Rounds x s w) (fw : single.fin w) (h0 : x ≤ 0) : single.V w ≤ 0 := by
  obtain ⟨r, rfl, hr⟩ := h
  have lt := (single.fin_word_iff s r).1 fw
  rw [single.V_word lt]
  have p := single.rv_nonneg r
  cases s
  · have h1 := hr.2.2
    simp [sg] at h1
    have x0 : x = 0 := by grind
    subst x0
    have hz : single.Near (single.rv 0) r := by rw [single.rv_zero]; simpa [sg] using hr
    have := hz.eq_of
    subst this
    rw [single.rv_zero]
    simp [sg]
  · simp [sg]; grind
theorem div_nonpos {x y : Nat} (hx : single.fin x) (hy : single.fin y) (h0 : 0 < single.V y) (fd : single.fin (divF x y)) (h1 : single.V x ≤ 0) : single.V (divF x y) ≤ 0 := by
  have hr := (divF_spec hx hy (by intro e; rw [e] at h0; exact absurd h0 (by grind))).2
  have e : single.V x / single.V y * single.V y = single.V x := Rat.div_mul_cancel (by grind)
  exact hr.nonpos fd (mul_le_cancel h0 (by rw [e]; grind))
end Format
end Ieee

namespace Ieee
namespace Format
open Go

/-- finite, and at most n times 2^e -/
def He (e n : Nat) (x : Nat) : Prop := single.fin x ∧ -((n : Rat) * P2 e) ≤ single.V x ∧ single.V x ≤ (n : Rat) * P2 e
theorem const_nat_e (e n : Nat) (he : e ≤ 100) (hn : n < 16777216) : ∃ c, single.fin c ∧ single.V c = (n : Rat) * P2 e ∧ single.sgn c = false := by
  have r : single.Rounds ((n : Rat) * P2 e) false (single.write (.number false n e)) := single.write_rounds single_fb false n e (by simp [sg])
  exact ⟨_, r.exact (n : Int) e (by omega) (by omega) (by omega) (by omega) (by rw [Rat.intCast_natCast])⟩
theorem He.one {e x : Nat} (h : Bd e x) : He e 1 x := by
  obtain ⟨a, b, c⟩ := h
  have q : ((1 : Nat) : Rat) * P2 e = P2 e := by rw [show ((1 : Nat) : Rat) = 1 from rfl, Rat.one_mul]
  exact ⟨a, by rw [q]; exact b, by rw [q]; exact c⟩
theorem He.add {e n x y : Nat} (hx : He e n x) (hy : Bd e y) (he : e ≤ 100) (hn : n + 1 < 16777216) : He e (n + 1) (addF x y) := by
  have r := (addF_spec hx.1 hy.1).2
  obtain ⟨c, fc, vc, sc⟩ := const_nat_e e (n + 1) he hn
  obtain ⟨_, x1, x2⟩ := hx
  obtain ⟨_, y1, y2⟩ := hy
  have q : ((n + 1 : Nat) : Rat) * P2 e = (n : Rat) * P2 e + P2 e := by
    rw [show ((n + 1 : Nat) : Rat) = (n : Rat) + 1 from by exact_mod_cast rfl, Rat.add_mul, Rat.one_mul]
  have := r.bound fc sc (by rw [vc, q]; grind) (by rw [vc, q]; grind)
  rw [vc] at this
  exact ⟨this.1, this.2.2.1, this.2.1⟩
/-- what is at most 2^12 times 2^e is at most 2^(e+12) -/
theorem He.bd {e n x : Nat} (h : He e n x) (hn : n ≤ 4096) : Bd (e + 12) x := by
  obtain ⟨a, b, c⟩ := h
  have p := P2_pos (e : Int)
  have q : P2 ((e + 12 : Nat) : Int) = 4096 * P2 e := by
    rw [show ((e + 12 : Nat) : Int) = 12 + (e : Int) from by omega, P2_add, show P2 12 = ((2 ^ 12 : Nat) : Rat) from P2_nat 12]
    rfl
  have hq : (n : Rat) ≤ 4096 := by exact_mod_cast hn
  have := Rat.mul_le_mul_of_nonneg_right hq (Rat.le_of_lt p)
  exact ⟨a, by rw [q]; grind, by rw [q]; grind⟩
end Format
end Ieee

namespace Ieee
namespace Format
open Go

/-- finite, and at most c in magnitude -/
def Wi (c : Rat) (x : Nat) : Prop := single.fin x ∧ -c ≤ single.V x ∧ single.V x ≤ c
/-- how far a rounded number lies from the number -/
theorem Rounds.err {x : Rat} {s : Bool} {w c : Nat} {e : Int} (h : single.Rounds x s w) (fc : single.fin c) (hc : single.sgn c = false) (h1 : x ≤ single.V c) (h2 : -single.V c ≤ x)
    (hr : ∀ r, r < single.rung c → single.rplace r ≤ e) : single.fin w ∧ 2 * single.V w ≤ 2 * x + P2 e ∧ 2 * x ≤ 2 * single.V w + P2 e := by
  obtain ⟨fw, _, _, hle, _⟩ := h.bound fc hc h1 h2
  refine ⟨fw, ?_⟩
  obtain ⟨r, rfl, hn⟩ := h
  have hlt : r < single.infRung := (single.fin_word_iff s r).1 fw
  rw [single.V_word hlt]
  rw [single.rung_word s (single.min_lt_sw r), Nat.min_eq_left (Nat.le_of_lt hlt)] at hle
  have hv : sg s * x ≤ single.rv (single.rung c) := by
    rw [← V_pos_word hc]
    cases s <;> simp [sg] <;> grind
  have key : 2 * single.rv r ≤ 2 * (sg s * x) + P2 e ∧ 2 * (sg s * x) ≤ 2 * single.rv r + P2 e := by
    rcases Nat.lt_or_ge r (single.rung c) with hlt2 | hge
    · obtain ⟨a, b⟩ := hn.off
      have := P2_mono (hr r hlt2)
      grind
    · obtain rfl : r = single.rung c := by omega
      have hp := P2_pos e
      refine ⟨?_, by grind⟩
      rcases hn.2.1 with h0 | h0
      · rw [h0, single.rv_zero]
        have := hn.2.2
        grind
      · rcases Nat.eq_zero_or_pos (single.rung c) with hz | hz
        · rw [hz, single.rv_zero]
          have := hn.2.2
          grind
        · have h3 : single.rv (single.rung c - 1) + single.rv (single.rung c) ≤ 2 * (sg s * x) := by
            split at h0
            · exact h0
            · exact Rat.le_of_lt h0
          have h4 := single.rv_succ (single.rung c - 1)
          rw [show single.rung c - 1 + 1 = single.rung c from by omega] at h4
          have := P2_mono (hr (single.rung c - 1) (by omega))
          grind
  cases s <;> simp [sg] at key ⊢ <;> grind
theorem place_le {r R : Nat} {e : Int} (he : single.rplace R = e) : ∀ q, q < r → r ≤ R + 1 → single.rplace q ≤ e := fun q hq hr => by
  rw [← he]; exact single.rplace_mono (by omega)
theorem const_4 : single.fin 1082130432 ∧ single.V 1082130432 = 4 ∧ single.sgn 1082130432 = false := by
  have := V_const false 128 8388608 (.inr (by decide)) (by decide) (by decide)
  rw [show single.word false (128 * 8388608 + 8388608) = 1082130432 from by decide] at this
  refine ⟨this.1, ?_, this.2.2⟩
  rw [this.2.1, show ((128 : Nat) : Int) - 149 = -21 from rfl, show ((8388608 : Nat) : Rat) = P2 23 from (P2_nat 23).symm, ← P2_add]
  simp [sg]
  exact P2_nat 2
theorem const_8 : single.fin 1090519040 ∧ single.V 1090519040 = 8 ∧ single.sgn 1090519040 = false := by
  have := V_const false 129 8388608 (.inr (by decide)) (by decide) (by decide)
  rw [show single.word false (129 * 8388608 + 8388608) = 1090519040 from by decide] at this
  refine ⟨this.1, ?_, this.2.2⟩
  rw [this.2.1, show ((129 : Nat) : Int) - 149 = -20 from rfl, show ((8388608 : Nat) : Rat) = P2 23 from (P2_nat 23).symm, ← P2_add]
  simp [sg]
  exact P2_nat 3
/-- numbers of at most M are rounded by at most d, and stay at most M -/
def Near1 (M d : Rat) : Prop := ∀ (x : Rat) (s : Bool) (w : Nat), single.Rounds x s w → x ≤ M → -M ≤ x → single.fin w ∧ single.V w ≤ x + d ∧ x ≤ single.V w + d ∧ single.V w ≤ M ∧ -M ≤ single.V w
theorem near_of {c : Nat} {M : Rat} (e d : Int) (R : Nat) (hd : d = e - 1) (hc : single.fin c ∧ single.V c = M ∧ single.sgn c = false) (hR : c % 2147483648 = R + 1) (he : single.rplace R = e) : Near1 M (P2 d) := by
  subst hd
  intro x s w h h1 h2
  obtain ⟨fc, vc, sc⟩ := hc
  rw [← vc] at h1 h2
  have h3 := h.err fc sc h1 h2 (fun r hr => place_le he r (by rw [rung_lit, hR] at hr; exact hr) (Nat.le_refl _))
  have h4 := h.bound fc sc h1 h2
  rw [vc] at h4
  have h5 := P2_double e
  exact ⟨h3.1, by grind, by grind, h4.2.1, h4.2.2.1⟩
theorem place_at (l k : Nat) (h : k < 8388608) : single.rplace ((l + 1) * 8388608 + k) = -149 + (l : Int) := by
  unfold rplace
  have e1 : single.binade = 8388608 := by decide
  have e2 : single.leastPlace = -149 := by decide
  rw [e1, e2, if_neg (by omega), show ((l + 1) * 8388608 + k) / 8388608 = l + 1 from by omega]
  simp
theorem place_2 : single.rplace 1073741823 = -23 := by
  rw [show (1073741823 : Nat) = (126 + 1) * 8388608 + 8388607 from by omega, place_at _ _ (by omega)]; rfl
theorem place_4 : single.rplace 1082130431 = -22 := by
  rw [show (1082130431 : Nat) = (127 + 1) * 8388608 + 8388607 from by omega, place_at _ _ (by omega)]; rfl
theorem place_8 : single.rplace 1090519039 = -21 := by
  rw [show (1090519039 : Nat) = (128 + 1) * 8388608 + 8388607 from by omega, place_at _ _ (by omega)]; rfl
theorem near_2 : Near1 2 (P2 (-24)) := near_of (-23) (-24) 1073741823 (by omega) const_2 (by omega) place_2
theorem near_4 : Near1 4 (P2 (-23)) := near_of (-22) (-23) 1082130431 (by omega) const_4 (by omega) place_4
theorem near_8 : Near1 8 (P2 (-22)) := near_of (-21) (-22) 1090519039 (by omega) const_8 (by omega) place_8
theorem mix_lin {c dM U A B D P : Rat} (u0 : 0 ≤ U) (u1 : U ≤ 1) (hd : 0 ≤ dM) (a1 : -c ≤ A) (a2 : A ≤ c) (b1 : -c ≤ B) (b2 : B ≤ c) (D1 : D ≤ B - A + dM) (D2 : B - A ≤ D + dM) (P1 : P ≤ D * U + dM) (P2 : D * U ≤ P + dM) :
    A + P ≤ c + 2 * dM ∧ -(c + 2 * dM) ≤ A + P := by
  have e0 : 0 ≤ 1 - U := by grind
  have q1 := Rat.mul_le_mul_of_nonneg_right a2 e0
  have q2 := Rat.mul_le_mul_of_nonneg_right a1 e0
  have q3 := Rat.mul_le_mul_of_nonneg_right b2 u0
  have q4 := Rat.mul_le_mul_of_nonneg_right b1 u0
  have q5 := Rat.mul_le_mul_of_nonneg_right D1 u0
  have q6 := Rat.mul_le_mul_of_nonneg_right D2 u0
  have q7 := Rat.mul_le_mul_of_nonneg_left u1 hd
  constructor <;> grind
/-- between two numbers -/
theorem mix_wi {c M N dM dN : Rat} {a b u : Nat} (KM : Near1 M dM) (KN : Near1 N dN) (ha : Wi c a) (hb : Wi c b) (hu : single.fin u) (u0 : 0 ≤ single.V u) (u1 : single.V u ≤ 1) (hM : 2 * c ≤ M) (hN : c + 2 * dM ≤ N) (hd : 0 ≤ dM) (hM0 : 0 ≤ M) :
    single.fin (subF b a) ∧ single.fin (mulF (subF b a) u) ∧ Wi (c + 2 * dM + dN) (mixF a b u) := by
  obtain ⟨fa, a1, a2⟩ := ha
  obtain ⟨fb, b1, b2⟩ := hb
  obtain ⟨fD, D1, D2, D3, D4⟩ := KM _ _ _ (subF_spec fb fa).2 (by grind) (by grind)
  have m1 := Rat.mul_le_mul_of_nonneg_right D3 u0
  have m2 := Rat.mul_le_mul_of_nonneg_right D4 u0
  have m3 := Rat.mul_le_mul_of_nonneg_left u1 hM0
  obtain ⟨fP, P1, P2, _, _⟩ := KM _ _ _ (mulF_spec fD hu).2 (by grind) (by grind)
  obtain ⟨s1, s2⟩ := mix_lin u0 u1 hd a1 a2 b1 b2 D1 D2 P1 P2
  obtain ⟨fS, S1, S2, _, _⟩ := KN _ _ _ (addF_spec fa fP).2 (by grind) (by grind)
  exact ⟨fD, fP, fS, by unfold mixF; grind, by unfold mixF; grind⟩
/-- the noise of values: three steps between numbers of at most 1 -/
theorem value_wi {a b c d u v : Nat} (ha : Wi 1 a) (hb : Wi 1 b) (hc : Wi 1 c) (hd : Wi 1 d) (hu : single.fin u) (u0 : 0 ≤ single.V u) (u1 : single.V u ≤ 1) (hv : single.fin v) (v0 : 0 ≤ single.V v) (v1 : single.V v ≤ 1) :
    Wi (1 + 8 * P2 (-24)) (mixF (mixF a b u) (mixF c d u) v) := by
  have p := P2_pos (-24)
  have q : P2 (-23) = 2 * P2 (-24) := P2_double (-23)
  have r : 16777216 * P2 (-24) = 1 := by
    have := P2_add 24 (-24)
    rw [show P2 24 = ((2 ^ 24 : Nat) : Rat) from P2_nat 24] at this
    rw [show (24 : Int) + -24 = 0 from rfl, P2_zero] at this
    rw [this]; rfl
  have h1 := (mix_wi near_2 near_2 ha hb hu u0 u1 (by grind) (by grind) (by grind) (by grind)).2.2
  have h2 := (mix_wi near_2 near_2 hc hd hu u0 u1 (by grind) (by grind) (by grind) (by grind)).2.2
  have h3 := (mix_wi near_4 near_2 h1 h2 hv v0 v1 (by grind) (by grind) (by grind) (by grind)).2.2
  obtain ⟨f, x, y⟩ := h3
  exact ⟨f, by grind, by grind⟩
/-- the noise of directions -/
theorem grad_wi {a b c d u v : Nat} (ha : Wi 2 a) (hb : Wi 2 b) (hc : Wi 2 c) (hd : Wi 2 d) (hu : single.fin u) (u0 : 0 ≤ single.V u) (u1 : single.V u ≤ 1) (hv : single.fin v) (v0 : 0 ≤ single.V v) (v1 : single.V v ≤ 1) :
    Wi (2 + 16 * P2 (-24)) (mixF (mixF a b u) (mixF c d u) v) := by
  have p := P2_pos (-24)
  have q : P2 (-23) = 2 * P2 (-24) := P2_double (-23)
  have q2 : P2 (-22) = 2 * P2 (-23) := P2_double (-22)
  have r : 16777216 * P2 (-24) = 1 := by
    have := P2_add 24 (-24)
    rw [show P2 24 = ((2 ^ 24 : Nat) : Rat) from P2_nat 24] at this
    rw [show (24 : Int) + -24 = 0 from rfl, P2_zero] at this
    rw [this]; rfl
  have h1 := (mix_wi near_4 near_4 ha hb hu u0 u1 (by grind) (by grind) (by grind) (by grind)).2.2
  have h2 := (mix_wi near_4 near_4 hc hd hu u0 u1 (by grind) (by grind) (by grind) (by grind)).2.2
  have h3 := (mix_wi near_8 near_4 h1 h2 hv v0 v1 (by grind) (by grind) (by grind) (by grind)).2.2
  obtain ⟨f, x, y⟩ := h3
  exact ⟨f, by grind, by grind⟩
end Format
end Ieee
