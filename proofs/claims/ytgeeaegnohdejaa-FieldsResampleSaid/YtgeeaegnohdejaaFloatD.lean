import Derived.Test.YtgeeaegnohdejaaFloatC
namespace Ieee
namespace Format
open Go

theorem P2_one : P2 1 = 2 := by
  have := P2_succ 0
  rw [P2_zero] at this
  simpa using this

theorem rv_inf : single.rv single.infRung = P2 128 := by
  have := single.rv_at 254 8388608 (.inr (by decide)) (by decide)
  rw [show 254 * single.binade + 8388608 = single.infRung from by decide] at this
  rw [this, single_least, show (128 : Int) = (-149 + ((254 : Nat) : Int)) + 23 from by decide, P2_add _ 23, show P2 23 = ((2 ^ 23 : Nat) : Rat) from P2_nat 23]
  rw [Rat.mul_comm]

/-- a number that the format has comes out as it is -/
theorem Rounds.exact {x : Rat} {s : Bool} {w : Nat} (h : single.Rounds x s w) (z p : Int) (hz : z < 16777216) (hz' : -16777216 < z) (hp : -149 ≤ p) (hp' : p ≤ 104) (hx : x = (z : Rat) * P2 p) :
    single.fin w ∧ single.V w = x ∧ single.sgn w = s := by
  obtain ⟨r, rfl, hr⟩ := h
  have h0 := hr.2.2
  have hpp := P2_pos p
  have e : sg s * x = ((z.natAbs : Nat) : Rat) * P2 p := by
    by_cases c : z < 0
    · have e : ((z.natAbs : Nat) : Rat) = -((z : Int) : Rat) := by
        rw [← Rat.intCast_natCast, show (z.natAbs : Int) = -z from by omega, Rat.intCast_neg]
      have zn : (z : Rat) < 0 := Rat.intCast_neg_iff.2 c
      have xn : x < 0 := by rw [hx, Rat.mul_comm, Rat.mul_neg_iff_of_pos_left hpp]; exact zn
      rw [e]
      cases s
      · simp [sg] at h0 ⊢; grind
      · simp [sg] at h0 ⊢; grind
    · have e : ((z.natAbs : Nat) : Rat) = ((z : Int) : Rat) := by
        rw [← Rat.intCast_natCast, show (z.natAbs : Int) = z from by omega]
      have zn : (0 : Rat) ≤ (z : Rat) := Rat.intCast_nonneg.2 (by omega)
      have xn : 0 ≤ x := by rw [hx]; exact Rat.mul_nonneg zn (Rat.le_of_lt hpp)
      rw [e]
      cases s
      · simp [sg] at h0 ⊢; grind
      · simp [sg] at h0 ⊢; grind
  obtain ⟨b, hb⟩ := single.rep' (m := z.natAbs) (p := p) (by rw [single_binade]; omega) (by rw [single_least]; omega)
  rw [e, ← hb] at hr
  obtain rfl := hr.eq_of
  have lt : r < single.infRung := by
    refine single.rv_lt_iff.1 ?_
    rw [rv_inf, hb]
    have h1 : ((z.natAbs : Nat) : Rat) < ((2 ^ 24 : Nat) : Rat) := by exact_mod_cast (show z.natAbs < 2 ^ 24 by omega)
    have h2 := Rat.mul_lt_mul_of_pos_right h1 hpp
    have h3 : ((2 ^ 24 : Nat) : Rat) * P2 p = P2 (p + 24) := by rw [P2_add, Rat.mul_comm]; rw [show P2 24 = ((2 ^ 24 : Nat) : Rat) from P2_nat 24]
    have h4 := P2_mono (show p + 24 ≤ 128 by omega)
    grind
  refine ⟨(single.fin_word_iff s r).2 lt, ?_, single.sgn_word s (single.min_lt_sw r)⟩
  rw [single.V_word lt, hb, ← e, ← Rat.mul_assoc, sg_sq, Rat.one_mul]

/-- a constant: 'k' at place 'l - 149' -/
theorem V_const (s : Bool) (l k : Nat) (h : l = 0 ∨ 8388608 ≤ k) (h2 : k ≤ 16777216) (h3 : l * 8388608 + k < single.infRung) :
    single.fin (single.word s (l * 8388608 + k)) ∧ single.V (single.word s (l * 8388608 + k)) = sg s * ((k : Rat) * P2 ((l : Int) - 149)) ∧ single.sgn (single.word s (l * 8388608 + k)) = s := by
  have hs : l * 8388608 + k < single.signWeight := Nat.lt_trans h3 single.infRung_lt
  refine ⟨?_, ?_, single.sgn_word s hs⟩
  · unfold fin; rw [single.rung_word s hs]; exact h3
  · unfold V
    rw [single.sgn_word s hs, single.rung_word s hs]
    have := single.rv_at l k (by rw [single_binade]; exact h) (by rw [single_binade]; omega)
    rw [single_binade, single_least] at this
    rw [this]
    congr 3

/-- 'float32(n)' of a small integer -/
theorem conv_exact (n : Int) (h : n < 16777216) (h' : -16777216 < n) : single.fin (floatOfInt .f32 n) ∧ single.V (floatOfInt .f32 n) = (n : Rat) ∧ single.sgn (floatOfInt .f32 n) = decide (n < 0) := by
  have e : sg (decide (n < 0)) * ((n.natAbs : Nat) : Rat) * P2 0 = (n : Rat) := by
    rw [P2_zero, Rat.mul_one]
    by_cases c : n < 0
    · have e : ((n.natAbs : Nat) : Rat) = -((n : Int) : Rat) := by
        rw [← Rat.intCast_natCast, show (n.natAbs : Int) = -n from by omega, Rat.intCast_neg]
      rw [e]; simp [c, sg]; grind
    · have e : ((n.natAbs : Nat) : Rat) = ((n : Int) : Rat) := by
        rw [← Rat.intCast_natCast, show (n.natAbs : Int) = n from by omega]
      rw [e]; simp [c, sg]
  have r : single.Rounds (n : Rat) (decide (n < 0)) (floatOfInt .f32 n) := single.write_rounds single_fb (decide (n < 0)) n.natAbs 0 (by rw [← e]; grind)
  exact r.exact n 0 h h' (by decide) (by decide) (by rw [P2_zero, Rat.mul_one])


/-! ### the operations as functions -/
def addF (x y : Nat) : Nat := (single.add x y).getD 0
def subF (x y : Nat) : Nat := (single.sub x y).getD 0
def mulF (x y : Nat) : Nat := (single.mul x y).getD 0

theorem addF_spec {x y : Nat} (hx : single.fin x) (hy : single.fin y) : single.add x y = some (addF x y) ∧ single.Rounds (single.V x + single.V y) (sumSign (single.sgn x) (single.sgn y) (single.V x + single.V y)) (addF x y) := by
  obtain ⟨w, h1, h2⟩ := single.add_rounds single_fb hx hy
  have : addF x y = w := by unfold addF; rw [h1]; rfl
  rw [this]; exact ⟨h1, h2⟩
theorem subF_spec {x y : Nat} (hx : single.fin x) (hy : single.fin y) : single.sub x y = some (subF x y) ∧ single.Rounds (single.V x - single.V y) (sumSign (single.sgn x) (!single.sgn y) (single.V x - single.V y)) (subF x y) := by
  obtain ⟨w, h1, h2⟩ := single.sub_rounds single_fb hx hy
  have : subF x y = w := by unfold subF; rw [h1]; rfl
  rw [this]; exact ⟨h1, h2⟩
theorem mulF_spec {x y : Nat} (hx : single.fin x) (hy : single.fin y) : single.mul x y = some (mulF x y) ∧ single.Rounds (single.V x * single.V y) (single.sgn x ^^ single.sgn y) (mulF x y) := by
  obtain ⟨w, h1, h2⟩ := single.mul_rounds single_fb hx hy
  have : mulF x y = w := by unfold mulF; rw [h1]; rfl
  rw [this]; exact ⟨h1, h2⟩

/-- what the walk asks of an operation on singles -/
theorem bits_add {x y : Nat} (hx : single.fin x) (hy : single.fin y) : floatBits .add .f32 x y = some (addF x y) := (addF_spec hx hy).1
theorem bits_sub {x y : Nat} (hx : single.fin x) (hy : single.fin y) : floatBits .sub .f32 x y = some (subF x y) := (subF_spec hx hy).1
theorem bits_mul {x y : Nat} (hx : single.fin x) (hy : single.fin y) : floatBits .mul .f32 x y = some (mulF x y) := (mulF_spec hx hy).1

/-- the double road -/
theorem road_add {x y : Nat} (hx : single.fin x) (hy : single.fin y) (fw : single.fin (addF x y)) :
    ∃ X Y Z, floatToFloatBits .f32 x .f64 = some X ∧ floatToFloatBits .f32 y .f64 = some Y ∧ floatBits .add .f64 X Y = some Z ∧ floatToFloatBits .f64 Z .f32 = some (addF x y) :=
  ref_add hx hy (addF_spec hx hy).1 fw
theorem road_sub {x y : Nat} (hx : single.fin x) (hy : single.fin y) (fw : single.fin (subF x y)) :
    ∃ X Y Z, floatToFloatBits .f32 x .f64 = some X ∧ floatToFloatBits .f32 y .f64 = some Y ∧ floatBits .sub .f64 X Y = some Z ∧ floatToFloatBits .f64 Z .f32 = some (subF x y) :=
  ref_sub hx hy (subF_spec hx hy).1 fw
theorem road_mul {x y : Nat} (hx : single.fin x) (hy : single.fin y) (fw : single.fin (mulF x y)) :
    ∃ X Y Z, floatToFloatBits .f32 x .f64 = some X ∧ floatToFloatBits .f32 y .f64 = some Y ∧ floatBits .mul .f64 X Y = some Z ∧ floatToFloatBits .f64 Z .f32 = some (mulF x y) :=
  ref_mul hx hy (mulF_spec hx hy).1 fw

theorem const_0 : single.fin 0 ∧ single.V 0 = 0 ∧ single.sgn 0 = false := by
  have := V_const false 0 0 (.inl rfl) (by decide) (by decide)
  rw [show single.word false (0 * 8388608 + 0) = 0 from by decide] at this
  refine ⟨this.1, ?_, this.2.2⟩
  rw [this.2.1]; simp
theorem const_1 : single.fin 1065353216 ∧ single.V 1065353216 = 1 ∧ single.sgn 1065353216 = false := by
  have := V_const false 126 8388608 (.inr (by decide)) (by decide) (by decide)
  rw [show single.word false (126 * 8388608 + 8388608) = 1065353216 from by decide] at this
  refine ⟨this.1, ?_, this.2.2⟩
  rw [this.2.1, show ((126 : Nat) : Int) - 149 = -23 from rfl, show ((8388608 : Nat) : Rat) = P2 23 from (P2_nat 23).symm, ← P2_add]
  simp [sg, P2_zero]
theorem const_n1 : single.fin 3212836864 ∧ single.V 3212836864 = -1 ∧ single.sgn 3212836864 = true := by
  have := V_const true 126 8388608 (.inr (by decide)) (by decide) (by decide)
  rw [show single.word true (126 * 8388608 + 8388608) = 3212836864 from by decide] at this
  refine ⟨this.1, ?_, this.2.2⟩
  rw [this.2.1, show ((126 : Nat) : Int) - 149 = -23 from rfl, show ((8388608 : Nat) : Rat) = P2 23 from (P2_nat 23).symm, ← P2_add]
  simp [sg, P2_zero]
theorem const_2 : single.fin 1073741824 ∧ single.V 1073741824 = 2 ∧ single.sgn 1073741824 = false := by
  have := V_const false 127 8388608 (.inr (by decide)) (by decide) (by decide)
  rw [show single.word false (127 * 8388608 + 8388608) = 1073741824 from by decide] at this
  refine ⟨this.1, ?_, this.2.2⟩
  rw [this.2.1, show ((127 : Nat) : Int) - 149 = -22 from rfl, show ((8388608 : Nat) : Rat) = P2 23 from (P2_nat 23).symm, ← P2_add]
  simp [sg]
  exact P2_one
theorem const_m24 : single.fin 864026624 ∧ single.V 864026624 = P2 (-24) ∧ single.sgn 864026624 = false := by
  have := V_const false 102 8388608 (.inr (by decide)) (by decide) (by decide)
  rw [show single.word false (102 * 8388608 + 8388608) = 864026624 from by decide] at this
  refine ⟨this.1, ?_, this.2.2⟩
  rw [this.2.1, show ((102 : Nat) : Int) - 149 = -47 from rfl, show ((8388608 : Nat) : Rat) = P2 23 from (P2_nat 23).symm, ← P2_add]
  simp [sg]

/-! ### units -/
def unitF (h : Int) : Nat := mulF (floatOfInt .f32 (h / 256)) 864026624
def signedF (h : Int) : Nat := subF (mulF (unitF h) 1073741824) 1065353216

theorem unit_ok (h : Int) (h0 : 0 ≤ h) (h1 : h < 4294967296) : single.fin (floatOfInt .f32 (h / 256)) ∧ single.fin (unitF h) ∧ single.V (unitF h) = ((h / 256 : Int) : Rat) * P2 (-24) ∧ single.sgn (unitF h) = false := by
  obtain ⟨c1, c2, c3⟩ := conv_exact (h / 256) (by omega) (by omega)
  obtain ⟨d1, d2, d3⟩ := const_m24
  have r := (mulF_spec c1 d1).2
  rw [c2, c3, d2, d3, show decide (h / 256 < 0) = false from by simp; omega] at r
  exact ⟨c1, r.exact (h / 256) (-24) (by omega) (by omega) (by decide) (by decide) rfl⟩

theorem signed_ok (h : Int) (h0 : 0 ≤ h) (h1 : h < 4294967296) : single.fin (mulF (unitF h) 1073741824) ∧ single.fin (signedF h) ∧ single.V (signedF h) = ((h / 256 : Int) : Rat) * P2 (-23) - 1 := by
  obtain ⟨_, c1, c2, c3⟩ := unit_ok h h0 h1
  obtain ⟨d1, d2, d3⟩ := const_2
  obtain ⟨g1, g2, g3⟩ := const_1
  have r := (mulF_spec c1 d1).2
  have e := P2_succ (-24)
  rw [show (-24 + 1 : Int) = -23 from by decide] at e
  obtain ⟨k1, k2, k3⟩ := r.exact (h / 256) (-23) (by omega) (by omega) (by decide) (by decide) (by rw [c2, d2, e]; grind)
  have r2 := (subF_spec k1 g1).2
  have e1 : (1 : Rat) = ((8388608 : Nat) : Rat) * P2 (-23) := by
    rw [show ((8388608 : Nat) : Rat) = P2 23 from (P2_nat 23).symm, ← P2_add]; exact P2_zero.symm
  have v : single.V (mulF (unitF h) 1073741824) - single.V 1065353216 = ((h / 256 - 8388608 : Int) : Rat) * P2 (-23) := by
    rw [k2, g2, c2, d2, Rat.intCast_sub]
    have : ((8388608 : Int) : Rat) = ((8388608 : Nat) : Rat) := rfl
    rw [this]; grind
  obtain ⟨m1, m2, m3⟩ := r2.exact (h / 256 - 8388608) (-23) (by omega) (by omega) (by decide) (by decide) v
  refine ⟨k1, m1, ?_⟩
  unfold signedF
  rw [m2, k2, g2, c2, d2, e]; grind

theorem unit_bounds (h : Int) (h0 : 0 ≤ h) (h1 : h < 4294967296) : 0 ≤ single.V (unitF h) ∧ single.V (unitF h) < 1 ∧ -1 ≤ single.V (signedF h) ∧ single.V (signedF h) < 1 := by
  obtain ⟨_, _, c, _⟩ := unit_ok h h0 h1
  obtain ⟨_, _, d⟩ := signed_ok h h0 h1
  rw [c, d]
  have a0 : (0 : Rat) ≤ ((h / 256 : Int) : Rat) := Rat.intCast_nonneg.2 (by omega)
  have a1 : ((h / 256 : Int) : Rat) < ((2 ^ 24 : Nat) : Rat) := by
    rw [← Rat.intCast_natCast]; exact Rat.intCast_lt_intCast.2 (by omega)
  have p := P2_pos (-24)
  have e : ((2 ^ 24 : Nat) : Rat) * P2 (-24) = 1 := by rw [← P2_nat 24, ← P2_add]; exact P2_zero
  have e2 := P2_succ (-24)
  rw [show (-24 + 1 : Int) = -23 from by decide] at e2
  have m := Rat.mul_lt_mul_of_pos_right a1 p
  have n := Rat.mul_nonneg a0 (Rat.le_of_lt p)
  rw [e2]
  refine ⟨by grind, by grind, by grind, by grind⟩

end Format
end Ieee
