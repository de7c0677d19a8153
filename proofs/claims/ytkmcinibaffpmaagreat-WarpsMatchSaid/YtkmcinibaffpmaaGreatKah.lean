namespace Kah
def ab (x : Rat) : Rat := if 0 ≤ x then x else -x
theorem ab_le {x b : Rat} (h1 : -b ≤ x) (h2 : x ≤ b) : ab x ≤ b := by unfold ab; split <;> grind
theorem le_ab (x : Rat) : x ≤ ab x ∧ -ab x ≤ x ∧ 0 ≤ ab x := by unfold ab; split <;> grind
/-- one step of a sum whose losses are kept -/
theorem kept_step {u A X a b aa bb q k E c S x s t y d c' e1 e2 e3 e4 : Rat} (u0 : 0 ≤ u) (u1 : u ≤ 1 / 1048576) (A0 : 0 ≤ A) (X0 : 0 ≤ X) (hx1 : -X ≤ x) (hx2 : x ≤ X)
    (ha : a = u * A) (hb : b = u * X) (haa : aa = u * a) (hbb : bb = u * b) (hq : q = k * aa) (k0 : 0 ≤ k) (k1 : k ≤ 256)
    (S1 : -A ≤ S) (S2 : S ≤ A) (E1 : -(2 * a + 20 * q) ≤ E) (E2 : E ≤ 2 * a + 20 * q) (c1 : -(3 * a) ≤ c) (c2 : c ≤ 3 * a) (hE : s = E + c + S)
    (ht : t = x - c + e1) (h1 : ∀ m, -m ≤ x - c → x - c ≤ m → -(u * m) ≤ e1 ∧ e1 ≤ u * m)
    (hy : y = s + t + e2) (h2 : ∀ m, -m ≤ s + t → s + t ≤ m → -(u * m) ≤ e2 ∧ e2 ≤ u * m)
    (hd : d = y - s + e3) (h3 : ∀ m, -m ≤ y - s → y - s ≤ m → -(u * m) ≤ e3 ∧ e3 ≤ u * m)
    (hc : c' = d - t + e4) (h4 : ∀ m, -m ≤ d - t → d - t ≤ m → -(u * m) ≤ e4 ∧ e4 ≤ u * m) :
    ∃ E', y = E' + c' + (S + x) ∧ -(2 * (a + b) + 20 * (q + aa + k * bb + bb)) ≤ E' ∧ E' ≤ 2 * (a + b) + 20 * (q + aa + k * bb + bb) ∧ -(3 * (a + b)) ≤ c' ∧ c' ≤ 3 * (a + b) := by
  have a0 : 0 ≤ a := by rw [ha]; exact Rat.mul_nonneg u0 A0
  have b0 : 0 ≤ b := by rw [hb]; exact Rat.mul_nonneg u0 X0
  have aa0 : 0 ≤ aa := by rw [haa]; exact Rat.mul_nonneg u0 a0
  have bb0 : 0 ≤ bb := by rw [hbb]; exact Rat.mul_nonneg u0 b0
  have q0 : 0 ≤ q := by rw [hq]; exact Rat.mul_nonneg k0 aa0
  have kb0 : 0 ≤ k * bb := Rat.mul_nonneg k0 bb0
  have q1 : q ≤ 256 * aa := by rw [hq]; exact Rat.mul_le_mul_of_nonneg_right k1 aa0
  have aa1 : 1048576 * aa ≤ a := by
    have := Rat.mul_le_mul_of_nonneg_right u1 a0
    grind
  have bb1 : 1048576 * bb ≤ b := by
    have := Rat.mul_le_mul_of_nonneg_right u1 b0
    grind
  have ga : 1048576 * a ≤ A := by
    have := Rat.mul_le_mul_of_nonneg_right u1 A0
    grind
  have gb : 1048576 * b ≤ X := by
    have := Rat.mul_le_mul_of_nonneg_right u1 X0
    grind
  have f1 := h1 (X + 3 * a) (by grind) (by grind)
  have f1 : -(b + 3 * aa) ≤ e1 ∧ e1 ≤ b + 3 * aa := by grind
  have f2 := h2 (A + X + 3 * a + 2 * b) (by grind) (by grind)
  have f2 : -(a + b + 3 * aa + 2 * bb) ≤ e2 ∧ e2 ≤ a + b + 3 * aa + 2 * bb := by grind
  have f3 := h3 (X + 5 * a + 3 * b) (by grind) (by grind)
  have f3 : -(b + 5 * aa + 3 * bb) ≤ e3 ∧ e3 ≤ b + 5 * aa + 3 * bb := by grind
  have f4 := h4 (2 * a + 3 * b) (by grind) (by grind)
  have f4 : -(2 * aa + 3 * bb) ≤ e4 ∧ e4 ≤ 2 * aa + 3 * bb := by grind
  exact ⟨E + e1 - e3 - e4, by grind, by grind, by grind, by grind, by grind⟩
/-- the sum of two sums -/
theorem pair_step {u v A B S T s t y e k : Rat} (v0 : 0 ≤ v) (hv : v ≤ 1 / 1048576) (hu : 16 * u ≤ 17 * v) (A0 : 0 ≤ A) (B0 : 0 ≤ B) (k1 : k ≤ 256)
    (S1 : -A ≤ S) (S2 : S ≤ A) (T1 : -B ≤ T) (T2 : T ≤ B)
    (s1 : -(k * (2 * (v * A))) ≤ s - S) (s2 : s - S ≤ k * (2 * (v * A))) (t1 : -(k * (2 * (v * B))) ≤ t - T) (t2 : t - T ≤ k * (2 * (v * B)))
    (hy : y = s + t + e) (h : ∀ m, -m ≤ s + t → s + t ≤ m → -(u * m) ≤ e ∧ e ≤ u * m) :
    -((k + 1) * (2 * (v * (A + B)))) ≤ y - (S + T) ∧ y - (S + T) ≤ (k + 1) * (2 * (v * (A + B))) := by
  have a0 := Rat.mul_nonneg v0 A0
  have b0 := Rat.mul_nonneg v0 B0
  have ka := Rat.mul_le_mul_of_nonneg_right k1 a0
  have kb := Rat.mul_le_mul_of_nonneg_right k1 b0
  have ga := Rat.mul_le_mul_of_nonneg_right hv A0
  have gb := Rat.mul_le_mul_of_nonneg_right hv B0
  have ua := Rat.mul_le_mul_of_nonneg_right hu A0
  have ub := Rat.mul_le_mul_of_nonneg_right hu B0
  have f := h (A + B + (A + B) * (1 / 1024)) (by grind) (by grind)
  constructor <;> grind
end Kah
