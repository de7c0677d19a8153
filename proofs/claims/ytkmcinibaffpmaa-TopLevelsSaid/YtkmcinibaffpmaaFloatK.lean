import Derived.Test.YtkmcinibaffpmaaM1
namespace Ieee
namespace Format
open Go

/-- the middle between a rung and the next -/
theorem mid_le {f : Format} {v : Rat} {a : Nat} : 2 * v ≤ f.rv a + f.rv (a + 1) ↔ v ≤ ((2 * f.rmag a + 1 : Nat) : Rat) * P2 (f.rplace a - 1) := by
  rw [mid_form]; constructor <;> intro h <;> grind
theorem mid_lt {f : Format} {v : Rat} {a : Nat} : 2 * v < f.rv a + f.rv (a + 1) ↔ v < ((2 * f.rmag a + 1 : Nat) : Rat) * P2 (f.rplace a - 1) := by
  rw [mid_form]; constructor <;> intro h <;> grind
theorem mid_ge {f : Format} {v : Rat} {a : Nat} : f.rv a + f.rv (a + 1) ≤ 2 * v ↔ ((2 * f.rmag a + 1 : Nat) : Rat) * P2 (f.rplace a - 1) ≤ v := by
  rw [mid_form]; constructor <;> intro h <;> grind
theorem mid_gt {f : Format} {v : Rat} {a : Nat} : f.rv a + f.rv (a + 1) < 2 * v ↔ ((2 * f.rmag a + 1 : Nat) : Rat) * P2 (f.rplace a - 1) < v := by
  rw [mid_form]; constructor <;> intro h <;> grind

/-- 'v' and 'w' lie alike to all multiples of a power of two -/
def Alike (v w : Rat) (p : Int) : Prop := ∀ z : Nat, (w ≤ (z : Rat) * P2 p → v ≤ (z : Rat) * P2 p) ∧ (w < (z : Rat) * P2 p → v < (z : Rat) * P2 p) ∧ ((z : Rat) * P2 p ≤ w → (z : Rat) * P2 p ≤ v) ∧ ((z : Rat) * P2 p < w → (z : Rat) * P2 p < v)

theorem alike_refl (v : Rat) (p : Int) : Alike v v p := fun _ => ⟨id, id, id, id⟩

theorem alike_between {v w : Rat} {q : Nat} {p : Int} (h1 : (q : Rat) * P2 p < v) (h2 : v < ((q + 1 : Nat) : Rat) * P2 p) (h3 : (q : Rat) * P2 p < w) (h4 : w < ((q + 1 : Nat) : Rat) * P2 p) : Alike v w p := by
  intro z
  have hp := P2_pos p
  by_cases hz : z ≤ q
  · have e : (z : Rat) * P2 p ≤ (q : Rat) * P2 p := Rat.mul_le_mul_of_nonneg_right (by exact_mod_cast hz) (Rat.le_of_lt hp)
    refine ⟨fun h => ?_, fun h => ?_, fun _ => ?_, fun _ => ?_⟩ <;> grind
  · have e : ((q + 1 : Nat) : Rat) * P2 p ≤ (z : Rat) * P2 p := Rat.mul_le_mul_of_nonneg_right (by exact_mod_cast (show q + 1 ≤ z by omega)) (Rat.le_of_lt hp)
    refine ⟨fun _ => ?_, fun _ => ?_, fun h => ?_, fun h => ?_⟩ <;> grind

theorem mult_up (m : Nat) {p e : Int} (h : p ≤ e) : ∃ z : Nat, (m : Rat) * P2 e = (z : Rat) * P2 p := by
  refine ⟨m * 2 ^ (e - p).toNat, ?_⟩
  have : P2 e = P2 ((e - p).toNat : Int) * P2 p := by rw [← P2_add]; congr 1; omega
  rw [this, P2_nat, Rat.natCast_mul]; grind

/-- a digit behind the last one, which tells whether something is left, does no harm -/
theorem Near.sticky {f : Format} {v w : Rat} {q r : Nat} {p : Int} (hq : 2 * f.binade ≤ q) (h1 : (q : Rat) * P2 p ≤ v) (h2 : (q : Rat) * P2 p ≤ w) (ha : Alike v w p) (h : f.Near w r) : f.Near v r := by
  have hp := P2_pos p
  have hb : ((2 * f.binade : Nat) : Rat) * P2 p ≤ (q : Rat) * P2 p := Rat.mul_le_mul_of_nonneg_right (by exact_mod_cast hq) (Rat.le_of_lt hp)
  have key : ∀ a, f.rplace a ≤ p → f.rv (a + 1) ≤ ((2 * f.binade : Nat) : Rat) * P2 p := by
    intro a hpa
    have e : f.rv (a + 1) = ((f.rmag a + 1 : Nat) : Rat) * P2 (f.rplace a) := by
      rw [f.rv_succ]; unfold rv; rw [Rat.natCast_add]; grind
    rw [e]
    have a1 := Rat.mul_le_mul_of_nonneg_right (show ((f.rmag a + 1 : Nat) : Rat) ≤ ((2 * f.binade : Nat) : Rat) from by exact_mod_cast (show f.rmag a + 1 ≤ 2 * f.binade from f.rmag_lt a)) (Rat.le_of_lt (P2_pos (f.rplace a)))
    have a2 := Rat.mul_le_mul_of_nonneg_left (P2_mono hpa) (show (0 : Rat) ≤ ((2 * f.binade : Nat) : Rat) from Rat.natCast_nonneg)
    exact Rat.le_trans a1 a2
  have hpr : p ≤ f.rplace r - 1 := by
    by_cases hc : f.rplace r ≤ p
    · exfalso
      have k := key r hc
      have u := h.up
      have l := f.rv_lt_succ r
      grind
    · omega
  obtain ⟨z, hz⟩ := mult_up (2 * f.rmag r + 1) hpr
  obtain ⟨g1, g2, g3⟩ := h
  refine ⟨?_, ?_, ?_⟩
  · split at g1
    · rename_i hr; rw [if_pos hr]
      rw [mid_le, hz] at g1 ⊢
      exact (ha z).1 g1
    · rename_i hr; rw [if_neg hr]
      rw [mid_lt, hz] at g1 ⊢
      exact (ha z).2.1 g1
  · rcases g2 with g2 | g2
    · exact .inl g2
    · by_cases hr0 : r = 0
      · exact .inl hr0
      refine .inr ?_
      obtain ⟨r', rfl⟩ : ∃ r', r = r' + 1 := ⟨r - 1, by omega⟩
      simp only [Nat.add_sub_cancel] at g2 ⊢
      by_cases hc : p ≤ f.rplace r' - 1
      · obtain ⟨z', hz'⟩ := mult_up (2 * f.rmag r' + 1) hc
        split at g2
        · rename_i hr; rw [if_pos hr]
          rw [mid_ge, hz'] at g2 ⊢
          exact (ha z').2.2.1 g2
        · rename_i hr; rw [if_neg hr]
          rw [mid_gt, hz'] at g2 ⊢
          exact (ha z').2.2.2 g2
      · have k := key r' (by omega)
        have l := f.rv_lt_succ r'
        split <;> grind
  · have : (0 : Rat) ≤ (q : Rat) * P2 p := Rat.mul_nonneg Rat.natCast_nonneg (Rat.le_of_lt hp)
    grind

theorem lt_or_eq {a b : Rat} (h : a ≤ b) : a < b ∨ a = b := by
  by_cases e : a = b
  · exact .inr e
  · exact .inl (by grind)
theorem le_or_le (a b : Rat) : a ≤ b ∨ b ≤ a := Rat.le_total

theorem quot_floor (a n : Nat) (hn : 0 < n) (p : Int) (v : Rat) (hv : v * (n : Rat) = (a : Rat) * P2 p) :
    ((a / n : Nat) : Rat) * P2 p ≤ v ∧ v < ((a / n + 1 : Nat) : Rat) * P2 p ∧ (a % n = 0 → v = ((a / n : Nat) : Rat) * P2 p) ∧ (a % n ≠ 0 → ((a / n : Nat) : Rat) * P2 p < v) := by
  have hp := P2_pos p
  have hn' : (0 : Rat) < (n : Rat) := by exact_mod_cast hn
  have e : a = n * (a / n) + a % n := (Nat.div_add_mod a n).symm
  have e' : (a : Rat) = (n : Rat) * ((a / n : Nat) : Rat) + ((a % n : Nat) : Rat) := by
    rw [← Rat.natCast_mul, ← Rat.natCast_add, ← e]
  have hm : ((a % n : Nat) : Rat) < (n : Rat) := by exact_mod_cast Nat.mod_lt a hn
  have hm0 : (0 : Rat) ≤ ((a % n : Nat) : Rat) := Rat.natCast_nonneg
  generalize hme : ((a % n : Nat) : Rat) = m at *
  have hmn : ((a / n + 1 : Nat) : Rat) = ((a / n : Nat) : Rat) + 1 := by rw [Rat.natCast_add]; rfl
  rw [hmn]
  generalize hqq : ((a / n : Nat) : Rat) = q at *
  have hmp : 0 ≤ m * P2 p := Rat.mul_nonneg hm0 (Rat.le_of_lt hp)
  have hmp2 : m * P2 p < (n : Rat) * P2 p := Rat.mul_lt_mul_of_pos_right hm hp
  rw [e'] at hv
  have le : q * P2 p ≤ v := mul_le_cancel hn' (by grind)
  refine ⟨le, ?_, ?_, ?_⟩
  · rcases le_or_le ((q + 1) * P2 p) v with h | h
    · have := Rat.mul_le_mul_of_nonneg_right h (Rat.le_of_lt hn')
      grind
    · rcases lt_or_eq h with h | h
      · exact h
      · rw [h] at hv; grind
  · intro h0
    have hm0' : m = 0 := by rw [← hme, h0]; rfl
    subst hm0'
    exact Rat.le_antisymm (mul_le_cancel hn' (by grind)) le
  · intro h0
    rcases lt_or_eq le with h | h
    · exact h
    · exfalso
      have hmp3 : 0 < m := by rw [← hme]; exact_mod_cast (show 0 < a % n by omega)
      have := Rat.mul_pos hmp3 hp
      rw [← h] at hv; grind

theorem binade_two (f : Format) : 2 * f.binade = 2 ^ (f.fractionBits + 1) := by unfold binade; rw [Nat.pow_succ]; omega

theorem div_rounds (f : Format) (hf : 1 ≤ f.fractionBits) {x y : Nat} (hx : f.fin x) (hy : f.fin y) (h0 : f.V y ≠ 0) :
    ∃ w, f.div x y = some w ∧ f.Rounds (f.V x / f.V y) (f.sgn x ^^ f.sgn y) w := by
  unfold div
  rw [f.read_fin hx, f.read_fin hy]
  have hn : f.rmag (f.rung y) ≠ 0 := by
    intro e; apply h0; unfold V rv; rw [e]; simp
  have hml := f.rmag_lt (f.rung x)
  have hvx : sg (f.sgn x ^^ f.sgn y) * (f.V x / f.V y) = ((f.rmag (f.rung x) : Rat) * P2 (f.rplace (f.rung x))) / ((f.rmag (f.rung y) : Rat) * P2 (f.rplace (f.rung y))) := by
    rw [sg_xor]
    have e1 : f.V x = sg (f.sgn x) * ((f.rmag (f.rung x) : Rat) * P2 (f.rplace (f.rung x))) := rfl
    have e2 : f.V y = sg (f.sgn y) * ((f.rmag (f.rung y) : Rat) * P2 (f.rplace (f.rung y))) := rfl
    rw [e2] at h0
    rw [e1, e2]
    generalize (f.rmag (f.rung x) : Rat) * P2 (f.rplace (f.rung x)) = A at *
    generalize (f.rmag (f.rung y) : Rat) * P2 (f.rplace (f.rung y)) = B at *
    have hB : B ≠ 0 := by intro e; apply h0; rw [e]; simp
    cases f.sgn x <;> cases f.sgn y <;> simp [sg] <;> grind
  unfold Datum.quotient
  simp only [if_neg hn, Option.map_some]
  refine ⟨_, rfl, ?_⟩
  generalize f.rmag (f.rung x) = m at *
  generalize f.rmag (f.rung y) = n at *
  generalize f.rplace (f.rung x) = i at *
  generalize f.rplace (f.rung y) = j at *
  obtain ⟨more, hmore⟩ : ∃ more, more = f.fractionBits + 2 + n.log2 - m.log2 := ⟨_, rfl⟩
  rw [← hmore]
  obtain ⟨r, e1, e2⟩ := f.write_number hf (f.sgn x ^^ f.sgn y) (2 * (m <<< more / n) + (m <<< more % n != 0).toNat) (i - j - more - 1)
  refine ⟨r, e1, ?_⟩
  rw [hvx]
  clear hvx e1 h0
  have hn' : (0 : Rat) < (n : Rat) := by exact_mod_cast (show 0 < n by omega)
  have hv : ((m : Rat) * P2 i / ((n : Rat) * P2 j)) * (n : Rat) = ((m <<< more : Nat) : Rat) * P2 (i - j - more) := by
    have hj := P2_pos j
    have hD : (n : Rat) * P2 j ≠ 0 := by have := Rat.mul_pos hn' hj; intro e; rw [e] at this; exact absurd this (by grind)
    have h1 : (m : Rat) * P2 i / ((n : Rat) * P2 j) * ((n : Rat) * P2 j) = (m : Rat) * P2 i := Rat.div_mul_cancel hD
    have h2 : ((m <<< more : Nat) : Rat) * P2 (i - j - more) * P2 j = (m : Rat) * P2 i := by
      rw [Nat.shiftLeft_eq, Rat.natCast_mul, ← P2_nat, Rat.mul_assoc, Rat.mul_assoc, ← P2_add, ← P2_add]; congr 2; omega
    generalize (m : Rat) * P2 i / ((n : Rat) * P2 j) = v at *
    have h3 : v * (n : Rat) * P2 j = ((m <<< more : Nat) : Rat) * P2 (i - j - more) * P2 j := by rw [h2, ← h1]; grind
    exact Rat.le_antisymm (mul_le_cancel hj (by rw [h3]; exact Rat.le_refl)) (mul_le_cancel hj (by rw [h3]; exact Rat.le_refl))
  generalize (m : Rat) * P2 i / ((n : Rat) * P2 j) = v at *
  obtain ⟨p, hp⟩ : ∃ p, p = i - j - more := ⟨_, rfl⟩
  rw [← hp] at hv e2
  obtain ⟨q1, q2, q3, q4⟩ := quot_floor (m <<< more) n (by omega) p v hv
  have hpp := P2_double p
  have hp0 := P2_pos (p - 1)
  by_cases hr : m <<< more % n = 0
  · rw [q3 hr]
    rw [hr] at e2
    have : ((2 * (m <<< more / n) + (0 != 0).toNat : Nat) : Rat) * P2 (p - 1) = ((m <<< more / n : Nat) : Rat) * P2 p := by
      simp only [bne_self_eq_false, Bool.toNat_false, Nat.add_zero]
      rw [Rat.natCast_mul, hpp]; grind
    rw [this] at e2
    exact e2
  · have hm0 : m ≠ 0 := by
      intro e; apply hr; subst e; simp
    have hb : (m <<< more % n != 0).toNat = 1 := by simp [hr]
    rw [hb] at e2
    have hlm : m.log2 ≤ f.fractionBits := by
      have : m.log2 < f.fractionBits + 1 := (Nat.log2_lt hm0).2 (by rw [← binade_two]; exact hml)
      omega
    have hq : 2 * f.binade ≤ m <<< more / n := by
      rw [binade_two, Nat.le_div_iff_mul_le (by omega), Nat.shiftLeft_eq]
      have g1 : n < 2 ^ (n.log2 + 1) := Nat.lt_log2_self
      have g2 : 2 ^ m.log2 ≤ m := Nat.log2_self_le hm0
      calc 2 ^ (f.fractionBits + 1) * n ≤ 2 ^ (f.fractionBits + 1) * 2 ^ (n.log2 + 1) := Nat.mul_le_mul_left _ (by omega)
        _ = 2 ^ m.log2 * 2 ^ more := by rw [← Nat.pow_add, ← Nat.pow_add]; congr 1; omega
        _ ≤ m * 2 ^ more := Nat.mul_le_mul_right _ g2
    have w1 : ((m <<< more / n : Nat) : Rat) * P2 p < ((2 * (m <<< more / n) + 1 : Nat) : Rat) * P2 (p - 1) := by
      rw [Rat.natCast_add, Rat.natCast_mul, hpp]; grind
    have w2 : ((2 * (m <<< more / n) + 1 : Nat) : Rat) * P2 (p - 1) < ((m <<< more / n + 1 : Nat) : Rat) * P2 p := by
      rw [Rat.natCast_add, Rat.natCast_mul, Rat.natCast_add, hpp]; grind
    exact Near.sticky hq q1 (Rat.le_of_lt w1) (alike_between (q4 hr) q2 w1 w2) e2
end Format
end Ieee
