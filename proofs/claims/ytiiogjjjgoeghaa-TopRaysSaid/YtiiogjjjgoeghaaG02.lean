import Derived.Test.YtiiogjjjgoeghaaG01
namespace Ieee
namespace Format
open Go

/-- the middle between a rung and the next -/
theorem mid_le {f : Format} {v : Rat} {a : Nat} : 2 * v ≤ f.rv a + f.rv (a + 1) ↔ v ≤ ((2 * f.rmag a + 1 : Nat) : Rat) * P2 (f.rplace a - 1) := by
  rw [mid_form]; constructor <;> intro h <;> grind
theorem mid_lt {f : Format} {v : Rat} {a : Nat} : 2 * v < f.rv a + f.rv (a + 1) ↔ v < ((2 * f.rmag a + 1 : Nat) : Rat) * P2 (f.rplace a - 1) := by
  rw [mid_form]; constructor <;> intro h <;> grind
theorem mid_ge {f : Format} {v : Rat} {a : Nat} : f.rv a + f.rv (a + 1) ≤ 2 * v ↔ ((2 * f.rmag a + 1 : Nat) : Rat) * P2 (f.rplace a - 1) ≤ v := by
  rw [mid_form]; constructor <;> intro h <;> grind
theorem mid_gt {f : Format} {v : Rat} {a : Nat} : f.rv a + f.rv (a + 1) < 2 * v ↔ ((2 * f.rmag a + 1 : Nat) : Rat) * P2 (f.rplace a - 1) < v := by
  rw [mid_form]; constructor <;> intro h <;> grind

/-- 'v' and 'w' lie alike to all multiples of a power of two -/
def Alike (v w : Rat) (p : Int) : Prop := ∀ z : Nat, (w ≤ (z : Rat) * P2 p → v ≤ (z : Rat) * P2 p) ∧ (w < (z : Rat) * P2 p → v < (z : Rat) * P2 p) ∧ ((z : Rat) * P2 p ≤ w → (z : Rat) * P2 p ≤ v) ∧ ((z : Rat) * P2 p < w → (z : Rat) * P2 p < v)

theorem alike_refl (v : Rat) (p : Int) : Alike v v p := fun _ => ⟨id, id, id, id⟩

theorem alike_between {v w : Rat} {q : Nat} {p : Int} (h1 : (q : Rat) * P2 p < v) (h2 : v < ((q + 1 : Nat) : Rat) * P2 p) (h3 : (q : Rat) * P2 p < w) (h4 : w < ((q + 1 : Nat) : Rat) * P2 p) : Alike v w p := by
  intro z
  have hp := P2_pos p
  by_cases hz : z ≤ q
  · have e : (z : Rat) * P2 p ≤ (q : Rat) * P2 p := Rat.mul_le_mul_of_nonneg_right (by exact_mod_cast hz) (Rat.le_of_lt hp)
    refine ⟨fun h => ?_, fun h => ?_, fun _ => ?_, fun _ => ?_⟩ <;> grind
  · have e : ((q + 1 : Nat) : Rat) * P2 p ≤ (z : Rat) * P2 p := Rat.mul_le_mul_of_nonneg_right (by exact_mod_cast (show q + 1 ≤ z by omega)) (Rat.le_of_lt hp)
    refine ⟨fun _ => ?_, fun _ => ?_, fun h => ?_, fun h => ?_⟩ <;> grind

theorem mult_up (m : Nat) {p e : Int} (h : p ≤ e) : ∃ z : Nat, (m : Rat) * P2 e = (z : Rat) * P2 p := by
  refine ⟨m * 2 ^ (e - p).toNat, ?_⟩
  have : P2 e = P2 ((e - p).toNat : Int) * P2 p := by rw [← P2_add]; congr 1; omega
  rw [this, P2_nat, Rat.natCast_mul]; grind

/-- a digit behind the last one, which tells whether something is left, does no harm -/
theorem Near.sticky {f : Format} {v w : Rat} {q r : Nat} {p : Int} (hq : 2 * f.binade ≤ q) (h1 : (q : Rat) * P2 p ≤ v) (h2 : (q : Rat) * P2 p ≤ w) (ha : Alike v w p) (h : f.Near w r) : f.Near v r := by
  have hp := P2_pos p
  have hb : ((2 * f.binade : Nat) : Rat) * P2 p ≤ (q : Rat) * P2 p := Rat.mul_le_mul_of_nonneg_right (by exact_mod_cast hq) (Rat.le_of_lt hp)
  have key : ∀ a, f.rplace a ≤ p → f.rv (a + 1) ≤ ((2 * f.binade : Nat) : Rat) * P2 p := by
    intro a hpa
    have e : f.rv (a + 1) = ((f.rmag a + 1 : Nat) : Rat) * P2 (f.rplace a) := by
      rw [f.rv_succ]; unfold rv; rw [Rat.natCast_add]; grind
    rw [e]
    have a1 := Rat.mul_le_mul_of_nonneg_right (show ((f.rmag a + 1 : Nat) : Rat) ≤ ((2 * f.binade : Nat) : Rat) from by exact_mod_cast (show f.rmag a + 1 ≤ 2 * f.binade from f.rmag_lt a)) (Rat.le_of_lt (P2_pos (f.rplace a)))
    have a2 := Rat.mul_le_mul_of_nonneg_left (P2_mono hpa) (show (0 : Rat) ≤ ((2 * f.binade : Nat) : Rat) from Rat.natCast_nonneg)
    exact Rat.le_trans a1 a2
  have hpr : p ≤ f.rplace r - 1 := by
    by_cases hc : f.rplace r ≤ p
    · exfalso
      have k := key r hc
      have u := h.up
      have l := f.rv_lt_succ r
      grind
    · omega
  obtain ⟨z, hz⟩ := mult_up (2 * f.rmag r + 1) hpr
  obtain ⟨g1, g2, g3⟩ := h
  refine ⟨?_, ?_, ?_⟩
  · split at g1
    · rename_i hr; rw [if_pos hr]
      rw [mid_le, hz] at g1 ⊢
      exact (ha z).1 g1
    · rename_i hr; rw [if_neg hr]
      rw [mid_lt, hz] at g1 ⊢
      exact (ha z).2.1 g1
  · rcases g2 with g2 | g2
    · exact .inl g2
    · by_cases hr0 : r = 0
      · exact .inl hr0
      refine .inr ?_
      obtain ⟨r', rfl⟩ : ∃ r', r = r' + 1 := ⟨r - 1, by omega⟩
      simp only [Nat.add_sub_cancel] at g2 ⊢
      by_cases hc : p ≤ f.rplace r' - 1
      · obtain ⟨z', hz'⟩ := mult_up (2 * f.rmag r' + 1) hc
        split at g2
        · rename_i hr; rw [if_pos hr]
          rw [mid_ge, hz'] at g2 ⊢
          exact (ha z').2.2.1 g2
        · rename_i hr; rw [if_neg hr]
          rw [mid_gt, hz'] at g2 ⊢
          exact (ha z').2.2.2 g2
      · have k := key r' (by omega)
        have l := f.rv_lt_succ r'
        split <;> grind
  · have : (0 : Rat) ≤ (q : Rat) * P2 p := Rat.mul_nonneg Rat.natCast_nonneg (Rat.le_of_lt hp)
    grind

theorem lt_or_eq {a b : Rat} (h : a ≤ b) : a < b ∨ a = b := by
  by_cases e : a = b
  · exact .inr e
  · exact .inl (by grind)
theorem le_or_le (a b : Rat) : a ≤ b ∨ b ≤ a := Rat.le_total

theorem quot_floor (a n : Nat) (hn : 0 < n) (p : Int) (v : Rat) (hv : v * (n : Rat) = (a : Rat) * P2 p) :
    ((a / n : Nat) : Rat) * P2 p ≤ v ∧ v < ((a / n + 1 : Nat) : Rat) * P2 p ∧ (a % n = 0 → v = ((a / n : Nat) : Rat) * P2 p) ∧ (a % n ≠ 0 → ((a / n : Nat) : Rat) * P2 p < v) := by
  have hp := P2_pos p
  have hn' : (0 : Rat) < (n : Rat) := by exact_mod_cast hn
  have e : a = n * (a / n) + a % n := (Nat.div_add_mod a n).symm
  have e' : (a : Rat) = (n : Rat) * ((a / n : Nat) : Rat) + ((a % n : Nat) : Rat) := by
    rw [← Rat.natCast_mul, ← Rat.natCast_add, ← e]
  have hm : ((a % n : Nat) : Rat) < (n : Rat) := by exact_mod_cast Nat.mod_lt a hn
  have hm0 : (0 : Rat) ≤ ((a % n : Nat) : Rat) := Rat.natCast_nonneg
  generalize hme : ((a % n : Nat) : Rat) = m at *
  have hmn : ((a / n + 1 : Nat) : Rat) = ((a / n : Nat) : Rat) + 1 := by rw [Rat.natCast_add]; rfl
  rw [hmn]
  generalize hqq : ((a / n : Nat) : Rat) = q at *
  have hmp : 0 ≤ m * P2 p := Rat.mul_nonneg hm0 (Rat.le_of_lt hp)
  have hmp2 : m * P2 p < (n : Rat) * P2 p := Rat.mul_lt_mul_of_pos_right hm hp
  rw [e'] at hv
  have le : q * P2 p ≤ v := mul_le_cancel hn' (by grind)
  refine ⟨le, ?_, ?_, ?_⟩
  · rcases le_or_le ((q + 1) * P2 p) v with h | h
    · have := Rat.mul_le_mul_of_nonneg_right h (Rat.le_of_lt hn')
      grind
    · rcases lt_or_eq h with h | h
      · exact h
      · rw [h] at hv; grind
  · intro h0
    have hm0' : m = 0 := by rw [← hme, h0]; rfl
    subst hm0'
    exact Rat.le_antisymm (mul_le_cancel hn' (by grind)) le
  · intro h0
    rcases lt_or_eq le with h | h
    · exact h
    · exfalso
      have hmp3 : 0 < m := by rw [← hme]; exact_mod_cast (show 0 < a % n by omega)
      have := Rat.mul_pos hmp3 hp
      rw [← h] at hv; grind

theorem binade_two (f : Format) : 2 * f.binade = 2 ^ (f.fractionBits + 1) := by unfold binade; rw [Nat.pow_succ]; omega

theorem div_rounds (f : Format) (hf : 1 ≤ f.fractionBits) {x y : Nat} (hx : f.fin x) (hy : f.fin y) (h0 : f.V y ≠ 0) :
    ∃ w, f.div x y = some w ∧ f.Rounds (f.V x / f.V y) (f.sgn x ^^ f.sgn y) w := by
  unfold div
  rw [f.read_fin hx, f.read_fin hy]
  have hn : f.rmag (f.rung y) ≠ 0 := by
    intro e; apply h0; unfold V rv; rw [e]; simp
  have hml := f.rmag_lt (f.rung x)
  have hvx : sg (f.sgn x ^^ f.sgn y) * (f.V x / f.V y) = ((f.rmag (f.rung x) : Rat) * P2 (f.rplace (f.rung x))) / ((f.rmag (f.rung y) : Rat) * P2 (f.rplace (f.rung y))) := by
    rw [sg_xor]
    have e1 : f.V x = sg (f.sgn x) * ((f.rmag (f.rung x) : Rat) * P2 (f.rplace (f.rung x))) := rfl
    have e2 : f.V y = sg (f.sgn y) * ((f.rmag (f.rung y) : Rat) * P2 (f.rplace (f.rung y))) := rfl
    rw [e2] at h0
    rw [e1, e2]
    generalize (f.rmag (f.rung x) : Rat) * P2 (f.rplace (f.rung x)) = A at *
    generalize (f.rmag (f.rung y) : Rat) * P2 (f.rplace (f.rung y)) = B at *
    have hB : B ≠ 0 := by intro e; apply h0; rw [e]; simp
    cases f.sgn x <;> cases f.sgn y <;> simp [sg] <;> grind
  unfold Datum.quotient
  simp only [if_neg hn, Option.map_some]
  refine ⟨_, rfl, ?_⟩
  generalize f.rmag (f.rung x) = m at *
  generalize f.rmag (f.rung y) = n at *
  generalize f.rplace (f.rung x) = i at *
  generalize f.rplace (f.rung y) = j at *
  obtain ⟨more, hmore⟩ : ∃ more, more = f.fractionBits + 2 + n.log2 - m.log2 := ⟨_, rfl⟩
  rw [← hmore]
  obtain ⟨r, e1, e2⟩ := f.write_number hf (f.sgn x ^^ f.sgn y) (2 * (m <<< more / n) + (m <<< more % n != 0).toNat) (i - j - more - 1)
  refine ⟨r, e1, ?_⟩
  rw [hvx]
  clear hvx e1 h0
  have hn' : (0 : Rat) < (n : Rat) := by exact_mod_cast (show 0 < n by omega)
  have hv : ((m : Rat) * P2 i / ((n : Rat) * P2 j)) * (n : Rat) = ((m <<< more : Nat) : Rat) * P2 (i - j - more) := by
    have hj := P2_pos j
    have hD : (n : Rat) * P2 j ≠ 0 := by have := Rat.mul_pos hn' hj; intro e; rw [e] at this; exact absurd this (by grind)
    have h1 : (m : Rat) * P2 i / ((n : Rat) * P2 j) * ((n : Rat) * P2 j) = (m : Rat) * P2 i := Rat.div_mul_cancel hD
    have h2 : ((m <<< more : Nat) : Rat) * P2 (i - j - more) * P2 j = (m : Rat) * P2 i := by
      rw [Nat.shiftLeft_eq, Rat.natCast_mul, ← P2_nat, Rat.mul_assoc, Rat.mul_assoc, ← P2_add, ← P2_add]; congr 2; omega
    generalize (m : Rat) * P2 i / ((n : Rat) * P2 j) = v at *
    have h3 : v * (n : Rat) * P2 j = ((m <<< more : Nat) : Rat) * P2 (i - j - more) * P2 j := by rw [h2, ← h1]; grind
    exact Rat.le_antisymm (mul_le_cancel hj (by rw [h3]; exact Rat.le_refl)) (mul_le_cancel hj (by rw [h3]; exact Rat.le_refl))
  generalize (m : Rat) * P2 i / ((n : Rat) * P2 j) = v at *
  obtain ⟨p, hp⟩ : ∃ p, p = i - j - more := ⟨_, rfl⟩
  rw [← hp] at hv e2
  obtain ⟨q1, q2, q3, q4⟩ := quot_floor (m <<< more) n (by omega) p v hv
  have hpp := P2_double p
  have hp0 := P2_pos (p - 1)
  by_cases hr : m <<< more % n = 0
  · rw [q3 hr]
    rw [hr] at e2
    have : ((2 * (m <<< more / n) + (0 != 0).toNat : Nat) : Rat) * P2 (p - 1) = ((m <<< more / n : Nat) : Rat) * P2 p := by
      simp only [bne_self_eq_false, Bool.toNat_false, Nat.add_zero]
      rw [Rat.natCast_mul, hpp]; grind
    rw [this] at e2
    exact e2
  · have hm0 : m ≠ 0 := by
      intro e; apply hr; subst e; simp
    have hb : (m <<< more % n != 0).toNat = 1 := by simp [hr]
    rw [hb] at e2
    have hlm : m.log2 ≤ f.fractionBits := by
      have : m.log2 < f.fractionBits + 1 := (Nat.log2_lt hm0).2 (by rw [← binade_two]; exact hml)
      omega
    have hq : 2 * f.binade ≤ m <<< more / n := by
      rw [binade_two, Nat.le_div_iff_mul_le (by omega), Nat.shiftLeft_eq]
      have g1 : n < 2 ^ (n.log2 + 1) := Nat.lt_log2_self
      have g2 : 2 ^ m.log2 ≤ m := Nat.log2_self_le hm0
      calc 2 ^ (f.fractionBits + 1) * n ≤ 2 ^ (f.fractionBits + 1) * 2 ^ (n.log2 + 1) := Nat.mul_le_mul_left _ (by omega)
        _ = 2 ^ m.log2 * 2 ^ more := by rw [← Nat.pow_add, ← Nat.pow_add]; congr 1; omega
        _ ≤ m * 2 ^ more := Nat.mul_le_mul_right _ g2
    have w1 : ((m <<< more / n : Nat) : Rat) * P2 p < ((2 * (m <<< more / n) + 1 : Nat) : Rat) * P2 (p - 1) := by
      rw [Rat.natCast_add, Rat.natCast_mul, hpp]; grind
    have w2 : ((2 * (m <<< more / n) + 1 : Nat) : Rat) * P2 (p - 1) < ((m <<< more / n + 1 : Nat) : Rat) * P2 p := by
      rw [Rat.natCast_add, Rat.natCast_mul, Rat.natCast_add, hpp]; grind
    exact Near.sticky hq q1 (Rat.le_of_lt w1) (alike_between (q4 hr) q2 w1 w2) e2
end Format
end Ieee

namespace Ieee
namespace Format
open Go

def divF (x y : Nat) : Nat := (single.div x y).getD 0
theorem divF_lt (x y : Nat) : divF x y < 4294967296 := some_lt fun r h => single.div_lt h
theorem divF_spec {x y : Nat} (hx : single.fin x) (hy : single.fin y) (h0 : single.V y ≠ 0) : single.div x y = some (divF x y) ∧ single.Rounds (single.V x / single.V y) (single.sgn x ^^ single.sgn y) (divF x y) := by
  obtain ⟨w, h1, h2⟩ := div_rounds single single_fb hx hy h0
  have : divF x y = w := by unfold divF; rw [h1]; rfl
  rw [this]; exact ⟨h1, h2⟩
theorem bits_div {x y : Nat} (hx : single.fin x) (hy : single.fin y) (h0 : single.V y ≠ 0) : floatBits .quo .f32 x y = some (divF x y) := (divF_spec hx hy h0).1

theorem ref_div {x y w : Nat} (hx : single.fin x) (hy : single.fin y) (h0 : single.V y ≠ 0) (hw : single.div x y = some w) (fw : single.fin w) :
    ∃ X Y Z, floatToFloatBits .f32 x .f64 = some X ∧ floatToFloatBits .f32 y .f64 = some Y ∧ double.div X Y = some Z ∧ floatToFloatBits .f64 Z .f32 = some w := by
  obtain ⟨X, a1, a2, a3, a4⟩ := widen hx
  obtain ⟨Y, b1, b2, b3, b4⟩ := widen hy
  obtain ⟨Z, c1, c2⟩ := div_rounds double double_fb a2 b2 (by rw [b3]; exact h0)
  obtain ⟨W, d1, d2⟩ := div_rounds single single_fb hx hy h0
  rw [hw] at d1; cases d1
  rw [a3, b3, a4, b4] at c2
  obtain ⟨s, hs⟩ : ∃ s, s = (single.sgn x ^^ single.sgn y) := ⟨_, rfl⟩
  rw [← hs] at c2 d2
  refine ⟨X, Y, Z, a1, b1, c1, narrow c2 d2 fw fun k hk a hm => ?_⟩
  exact div_bad (x := single.V x) (y := single.V y) sing_V sing_V h0 (by cases s <;> simp [sg] <;> grind) hk a hm
theorem road_div {x y : Nat} (hx : single.fin x) (hy : single.fin y) (h0 : single.V y ≠ 0) (fw : single.fin (divF x y)) :
    ∃ X Y Z, floatToFloatBits .f32 x .f64 = some X ∧ floatToFloatBits .f32 y .f64 = some Y ∧ floatBits .quo .f64 X Y = some Z ∧ floatToFloatBits .f64 Z .f32 = some (divF x y) :=
  ref_div hx hy h0 (divF_spec hx hy h0).1 fw

/-- what a quotient is bounded by -/
theorem div_bound {x y c : Nat} (hx : single.fin x) (hy : single.fin y) (h0 : 0 < single.V y) (fc : single.fin c) (hc : single.sgn c = false)
    (h1 : single.V x ≤ single.V c * single.V y) (h2 : -(single.V c * single.V y) ≤ single.V x) : single.fin (divF x y) ∧ single.V (divF x y) ≤ single.V c ∧ -single.V c ≤ single.V (divF x y) := by
  have hr := (divF_spec hx hy (by intro e; rw [e] at h0; exact absurd h0 (by grind))).2
  have e : single.V x / single.V y * single.V y = single.V x := Rat.div_mul_cancel (by grind)
  have := hr.bound fc hc (mul_le_cancel h0 (by rw [e]; exact h1)) (mul_le_cancel h0 (by rw [e]; grind))
  exact ⟨this.1, this.2.1, this.2.2.1⟩
theorem div_nonneg {x y : Nat} (hx : single.fin x) (hy : single.fin y) (h0 : 0 < single.V y) (fd : single.fin (divF x y)) (h1 : 0 ≤ single.V x) : 0 ≤ single.V (divF x y) := by
  have hr := (divF_spec hx hy (by intro e; rw [e] at h0; exact absurd h0 (by grind))).2
  have e : single.V x / single.V y * single.V y = single.V x := Rat.div_mul_cancel (by grind)
  exact hr.nonneg fd (mul_le_cancel h0 (by rw [e]; grind))
/-- a quotient by what is not less than 2^-j -/
theorem Bd.div {k j x y : Nat} (hx : Bd k x) (fy : single.fin y) (hy : P2 (-(j : Int)) ≤ single.V y) (hk : k + j ≤ 100) : Bd (k + j) (divF x y) := by
  obtain ⟨c, fc, vc, sc⟩ := const_pow (k + j) hk
  have hp := P2_pos (-(j : Int))
  have e : P2 k = single.V c * P2 (-(j : Int)) := by rw [vc, ← P2_add]; congr 1; omega
  have m : single.V c * P2 (-(j : Int)) ≤ single.V c * single.V y := Rat.mul_le_mul_of_nonneg_left hy (by rw [vc]; exact Rat.le_of_lt (P2_pos _))
  obtain ⟨h1, h2, h3⟩ := hx
  have := div_bound h1 fy (by grind) fc sc (by grind) (by grind)
  rw [vc] at this
  exact ⟨this.1, this.2.2, this.2.1⟩

/-- a double made a single -/
theorem narrow_of {Z w : Nat} (hz : double.fin Z) (hr : single.Rounds (double.V Z) (double.sgn Z) w) (fw : single.fin w) : floatToFloatBits .f64 Z .f32 = some w := by
  have hr2 := single.write_rounds single_fb (double.sgn Z) (double.rmag (double.rung Z)) (double.rplace (double.rung Z)) (double.V_read Z).symm
  have he : single.write (.number (double.sgn Z) (double.rmag (double.rung Z)) (double.rplace (double.rung Z))) = w := hr2.unique hr
  have hd : FloatKind.decode .f64 Z = .number (double.sgn Z) (double.rmag (double.rung Z)) (double.rplace (double.rung Z)) := double.read_fin hz
  have he' : FloatKind.encode .f32 (.number (double.sgn Z) (double.rmag (double.rung Z)) (double.rplace (double.rung Z))) = w := he
  unfold floatToFloatBits
  rw [if_neg (by decide), hd]
  dsimp only
  rw [he']
  have hd2 : FloatKind.decode .f32 w = .number _ _ _ := single.read_fin fw
  rw [hd2]; rfl

/-- a double of a magnitude that a single has, made a single -/
theorem narrow_any {Z : Nat} (hz : double.fin Z) (h1 : double.V Z ≤ P2 100) (h2 : -P2 100 ≤ double.V Z) :
    ∃ w, floatToFloatBits .f64 Z .f32 = some w ∧ single.fin w ∧ single.Rounds (double.V Z) (double.sgn Z) w := by
  have hr := single.write_rounds single_fb (double.sgn Z) (double.rmag (double.rung Z)) (double.rplace (double.rung Z)) (double.V_read Z).symm
  have fw := (hr.bd (Nat.le_refl 100) h1 h2).1
  exact ⟨_, narrow_of hz hr fw, fw, hr⟩

theorem Rounds.self {x : Nat} (hx : single.fin x) (hl : x < 4294967296) : single.Rounds (single.V x) (single.sgn x) x := by
  refine ⟨single.rung x, ?_, ?_⟩
  · have h : single.rung x < single.infRung := hx
    rw [Nat.min_eq_left (by omega), single.word_eta (by rw [single_sw]; omega)]
  · unfold V
    rw [← Rat.mul_assoc, sg_sq, Rat.one_mul]
    exact single.near_rv _

theorem f64f32_lt {Z r : Nat} (h : floatToFloatBits .f64 Z .f32 = some r) : r < 4294967296 := by
  unfold floatToFloatBits at h
  rw [if_neg (by decide)] at h
  split at h
  · cases h
  · cases h; exact single.write_lt _
  · split at h
    · cases h
    · cases h; exact single.write_lt _

theorem rootFrom_spec (n : Nat) : ∀ todo root, root * root ≤ n → n < (root + 2 ^ todo) * (root + 2 ^ todo) →
    Datum.rootFrom n todo root * Datum.rootFrom n todo root ≤ n ∧ n < (Datum.rootFrom n todo root + 1) * (Datum.rootFrom n todo root + 1)
  | 0, root, h1, h2 => ⟨h1, h2⟩
  | todo + 1, root, h1, h2 => by
    unfold Datum.rootFrom
    simp only [Nat.shiftLeft_eq, Nat.one_mul]
    split
    · rename_i h
      refine rootFrom_spec n todo _ h ?_
      rw [Nat.pow_succ] at h2
      rw [show root + 2 ^ todo + 2 ^ todo = root + 2 ^ todo * 2 from by omega]; exact h2
    · rename_i h
      exact rootFrom_spec n todo _ h1 (by omega)

theorem whole_root (n : Nat) (hn : n ≠ 0) : ∀ q, q = Datum.rootFrom n (n.log2 / 2 + 1) 0 → q * q ≤ n ∧ n < (q + 1) * (q + 1) := by
  rintro q rfl
  refine rootFrom_spec n _ 0 (by omega) ?_
  rw [Nat.zero_add, ← Nat.pow_add]
  have h := @Nat.lt_log2_self n
  exact Nat.lt_of_lt_of_le h (Nat.pow_le_pow_right (by omega) (by omega))

theorem double_pow_fin {b : Nat} (h : double.rv b ≤ P2 128) : b < double.infRung := by
  have d : double.rv (double.infRung - 1) = (9007199254740991 : Nat) * P2 971 := by
    have := double.rv_at 2045 9007199254740991 (.inr (by decide)) (by decide)
    rw [show 2045 * double.binade + 9007199254740991 = double.infRung - 1 from by decide] at this
    rw [this, double_least]; rfl
  have g : P2 128 < double.rv (double.infRung - 1) := by
    rw [d]
    have := P2_lt (show (128 : Int) < 971 by omega)
    have := P2_pos 971
    have e1 := Rat.mul_le_mul_of_nonneg_right (show ((1 : Nat) : Rat) ≤ ((9007199254740991 : Nat) : Rat) from by exact_mod_cast (show 1 ≤ 9007199254740991 by omega)) (Rat.le_of_lt this)
    have e2 : ((1 : Nat) : Rat) = 1 := rfl
    grind
  have := double.rv_lt_iff.1 (show double.rv b < double.rv (double.infRung - 1) by grind)
  have : 0 < double.infRung := by decide
  omega

theorem sq_le_cancel {a b : Rat} (ha : 0 ≤ a) (hb : 0 ≤ b) (h : a * a ≤ b * b) : a ≤ b := by
  rcases le_or_le a b with h1 | h1
  · exact h1
  · rcases lt_or_eq h1 with h2 | h2
    · exfalso
      have e1 := Rat.mul_le_mul_of_nonneg_left h1 hb
      have e2 : b * a < a * a := Rat.mul_lt_mul_of_pos_right h2 (by grind)
      grind
    · rw [h2]; exact Rat.le_refl

/-- what is found of a whole root -/
structure RootAt (n : Nat) (h : Int) (x v : Rat) : Prop where
  big : 324518553658426726783156020576256 ≤ n
  at_ : x = (n : Rat) * (P2 h * P2 h)
  q : ∃ q : Nat, q * q ≤ n ∧ n < (q + 1) * (q + 1) ∧ (q : Rat) * P2 h ≤ v ∧ v < ((q + 1 : Nat) : Rat) * P2 h ∧ (q * q = n → v = (q : Rat) * P2 h)

theorem RootAt.le {n : Nat} {h : Int} {x v : Rat} (hr : RootAt n h x v) (k : Nat) (e : Int) (hk : k ≤ 16777216) (hx : x ≤ ((k : Rat) * P2 e) * ((k : Rat) * P2 e)) : v ≤ (k : Rat) * P2 e := by
  obtain ⟨big, at_, q, q1, q2, q3, q4, q5⟩ := hr
  have hp := P2_pos h
  have hpp : 0 < P2 h * P2 h := Rat.mul_pos hp hp
  by_cases he : h ≤ e
  · obtain ⟨z, hz⟩ := mult_up k he
    rw [hz] at hx ⊢
    have n1 : (n : Rat) ≤ ((z * z : Nat) : Rat) := by
      rw [at_] at hx
      refine mul_le_cancel hpp ?_
      rw [Rat.natCast_mul]; grind
    have n2 : n ≤ z * z := by exact_mod_cast n1
    by_cases hq : q < z
    · have := Rat.mul_le_mul_of_nonneg_right (show ((q + 1 : Nat) : Rat) ≤ (z : Rat) from by exact_mod_cast hq) (Rat.le_of_lt hp)
      grind
    · have hzq : z * z ≤ q * q := Nat.mul_le_mul (by omega) (by omega)
      have e2 : q * q = n := by omega
      have hq2 : q ≤ z := by
        apply Nat.le_of_not_lt
        intro hc
        have := Nat.mul_lt_mul_of_lt_of_lt hc hc
        omega
      have := Rat.mul_le_mul_of_nonneg_right (show (q : Rat) ≤ (z : Rat) from by exact_mod_cast hq2) (Rat.le_of_lt hp)
      rw [q5 e2]; exact this
  · exfalso
    have c1 := P2_mono (show e ≤ h by omega)
    have k0 : (0 : Rat) ≤ (k : Rat) := Rat.natCast_nonneg
    have a1 := Rat.mul_le_mul_of_nonneg_left c1 k0
    have a2 := Rat.mul_le_mul_of_nonneg_right (show (k : Rat) ≤ ((16777216 : Nat) : Rat) from by exact_mod_cast hk) (Rat.le_of_lt hp)
    have a0 : 0 ≤ (k : Rat) * P2 e := Rat.mul_nonneg k0 (Rat.le_of_lt (P2_pos e))
    have a3 : (k : Rat) * P2 e ≤ ((16777216 : Nat) : Rat) * P2 h := Rat.le_trans a1 a2
    have a4 := sq_le a0 a3
    have a5 : (((16777216 : Nat) : Rat) * P2 h) * (((16777216 : Nat) : Rat) * P2 h) = ((281474976710656 : Nat) : Rat) * (P2 h * P2 h) := by
      rw [show (281474976710656 : Nat) = 16777216 * 16777216 from rfl, Rat.natCast_mul]; grind
    have a6 : ((281474976710656 : Nat) : Rat) * (P2 h * P2 h) < (n : Rat) * (P2 h * P2 h) := Rat.mul_lt_mul_of_pos_right (by exact_mod_cast (show 281474976710656 < n by omega)) hpp
    grind

theorem RootAt.ge {n : Nat} {h : Int} {x v : Rat} (hr : RootAt n h x v) (k : Nat) (e : Int) (hk : k ≤ 16777216) (hx : ((k : Rat) * P2 e) * ((k : Rat) * P2 e) ≤ x) : (k : Rat) * P2 e ≤ v := by
  obtain ⟨big, at_, q, q1, q2, q3, q4, q5⟩ := hr
  have hp := P2_pos h
  have hpp : 0 < P2 h * P2 h := Rat.mul_pos hp hp
  by_cases he : h ≤ e
  · obtain ⟨z, hz⟩ := mult_up k he
    rw [hz] at hx ⊢
    have n1 : ((z * z : Nat) : Rat) ≤ (n : Rat) := by
      rw [at_] at hx
      refine mul_le_cancel hpp ?_
      rw [Rat.natCast_mul]; grind
    have n2 : z * z ≤ n := by exact_mod_cast n1
    have hq : z ≤ q := by
      apply Nat.le_of_not_lt
      intro hc
      have := Nat.mul_le_mul (show q + 1 ≤ z from hc) (show q + 1 ≤ z from hc)
      omega
    have := Rat.mul_le_mul_of_nonneg_right (show (z : Rat) ≤ (q : Rat) from by exact_mod_cast hq) (Rat.le_of_lt hp)
    grind
  · have hq : 16777216 ≤ q := by
      apply Nat.le_of_not_lt
      intro hc
      have := Nat.mul_le_mul (show q + 1 ≤ 16777216 from hc) (show q + 1 ≤ 16777216 from hc)
      omega
    have c1 := P2_mono (show e ≤ h by omega)
    have k0 : (0 : Rat) ≤ (k : Rat) := Rat.natCast_nonneg
    have a1 := Rat.mul_le_mul_of_nonneg_left c1 k0
    have a2 := Rat.mul_le_mul_of_nonneg_right (show (k : Rat) ≤ (q : Rat) from by exact_mod_cast (show k ≤ q by omega)) (Rat.le_of_lt hp)
    grind

/-- the square root of a double: a double within the bounds that the number's root has -/
theorem sqrt_spec {X : Nat} (hX : double.fin X) (h0 : 0 ≤ double.V X) (hb : double.V X ≤ P2 128) :
    ∃ Z, double.sqrt X = some Z ∧ double.fin Z ∧ 0 ≤ double.V Z ∧ double.V Z ≤ P2 64 ∧
      (∀ a, double.V X ≤ single.rv a * single.rv a → double.V Z ≤ single.rv a) ∧
      (∀ a, single.rv a * single.rv a ≤ double.V X → single.rv a ≤ double.V Z) := by
  have hml := double.rmag_lt (double.rung X)
  have hV := double.V_read X
  unfold sqrt
  rw [double.read_fin hX]
  generalize double.rmag (double.rung X) = m at *
  generalize double.rplace (double.rung X) = i at *
  generalize double.sgn X = s at *
  by_cases hm : m = 0
  · subst hm
    have hV0 : double.V X = 0 := by rw [hV]; simp
    have e : Datum.root (double.fractionBits + 2) (.number s 0 i) = some (.number s 0 i) := by unfold Datum.root; simp
    rw [e]
    have hw : double.write (.number s 0 i) = double.word s 0 := by unfold write nearest; simp
    refine ⟨double.word s 0, by rw [← hw]; rfl, ?_, ?_⟩
    · cases s <;> decide
    · have z : double.V (double.word s 0) = 0 := by
        have := double.V_word (s := s) (r := 0) (by decide)
        rw [Nat.zero_min] at this
        rw [this, rv_zero]; simp
      rw [z, hV0]
      refine ⟨Rat.le_refl, Rat.le_of_lt (P2_pos 64), fun a _ => single.rv_nonneg a, fun a h => ?_⟩
      exact sq_le_cancel (single.rv_nonneg a) Rat.le_refl (by simpa using h)
  · have hm0 : (0 : Rat) < (m : Rat) := by exact_mod_cast (show 0 < m by omega)
    have hmp : 0 < (m : Rat) * P2 i := Rat.mul_pos hm0 (P2_pos i)
    have hs : s = false := by
      cases s
      · rfl
      · exfalso; rw [hV] at h0; simp [sg] at h0; grind
    subst hs
    have hVm : double.V X = (m : Rat) * P2 i := by rw [hV]; simp [sg]
    unfold Datum.root
    simp only [if_neg hm, Bool.false_eq_true, if_false, Option.map_some]
    obtain ⟨more, hmore⟩ : ∃ more, more = 2 * (double.fractionBits + 2) - m.log2 + ((i - ((2 * (double.fractionBits + 2) - m.log2 : Nat) : Int)) % 2).toNat := ⟨_, rfl⟩
    rw [← hmore]
    have hfb : double.fractionBits = 52 := rfl
    rw [hfb] at hmore
    have hlm : m.log2 ≤ 52 := by
      have : m.log2 < 53 := (Nat.log2_lt hm).2 (by rw [binade_two] at hml; exact hml)
      omega
    have hmore2 : 108 ≤ m.log2 + more := by omega
    have heven : (i - more) % 2 = 0 := by omega
    obtain ⟨h, hh⟩ : ∃ h, h = (i - more) / 2 := ⟨_, rfl⟩
    have hi : i = h + h + more := by omega
    rw [← hh]
    have big : 324518553658426726783156020576256 ≤ m <<< more := by
      rw [Nat.shiftLeft_eq]
      have g2 : 2 ^ m.log2 ≤ m := Nat.log2_self_le hm
      calc 324518553658426726783156020576256 = 2 ^ 108 := by decide
        _ ≤ 2 ^ (m.log2 + more) := Nat.pow_le_pow_right (by omega) hmore2
        _ = 2 ^ m.log2 * 2 ^ more := Nat.pow_add ..
        _ ≤ m * 2 ^ more := Nat.mul_le_mul_right _ g2
    have hat : double.V X = ((m <<< more : Nat) : Rat) * (P2 h * P2 h) := by
      rw [hVm, hi, P2_add, P2_add, Nat.shiftLeft_eq, Rat.natCast_mul, P2_nat]; grind
    generalize m <<< more = n at *
    obtain ⟨q1, q2⟩ := whole_root n (by omega) _ rfl
    generalize Datum.rootFrom n (n.log2 / 2 + 1) 0 = q at *
    have hpp := P2_double h
    have hp0 := P2_pos (h - 1)
    have hr := double.write_rounds double_fb false (2 * q + (q * q != n).toNat) (h - 1) (x := ((2 * q + (q * q != n).toNat : Nat) : Rat) * P2 (h - 1)) (by simp [sg])
    generalize double.write (.number false (2 * q + (q * q != n).toNat) (h - 1)) = Z at *
    have hRA : RootAt n h (double.V X) (((2 * q + (q * q != n).toNat : Nat) : Rat) * P2 (h - 1)) := by
      refine ⟨big, hat, q, q1, q2, ?_, ?_, ?_⟩
      · by_cases hc : q * q = n
        · have t : (q * q != n).toNat = 0 := by simp [hc]
          rw [t, Nat.add_zero, Rat.natCast_mul, hpp]; grind
        · have t : (q * q != n).toNat = 1 := by simp [hc]
          rw [t, Rat.natCast_add, Rat.natCast_mul, hpp]; grind
      · by_cases hc : q * q = n
        · have t : (q * q != n).toNat = 0 := by simp [hc]
          rw [t, Nat.add_zero, Rat.natCast_mul, Rat.natCast_add, hpp]; grind
        · have t : (q * q != n).toNat = 1 := by simp [hc]
          rw [t, Rat.natCast_add, Rat.natCast_mul, Rat.natCast_add, hpp]; grind
      · intro hc
        have t : (q * q != n).toNat = 0 := by simp [hc]
        rw [t, Nat.add_zero, Rat.natCast_mul, hpp]; grind
    have hv0 : 0 ≤ ((2 * q + (q * q != n).toNat : Nat) : Rat) * P2 (h - 1) := Rat.mul_nonneg Rat.natCast_nonneg (Rat.le_of_lt hp0)
    generalize ((2 * q + (q * q != n).toNat : Nat) : Rat) * P2 (h - 1) = v at *
    obtain ⟨r, rfl, hN⟩ := hr
    have hN' : double.Near v r := by simpa [sg] using hN
    clear hN
    have up : ∀ a, double.V X ≤ single.rv a * single.rv a → ∃ b, double.rv b = single.rv a ∧ r ≤ b := by
      intro a ha
      obtain ⟨b, hb⟩ := single_in_double a
      refine ⟨b, hb, hN'.le_of ?_⟩
      rw [hb]
      exact hRA.le (single.rmag a) (single.rplace a) (by have := single.rmag_lt a; rw [single_binade] at this; omega) ha
    have dn : ∀ a, single.rv a * single.rv a ≤ double.V X → ∃ b, double.rv b = single.rv a ∧ b ≤ r := by
      intro a ha
      obtain ⟨b, hb⟩ := single_in_double a
      refine ⟨b, hb, hN'.ge_of ?_⟩
      rw [hb]
      exact hRA.ge (single.rmag a) (single.rplace a) (by have := single.rmag_lt a; rw [single_binade] at this; omega) ha
    obtain ⟨c, fc, vc, sc⟩ := const_pow 64 (by omega)
    have vc' : single.rv (single.rung c) = P2 64 := by rw [V_pos_word sc] at vc; exact vc
    obtain ⟨b, hb1, hb2⟩ := up (single.rung c) (by rw [vc', ← P2_add]; exact hb)
    have hbl : b < double.infRung := double_pow_fin (by rw [hb1, vc']; exact P2_mono (by omega))
    have lt : r < double.infRung := by omega
    have vz : double.V (double.word false (min r double.infRung)) = double.rv r := by rw [double.V_word lt]; simp [sg]
    refine ⟨_, rfl, (double.fin_word_iff _ _).2 lt, ?_, ?_, fun a ha => ?_, fun a ha => ?_⟩
    · rw [vz]; exact double.rv_nonneg r
    · rw [vz, ← vc', ← hb1]; exact double.rv_mono hb2
    · obtain ⟨b, hb, hle⟩ := up a ha
      rw [vz, ← hb]; exact double.rv_mono hle
    · obtain ⟨b, hb, hle⟩ := dn a ha
      rw [vz, ← hb]; exact double.rv_mono hle

/-- the root of a single, by way of a double -/
def rootF (x : Nat) : Nat := ((floatToFloatBits .f32 x .f64).bind fun X => (double.sqrt X).bind fun Z => floatToFloatBits .f64 Z .f32).getD 0

theorem root_spec {x : Nat} (hx : single.fin x) (h0 : 0 ≤ single.V x) :
    ∃ X Z, floatToFloatBits .f32 x .f64 = some X ∧ double.sqrt X = some Z ∧ floatToFloatBits .f64 Z .f32 = some (rootF x) ∧ single.fin (rootF x) ∧ 0 ≤ single.V (rootF x) ∧
      (∀ c, single.fin c → single.sgn c = false → single.V x ≤ single.V c * single.V c → single.V (rootF x) ≤ single.V c) ∧
      (∀ c, single.fin c → single.sgn c = false → single.V c * single.V c ≤ single.V x → single.V c ≤ single.V (rootF x)) := by
  obtain ⟨X, a1, a2, a3, a4⟩ := widen hx
  have hm : single.V x ≤ P2 128 := by
    have := single.rv_mono (Nat.le_of_lt hx)
    rw [rv_inf] at this
    unfold V
    have p := single.rv_nonneg (single.rung x)
    cases single.sgn x <;> simp [sg] <;> grind
  rw [← a3] at h0 hm
  obtain ⟨Z, b1, b2, b3, b4, b5, b6⟩ := sqrt_spec a2 h0 hm
  have := P2_mono (show (64 : Int) ≤ 100 by omega)
  have := P2_pos 100
  obtain ⟨w, c1, c2, c3⟩ := narrow_any b2 (by grind) (by grind)
  have e : rootF x = w := by unfold rootF; rw [a1]; simp only [Option.bind_some]; rw [b1]; simp only [Option.bind_some]; rw [c1]; rfl
  have hw0 := c3.nonneg c2 b3
  refine ⟨X, Z, a1, b1, by rw [e]; exact c1, by rw [e]; exact c2, by rw [e]; exact hw0, fun c fc sc h => ?_, fun c fc sc h => ?_⟩
  · rw [e]
    have := b5 (single.rung c) (by rw [← V_pos_word sc, a3]; exact h)
    rw [← V_pos_word sc] at this
    exact (c3.bound fc sc this (by grind)).2.1
  · rw [e]
    have := b6 (single.rung c) (by rw [← V_pos_word sc, a3]; exact h)
    rw [← V_pos_word sc] at this
    have n := single.rv_nonneg (single.rung c)
    rw [← V_pos_word sc] at n
    rcases lt_or_eq n with h1 | h1
    · exact c3.ge_const c2 sc h1 this
    · rw [← h1]; exact hw0
theorem rootF_lt (x : Nat) : rootF x < 4294967296 := by
  unfold rootF
  refine some_lt fun r h => ?_
  obtain ⟨X, _, h⟩ := Option.bind_eq_some_iff.1 h
  obtain ⟨Z, _, h⟩ := Option.bind_eq_some_iff.1 h
  exact f64f32_lt h
end Format
end Ieee

namespace Ieee
namespace Format
open Go

theorem cut_down (neg : Bool) (n drop : Nat) : Toward.down.cut neg n drop = n / 2 ^ drop + (neg && n % 2 ^ drop != 0).toNat := by
  unfold Toward.cut
  by_cases h : drop ≤ n.log2 + 2
  · rw [Nat.min_eq_left h, Nat.one_shiftLeft]
  · have h1 : n < 2 ^ (n.log2 + 1) := Nat.lt_log2_self
    have h2 : 2 ^ (n.log2 + 2) ≤ 2 ^ drop := Nat.pow_le_pow_right (by omega) (by omega)
    rw [Nat.min_eq_right (by omega), Nat.one_shiftLeft]
    have e : 2 ^ (n.log2 + 2) = 2 * 2 ^ (n.log2 + 1) := by rw [Nat.pow_succ]; omega
    have a1 : n / 2 ^ (n.log2 + 2) = 0 := Nat.div_eq_of_lt (by omega)
    have a2 : n % 2 ^ (n.log2 + 2) = n := Nat.mod_eq_of_lt (by omega)
    have b1 : n / 2 ^ drop = 0 := Nat.div_eq_of_lt (by omega)
    have b2 : n % 2 ^ drop = n := Nat.mod_eq_of_lt (by omega)
    simp only [a1, a2, b1, b2]

/-- the whole number below -/
def below (s : Bool) (m : Nat) (i : Int) : Nat := Toward.down.cut s (m <<< i.toNat) (-i).toNat

theorem below_spec (s : Bool) (m : Nat) (i : Int) : ∃ z : Int, sg s * (below s m i : Rat) = (z : Rat) ∧ (z : Rat) ≤ sg s * ((m : Rat) * P2 i) ∧ sg s * ((m : Rat) * P2 i) < (z : Rat) + 1 ∧
    (0 ≤ i → (below s m i : Rat) = (m : Rat) * P2 i) ∧ (i < 0 → below s m i ≤ m / 2 + 1) := by
  unfold below
  rw [cut_down]
  by_cases hi : 0 ≤ i
  · have e1 : (-i).toNat = 0 := by omega
    obtain ⟨j, rfl⟩ := Int.eq_ofNat_of_zero_le hi
    rw [e1, Int.toNat_natCast, Nat.pow_zero, Nat.div_one, Nat.mod_one]
    simp only [bne_self_eq_false, Bool.and_false, Bool.toNat_false, Nat.add_zero]
    have e2 : ((m <<< j : Nat) : Rat) = (m : Rat) * P2 j := by rw [Nat.shiftLeft_eq, Rat.natCast_mul, P2_nat]
    rw [← e2]
    refine ⟨if s then -((m <<< j : Nat) : Int) else ((m <<< j : Nat) : Int), ?_⟩
    have e3 : (((m <<< j : Nat) : Int) : Rat) = ((m <<< j : Nat) : Rat) := Rat.intCast_natCast _
    have ee : sg s * ((m <<< j : Nat) : Rat) = ((if s then -((m <<< j : Nat) : Int) else ((m <<< j : Nat) : Int) : Int) : Rat) := by
      cases s
      · simp only [sg, Bool.false_eq_true, if_false]; rw [e3]; grind
      · simp only [sg, if_true]; rw [Rat.intCast_neg, e3]; grind
    refine ⟨ee, ?_, ?_, fun _ => rfl, fun h => by omega⟩ <;> rw [ee] <;> grind
  · obtain ⟨d, hd⟩ : ∃ d : Nat, (-i).toNat = d := ⟨_, rfl⟩
    have hi2 : i = -(d : Int) := by omega
    have e1 : i.toNat = 0 := by omega
    rw [e1, hd]
    simp only [Nat.shiftLeft_zero]
    have hv : (m : Rat) * P2 i * ((2 ^ d : Nat) : Rat) = (m : Rat) * P2 0 := by
      rw [hi2, ← P2_nat, Rat.mul_assoc, ← P2_add]; congr 2; omega
    obtain ⟨q1, q2, q3, q4⟩ := quot_floor m (2 ^ d) (Nat.two_pow_pos d) 0 _ hv
    generalize (m : Rat) * P2 i = v at *
    rw [P2_zero, Rat.mul_one] at *
    have hd1 : 1 ≤ d := by omega
    have hdv : m / 2 ^ d ≤ m / 2 := Nat.div_le_div_left (by have := Nat.pow_le_pow_right (show 0 < 2 by omega) hd1; omega) (by omega)
    cases s
    · simp only [Bool.false_and, Bool.toNat_false, Nat.add_zero]
      refine ⟨((m / 2 ^ d : Nat) : Int), ?_, ?_, ?_, fun h => absurd h hi, fun _ => by omega⟩
      · rw [Rat.intCast_natCast]; simp only [sg, Bool.false_eq_true, if_false]; grind
      · rw [Rat.intCast_natCast]; simp only [sg, Bool.false_eq_true, if_false]; grind
      · rw [Rat.intCast_natCast]; simp only [sg, Bool.false_eq_true, if_false]; rw [Rat.natCast_add] at q2; have : ((1 : Nat) : Rat) = 1 := rfl; grind
    · by_cases hr : m % 2 ^ d = 0
      · have q5 := q3 hr
        simp only [hr, Bool.true_and, bne_self_eq_false, Bool.toNat_false, Nat.add_zero]
        refine ⟨-((m / 2 ^ d : Nat) : Int), ?_, ?_, ?_, fun h => absurd h hi, fun _ => by omega⟩
        · rw [Rat.intCast_neg, Rat.intCast_natCast]; simp only [sg, if_true]; grind
        · rw [Rat.intCast_neg, Rat.intCast_natCast]; simp only [sg, if_true]; grind
        · rw [Rat.intCast_neg, Rat.intCast_natCast]; simp only [sg, if_true]; grind
      · have q5 := q4 hr
        have hb : (true && m % 2 ^ d != 0).toNat = 1 := by simp [hr]
        rw [hb]
        refine ⟨-((m / 2 ^ d + 1 : Nat) : Int), ?_, ?_, ?_, fun h => absurd h hi, fun _ => by omega⟩
        · rw [Rat.intCast_neg, Rat.intCast_natCast]; simp only [sg, if_true]; grind
        · rw [Rat.intCast_neg, Rat.intCast_natCast]; simp only [sg, if_true]; grind
        · rw [Rat.intCast_neg, Rat.intCast_natCast]; simp only [sg, if_true]; rw [Rat.natCast_add]; have : ((1 : Nat) : Rat) = 1 := rfl; grind

theorem P2_128_lt {x : Nat} (hx : single.fin x) : single.rv (single.rung x) < P2 128 := by
  rw [← rv_inf]; exact single.rv_lt hx

theorem whole_23 {z : Int} (h1 : (z : Rat) ≤ P2 23) (h2 : -P2 23 - 1 < (z : Rat)) : z ≤ 8388608 ∧ -8388609 < z := by
  have e23 : P2 23 = ((8388608 : Int) : Rat) := P2_nat 23
  constructor
  · rw [e23] at h1; exact Rat.intCast_le_intCast.1 h1
  · have e : -P2 23 - 1 = ((-8388609 : Int) : Rat) := by
      rw [e23, ← Rat.intCast_neg, show (1 : Rat) = ((1 : Int) : Rat) from rfl, ← Rat.intCast_sub]; rfl
    rw [e] at h2
    exact Rat.intCast_lt_intCast.1 h2

/-- the floor of a single, by way of a double -/
def floorF (x : Nat) : Nat := ((floatToFloatBits .f32 x .f64).bind fun X => floatToFloatBits .f64 (double.write ((double.read X).integral .down)) .f32).getD 0
theorem floorF_lt (x : Nat) : floorF x < 4294967296 := by
  unfold floorF
  refine some_lt fun r h => ?_
  obtain ⟨X, _, h⟩ := Option.bind_eq_some_iff.1 h
  exact f64f32_lt h

theorem floor_spec {x : Nat} (hx : single.fin x) (hl : x < 4294967296) :
    ∃ X s m i, floatToFloatBits .f32 x .f64 = some X ∧ FloatKind.decode .f64 X = .number s m i ∧ floatToFloatBits .f64 (FloatKind.encode .f64 (Datum.integral .down (.number s m i))) .f32 = some (floorF x) ∧
      single.fin (floorF x) ∧ single.sgn (floorF x) = single.sgn x ∧ ∃ z : Int, single.V (floorF x) = (z : Rat) ∧ (z : Rat) ≤ single.V x ∧ single.V x < (z : Rat) + 1 := by
  obtain ⟨X, a1, a2, a3, a4⟩ := widen hx
  have hml := double.rmag_lt (double.rung X)
  have hrd := double.read_fin a2
  have hV := double.V_read X
  have hfl : floorF x = (floatToFloatBits .f64 (double.write ((double.read X).integral .down)) .f32).getD 0 := by unfold floorF; rw [a1]; rfl
  refine ⟨X, _, _, _, a1, hrd, ?_⟩
  rw [hrd] at hfl
  rw [a4] at hV hfl ⊢
  rw [a3] at hV
  have hrl : -1074 ≤ double.rplace (double.rung X) := by have := double.least_le (double.rung X); rw [double_least] at this; exact this
  generalize double.rmag (double.rung X) = m at *
  generalize double.rplace (double.rung X) = i at *
  obtain ⟨z, b1, b2, b3, b4, b5⟩ := below_spec (single.sgn x) m i
  have hint : Datum.integral .down (.number (single.sgn x) m i) = .number (single.sgn x) (below (single.sgn x) m i) 0 := rfl
  rw [hint] at hfl ⊢
  rw [← hV] at b2 b3
  generalize below (single.sgn x) m i = c at *
  have hvx := P2_128_lt hx
  have hvx0 := single.rv_nonneg (single.rung x)
  have hvd : single.V x = sg (single.sgn x) * single.rv (single.rung x) := rfl
  have hc0 : (0 : Rat) ≤ (c : Rat) := Rat.natCast_nonneg
  have hcP : (c : Rat) ≤ P2 128 := by
    by_cases hi : 0 ≤ i
    · rw [b4 hi]
      have : (m : Rat) * P2 i = single.rv (single.rung x) := by
        rw [hvd] at hV
        cases hs : single.sgn x <;> rw [hs] at hV <;> simp [sg] at hV <;> grind
      rw [this]; exact Rat.le_of_lt hvx
    · have h1 := b5 (by omega)
      rw [double_binade] at hml
      have : (c : Rat) ≤ ((2 ^ 128 : Nat) : Rat) := by exact_mod_cast (show c ≤ 2 ^ 128 by omega)
      rw [← P2_nat] at this; exact this
  obtain ⟨b, hb⟩ : ∃ b, double.rv b = (c : Rat) * P2 0 := by
    by_cases hi : 0 ≤ i
    · obtain ⟨b, hb⟩ := double.rep' (m := m) (p := i) hml (by rw [double_least]; omega)
      exact ⟨b, by rw [hb, P2_zero, Rat.mul_one, b4 hi]⟩
    · have h1 := b5 (by omega)
      exact double.rep' (m := c) (p := 0) (by rw [double_binade] at hml ⊢; omega) (by rw [double_least]; omega)
  obtain ⟨r, e1, e2⟩ := double.write_number double_fb (single.sgn x) c 0
  rw [← hb] at e2
  obtain rfl := e2.eq_of
  have lt : r < double.infRung := double_pow_fin (by rw [hb, P2_zero, Rat.mul_one]; exact hcP)
  have hZf : double.fin (double.word (single.sgn x) (min r double.infRung)) := (double.fin_word_iff _ _).2 lt
  have hZv : double.V (double.word (single.sgn x) (min r double.infRung)) = (z : Rat) := by rw [double.V_word lt, hb, P2_zero, Rat.mul_one, b1]
  have hZs : double.sgn (double.word (single.sgn x) (min r double.infRung)) = single.sgn x := double.sgn_word _ (double.min_lt_sw r)
  have he : FloatKind.encode .f64 (.number (single.sgn x) c 0) = double.word (single.sgn x) (min r double.infRung) := e1
  rw [he]
  rw [e1] at hfl
  generalize double.word (single.sgn x) (min r double.infRung) = Z at *
  have key : ∃ w, floatToFloatBits .f64 Z .f32 = some w ∧ single.fin w ∧ single.V w = (z : Rat) ∧ single.sgn w = single.sgn x := by
    by_cases hp : 0 ≤ single.rplace (single.rung x)
    · -- whole already
      have hz : (z : Rat) = single.V x := by
        obtain ⟨k, hk⟩ : ∃ k : Int, single.V x = (k : Rat) := by
          obtain ⟨q, hq⟩ := mult_up (single.rmag (single.rung x)) hp
          refine ⟨if single.sgn x then -(q : Int) else (q : Int), ?_⟩
          have : single.rv (single.rung x) = (q : Rat) := by
            show (single.rmag (single.rung x) : Rat) * P2 (single.rplace (single.rung x)) = _
            rw [hq, P2_zero, Rat.mul_one]
          rw [hvd, this]
          cases single.sgn x
          · simp only [sg, Bool.false_eq_true, if_false]; rw [Rat.intCast_natCast]; grind
          · simp only [sg, if_true]; rw [Rat.intCast_neg, Rat.intCast_natCast]; grind
        rw [hk] at b2 b3 ⊢
        have h1 : z ≤ k := by exact_mod_cast b2
        have h2 : k < z + 1 := by
          have : (k : Rat) < ((z + 1 : Int) : Rat) := by rw [Rat.intCast_add]; exact b3
          exact_mod_cast this
        have : z = k := by omega
        rw [this]
      refine ⟨x, narrow_of hZf ?_ hx, hx, hz.symm, rfl⟩
      rw [hZv, hZs, hz]
      exact Rounds.self hx hl
    · have hsm := single.rmag_lt (single.rung x)
      rw [single_binade] at hsm
      have hle : single.rv (single.rung x) ≤ P2 23 := by
        show (single.rmag (single.rung x) : Rat) * P2 (single.rplace (single.rung x)) ≤ _
        have a1 := P2_mono (show single.rplace (single.rung x) ≤ -1 by omega)
        have a2 := Rat.mul_le_mul_of_nonneg_left a1 (show (0 : Rat) ≤ (single.rmag (single.rung x) : Rat) from Rat.natCast_nonneg)
        have a3 := Rat.mul_le_mul_of_nonneg_right (show (single.rmag (single.rung x) : Rat) ≤ ((2 ^ 24 : Nat) : Rat) from by exact_mod_cast (show single.rmag (single.rung x) ≤ 2 ^ 24 by omega)) (Rat.le_of_lt (P2_pos (-1)))
        have a4 : ((2 ^ 24 : Nat) : Rat) * P2 (-1) = P2 23 := by rw [← P2_nat, ← P2_add]; rfl
        grind
      have hz1 : (z : Rat) ≤ P2 23 ∧ -P2 23 - 1 < (z : Rat) := by
        rw [hvd] at b2 b3
        generalize P2 23 = p at *
        cases hs : single.sgn x <;> rw [hs] at b2 b3 <;> simp only [sg, if_true, Bool.false_eq_true, if_false] at b2 b3 <;> constructor <;> grind
      obtain ⟨hz2, hz3⟩ := whole_23 hz1.1 hz1.2
      have hr := single.write_rounds single_fb (double.sgn Z) (double.rmag (double.rung Z)) (double.rplace (double.rung Z)) (double.V_read Z).symm
      have := hr.exact z 0 (by omega) (by omega) (by decide) (by decide) (by rw [hZv, P2_zero, Rat.mul_one])
      exact ⟨_, narrow_of hZf hr this.1, this.1, by rw [this.2.1, hZv], by rw [this.2.2, hZs]⟩
  obtain ⟨w, w1, w2, w3, w4⟩ := key
  rw [w1] at hfl
  have hfl' : floorF x = w := hfl
  rw [hfl']
  exact ⟨w1, w2, w4, z, w3, b2, b3⟩
end Format
end Ieee

namespace Ieee
namespace Format
open Go

/-- the other sign -/
def negF (x : Nat) : Nat := x ^^^ 2147483648
theorem negF_parts {x : Nat} (h : x < 4294967296) : single.rung (negF x) = single.rung x ∧ single.sgn (negF x) = !single.sgn x ∧ negF x < 4294967296 := by
  have a1 : negF x % 2147483648 = x % 2147483648 := by
    have := Nat.xor_mod_two_pow (a := x) (b := 2147483648) (n := 31)
    rw [show (2 ^ 31 : Nat) = 2147483648 from rfl, Nat.mod_self, Nat.xor_zero] at this
    exact this
  have a2 : negF x / 2147483648 = x / 2147483648 ^^^ 1 := by
    have := Nat.xor_div_two_pow (a := x) (b := 2147483648) (n := 31)
    rw [show (2 ^ 31 : Nat) = 2147483648 from rfl, show (2147483648 / 2147483648 : Nat) = 1 from rfl] at this
    exact this
  have hq : x / 2147483648 = 0 ∨ x / 2147483648 = 1 := by omega
  refine ⟨?_, ?_, ?_⟩
  · rw [rung_lit, rung_lit, a1]
  · rw [sgn_lit, sgn_lit, a2]
    rcases hq with h | h <;> rw [h] <;> rfl
  · rcases hq with h | h <;> rw [h] at a2
    · have : negF x / 2147483648 = 1 := a2
      omega
    · have : negF x / 2147483648 = 0 := a2
      omega
theorem negF_V {x : Nat} (h : x < 4294967296) : single.V (negF x) = -single.V x := by
  obtain ⟨a, b, _⟩ := negF_parts h
  unfold V
  rw [a, b, sg_not]; grind
theorem negF_fin {x : Nat} (h : x < 4294967296) (hx : single.fin x) : single.fin (negF x) := by
  unfold fin at *; rw [(negF_parts h).1]; exact hx
theorem Bd.neg {k x : Nat} (h : Bd k x) (hl : x < 4294967296) : Bd k (negF x) := by
  refine ⟨negF_fin hl h.1, ?_⟩
  rw [negF_V hl]
  have := h.2
  constructor <;> grind

/-- half a difference -/
def gradF (a b : Nat) : Nat := mulF (subF a b) 1056964608
theorem half_bd : -P2 (-((1 : Nat) : Int)) ≤ single.V 1056964608 ∧ single.V 1056964608 ≤ P2 (-((1 : Nat) : Int)) := by
  rw [const_2nd.2.1]
  have := P2_pos (-1)
  constructor <;> simp only [Int.cast_ofNat_Int] <;> grind
theorem grad_bd {k a b : Nat} (ha : Bd k a) (hb : Bd k b) (hk : k ≤ 80) : Bd (k + 1) (subF a b) ∧ Bd k (gradF a b) := by
  have a1 := ha.sub hb (by omega)
  exact ⟨a1, Bd.less (j := 1) a1 const_2nd.1 half_bd (by omega)⟩
theorem gradF_lt (a b : Nat) : gradF a b < 4294967296 := mulF_lt _ _

theorem mul_nonneg {x y : Nat} (hx : single.fin x) (hy : single.fin y) (hf : single.fin (mulF x y)) (h : 0 ≤ single.V x * single.V y) : 0 ≤ single.V (mulF x y) := (mulF_spec hx hy).2.nonneg hf h
theorem add_nonneg {x y : Nat} (hx : single.fin x) (hy : single.fin y) (hf : single.fin (addF x y)) (h : 0 ≤ single.V x + single.V y) : 0 ≤ single.V (addF x y) := (addF_spec hx hy).2.nonneg hf h
theorem sub_nonneg {x y : Nat} (hx : single.fin x) (hy : single.fin y) (hf : single.fin (subF x y)) (h : 0 ≤ single.V x - single.V y) : 0 ≤ single.V (subF x y) := (subF_spec hx hy).2.nonneg hf h
theorem sq_nonneg (a : Rat) : 0 ≤ a * a := by
  rcases le_or_le 0 a with h | h
  · exact Rat.mul_nonneg h h
  · have := Rat.mul_nonneg (show 0 ≤ -a by grind) (show 0 ≤ -a by grind)
    grind

/-- the sum of two squares -/
def hypF (x y : Nat) : Nat := addF (mulF x x) (mulF y y)
theorem hyp_bd {k x y : Nat} (hx : Bd k x) (hy : Bd k y) (hk : k ≤ 40) : Bd (k + k) (mulF x x) ∧ Bd (k + k) (mulF y y) ∧ Bd (k + k + 1) (hypF x y) ∧ 0 ≤ single.V (hypF x y) := by
  have a := hx.mul hx (by omega)
  have b := hy.mul hy (by omega)
  have c := a.add b (by omega)
  refine ⟨a, b, c, add_nonneg a.1 b.1 c.1 ?_⟩
  have := mul_nonneg hx.1 hx.1 a.1 (sq_nonneg _)
  have := mul_nonneg hy.1 hy.1 b.1 (sq_nonneg _)
  grind
theorem root_bd {k x : Nat} (hx : Bd (k + k) x) (h0 : 0 ≤ single.V x) (hk : k ≤ 50) : Bd k (rootF x) ∧ 0 ≤ single.V (rootF x) := by
  obtain ⟨c, fc, vc, sc⟩ := const_pow k (by omega)
  obtain ⟨X, Z, a, b, d, f, n, u, l⟩ := root_spec hx.1 h0
  have := u c fc sc (by rw [vc, ← P2_add]; exact hx.2.2)
  rw [vc] at this
  have p := P2_pos k
  exact ⟨⟨f, by grind, this⟩, n⟩
theorem root_one {x : Nat} (hx : single.fin x) (h0 : 1 ≤ single.V x) : 1 ≤ single.V (rootF x) := by
  obtain ⟨X, Z, a, b, d, f, n, u, l⟩ := root_spec hx (by grind)
  have := l 1065353216 const_1.1 const_1.2.2 (by rw [const_1.2.1]; grind)
  rw [const_1.2.1] at this; exact this
theorem add_one {k x : Nat} (hx : Bd k x) (h0 : 0 ≤ single.V x) (hk : k ≤ 80) : Bd (k + 1) (addF x 1065353216) ∧ 1 ≤ single.V (addF x 1065353216) := by
  have o : Bd k 1065353216 := ⟨const_1.1, by
    rw [const_1.2.1]
    have := P2_mono (show (0 : Int) ≤ k by omega)
    rw [P2_zero] at this
    constructor <;> grind⟩
  have a := hx.add o (by omega)
  refine ⟨a, ?_⟩
  have := (addF_spec hx.1 o.1).2.ge_const (c := 1065353216) a.1 const_1.2.2 (by rw [const_1.2.1]; decide) (by rw [const_1.2.1]; grind)
  rw [const_1.2.1] at this; exact this

/-- the slope, the curve, the normal of a cell -/
def slopeF (n s e w v : Nat) : Nat := rootF (hypF (gradF e w) (gradF s n))
def lenF (n s e w : Nat) : Nat := rootF (addF (hypF (gradF e w) (gradF s n)) 1065353216)
def curve1 (n s e w : Nat) : Nat := addF (addF (addF n s) e) w
def curveF (n s e w v : Nat) : Nat := subF (mulF (curve1 n s e w) 1048576000) v
theorem quarter_bd : -P2 (-((2 : Nat) : Int)) ≤ single.V 1048576000 ∧ single.V 1048576000 ≤ P2 (-((2 : Nat) : Int)) := by
  rw [const_quarter.2.1]
  have e : P2 (-2) = 1 / 4 := by
    have a := P2_succ (-2)
    have b := P2_succ (-1)
    have c := P2_zero
    simp at a b
    grind
  rw [show (-((2 : Nat) : Int)) = -2 from rfl, e]
  constructor <;> grind
theorem curve_bd {k n s e w v : Nat} (hn : Bd k n) (hs : Bd k s) (he : Bd k e) (hw : Bd k w) (hv : Bd k v) (hk : k ≤ 80) :
    Bd (k + 1) (addF n s) ∧ Bd (k + 2) (addF (addF n s) e) ∧ Bd (k + 3) (curve1 n s e w) ∧ Bd (k + 1) (mulF (curve1 n s e w) 1048576000) ∧ Bd (k + 2) (curveF n s e w v) := by
  have a1 := hn.add hs (by omega)
  have a2 := a1.add (he.mono (show k ≤ k + 1 by omega)) (by omega)
  have a3 := a2.add (hw.mono (show k ≤ k + 2 by omega)) (by omega)
  have a4 : Bd (k + 1) (mulF (curve1 n s e w) 1048576000) := Bd.less (j := 2) a3 const_quarter.1 quarter_bd (by omega)
  exact ⟨a1, a2, a3, a4, a4.sub (hv.mono (by omega)) (by omega)⟩
theorem slope_bd {n s e w : Nat} (hn : Bd 20 n) (hs : Bd 20 s) (he : Bd 20 e) (hw : Bd 20 w) :
    Bd 41 (hypF (gradF e w) (gradF s n)) ∧ 0 ≤ single.V (hypF (gradF e w) (gradF s n)) ∧ Bd 21 (rootF (hypF (gradF e w) (gradF s n))) ∧
    Bd 42 (addF (hypF (gradF e w) (gradF s n)) 1065353216) ∧ 1 ≤ single.V (addF (hypF (gradF e w) (gradF s n)) 1065353216) ∧ Bd 21 (lenF n s e w) ∧ 1 ≤ single.V (lenF n s e w) := by
  obtain ⟨_, a⟩ := grad_bd he hw (by omega)
  obtain ⟨_, b⟩ := grad_bd hs hn (by omega)
  obtain ⟨_, _, c, d⟩ := hyp_bd a b (by omega)
  obtain ⟨f, g⟩ := add_one c d (by omega)
  exact ⟨c, d, (root_bd (k := 21) (c.mono (by omega)) d (by omega)).1, f, g, (root_bd (k := 21) f (by grind) (by omega)).1, root_one f.1 g⟩
theorem one_Bd (k : Nat) : Bd k 1065353216 := ⟨const_1.1, by
    rw [const_1.2.1]
    have := P2_mono (show (0 : Int) ≤ k by omega)
    rw [P2_zero] at this
    constructor <;> grind⟩
def nxF (n s e w : Nat) : Nat := divF (negF (gradF e w)) (lenF n s e w)
def nyF (n s e w : Nat) : Nat := divF (negF (gradF s n)) (lenF n s e w)
def nzF (n s e w : Nat) : Nat := divF 1065353216 (lenF n s e w)
theorem div_one {k x y : Nat} (hx : Bd k x) (hy : single.fin y) (h1 : 1 ≤ single.V y) (hk : k ≤ 100) : Bd k (divF x y) := by
  have := Bd.div (j := 0) hx hy (by rw [show (-((0 : Nat) : Int)) = 0 from rfl, P2_zero]; exact h1) (by omega)
  exact this
theorem normal_bd {n s e w : Nat} (hn : Bd 20 n) (hs : Bd 20 s) (he : Bd 20 e) (hw : Bd 20 w) : Bd 20 (negF (gradF e w)) ∧ Bd 20 (negF (gradF s n)) ∧ Bd 20 (nxF n s e w) ∧ Bd 20 (nyF n s e w) ∧ Bd 0 (nzF n s e w) := by
  obtain ⟨_, a⟩ := grad_bd he hw (by omega)
  obtain ⟨_, b⟩ := grad_bd hs hn (by omega)
  obtain ⟨_, _, _, _, _, h1, h2⟩ := slope_bd hn hs he hw
  exact ⟨a.neg (gradF_lt _ _), b.neg (gradF_lt _ _), div_one (a.neg (gradF_lt _ _)) h1.1 h2 (by omega), div_one (b.neg (gradF_lt _ _)) h1.1 h2 (by omega), div_one (one_Bd 0) h1.1 h2 (by omega)⟩

/-- how much light falls on a cell -/
def shade1 (a b c n s e w : Nat) : Nat := addF (addF (mulF (nxF n s e w) a) (mulF (nyF n s e w) b)) (mulF (nzF n s e w) c)
def shade2 (a b c m n s e w : Nat) : Nat := divF (shade1 a b c n s e w) m
theorem shade_bd {a b c m n s e w : Nat} (ha : Bd 10 a) (hb : Bd 10 b) (hc : Bd 10 c) (hm : single.fin m) (hm1 : 1 ≤ single.V m) (hn : Bd 20 n) (hs : Bd 20 s) (he : Bd 20 e) (hw : Bd 20 w) :
    Bd 30 (mulF (nxF n s e w) a) ∧ Bd 30 (mulF (nyF n s e w) b) ∧ Bd 31 (addF (mulF (nxF n s e w) a) (mulF (nyF n s e w) b)) ∧ Bd 10 (mulF (nzF n s e w) c) ∧ Bd 32 (shade1 a b c n s e w) ∧ Bd 32 (shade2 a b c m n s e w) := by
  obtain ⟨_, _, h1, h2, h3⟩ := normal_bd hn hs he hw
  have x := h1.mul ha (by omega)
  have y := h2.mul hb (by omega)
  have z := h3.mul hc (by omega)
  have xy := x.add y (by omega)
  have xyz := xy.add (z.mono (show 0 + 10 ≤ 30 + 1 by omega)) (by omega)
  exact ⟨x, y, xy, z, xyz, div_one xyz hm hm1 (by omega)⟩
end Format
end Ieee

namespace Ieee
namespace Format
open Go

theorem cut_zero (neg : Bool) (n drop : Nat) : Toward.zero.cut neg n drop = n / 2 ^ drop := by
  unfold Toward.cut
  by_cases h : drop ≤ n.log2 + 2
  · rw [Nat.min_eq_left h, Nat.one_shiftLeft]
    rfl
  · have h1 : n < 2 ^ (n.log2 + 1) := Nat.lt_log2_self
    have h2 : 2 ^ (n.log2 + 2) ≤ 2 ^ drop := Nat.pow_le_pow_right (by omega) (by omega)
    rw [Nat.min_eq_right (by omega), Nat.one_shiftLeft]
    have e : 2 ^ (n.log2 + 2) = 2 * 2 ^ (n.log2 + 1) := by rw [Nat.pow_succ]; omega
    have a1 : n / 2 ^ (n.log2 + 2) = 0 := Nat.div_eq_of_lt (by omega)
    have b1 : n / 2 ^ drop = 0 := Nat.div_eq_of_lt (by omega)
    simp only [a1, b1]
    rfl

theorem int_of_sg {s : Bool} {c : Nat} {z : Int} (h : sg s * (c : Rat) = (z : Rat)) : signed s c 0 = z := by
  unfold signed
  simp only [Nat.shiftLeft_zero]
  cases s
  · simp only [sg, Bool.false_eq_true, if_false, Rat.one_mul] at h ⊢
    have : ((c : Int) : Rat) = (z : Rat) := by rw [Rat.intCast_natCast]; exact h
    exact Rat.intCast_inj.1 this
  · simp only [sg, if_true] at h ⊢
    have : ((-(c : Int) : Int) : Rat) = (z : Rat) := by rw [Rat.intCast_neg, Rat.intCast_natCast]; grind
    exact Rat.intCast_inj.1 this

/-- a single that is a whole number, made an int -/
theorem whole_int {x : Nat} {z : Int} (hx : single.fin x) (hz : single.V x = (z : Rat)) (h1 : -9223372036854775808 ≤ z) (h2 : z ≤ 9223372036854775807) : floatToIntVal .f32 x .i64 = some z := by
  have hd : FloatKind.decode .f32 x = .number (single.sgn x) (single.rmag (single.rung x)) (single.rplace (single.rung x)) := single.read_fin hx
  have hV := single.V_read x
  rw [hz] at hV
  unfold floatToIntVal
  rw [hd]
  generalize single.rmag (single.rung x) = m at *
  generalize single.rplace (single.rung x) = i at *
  generalize single.sgn x = s at *
  have ht : Datum.toInt .zero (.number s m i) = some (signed s (Toward.zero.cut s (m <<< i.toNat) (-i).toNat) 0) := rfl
  rw [ht, cut_zero]
  have hc : sg s * ((m <<< i.toNat / 2 ^ (-i).toNat : Nat) : Rat) = (z : Rat) := by
    by_cases hi : 0 ≤ i
    · obtain ⟨j, rfl⟩ := Int.eq_ofNat_of_zero_le hi
      rw [show (-(j : Int)).toNat = 0 by omega, Int.toNat_natCast, Nat.pow_zero, Nat.div_one, Nat.shiftLeft_eq, Rat.natCast_mul, ← P2_nat]
      exact hV.symm
    · obtain ⟨d, hd⟩ : ∃ d : Nat, (-i).toNat = d := ⟨_, rfl⟩
      have hi2 : i = -(d : Int) := by omega
      rw [show i.toNat = 0 by omega, hd, Nat.shiftLeft_zero]
      -- m = |z| * 2^d
      have e1 : (m : Rat) = ((z.natAbs * 2 ^ d : Nat) : Rat) := by
        have hz2 : sg s * (z : Rat) = (m : Rat) * P2 i := by rw [hV, ← Rat.mul_assoc, sg_sq, Rat.one_mul]
        have hm0 : 0 ≤ (m : Rat) * P2 i := Rat.mul_nonneg Rat.natCast_nonneg (Rat.le_of_lt (P2_pos i))
        have ha : ((z.natAbs : Nat) : Rat) = (m : Rat) * P2 i := by
          rw [← hz2] at hm0 ⊢
          cases s
          · simp only [sg, Bool.false_eq_true, if_false, Rat.one_mul] at hm0 ⊢
            have := Rat.intCast_nonneg.1 hm0
            rw [← Rat.intCast_natCast, show (z.natAbs : Int) = z by omega]
          · simp only [sg, if_true] at hm0 ⊢
            have : 0 ≤ ((-z : Int) : Rat) := by rw [Rat.intCast_neg]; grind
            have := Rat.intCast_nonneg.1 this
            rw [← Rat.intCast_natCast, show (z.natAbs : Int) = -z by omega, Rat.intCast_neg]; grind
        rw [Rat.natCast_mul, ha, ← P2_nat, Rat.mul_assoc, ← P2_add, hi2, show -(d : Int) + d = 0 by omega, P2_zero, Rat.mul_one]
      have e2 : m = z.natAbs * 2 ^ d := Rat.natCast_inj.1 e1
      rw [e2, Nat.mul_div_cancel _ (Nat.two_pow_pos d)]
      rw [hV, e2, Rat.natCast_mul, ← P2_nat, Rat.mul_assoc, ← P2_add, hi2, show (d : Int) + -(d : Int) = 0 by omega, P2_zero, Rat.mul_one]
  have := int_of_sg hc
  rw [this]
  simp only
  rw [if_pos]
  exact ⟨h1, h2⟩

/-- what is left above the floor -/
theorem frac_bd {x : Nat} (hx : single.fin x) (hl : x < 4294967296) : Bd 0 (subF x (floorF x)) ∧ single.fin (floorF x) := by
  obtain ⟨X, s, m, i, _, _, _, hf, _, z, h1, h2, h3⟩ := floor_spec hx hl
  have hr := (subF_spec hx hf).2
  have := hr.bd (k := 0) (by omega) (by rw [h1]; show _ ≤ P2 0; rw [P2_zero]; grind) (by rw [h1]; show -P2 0 ≤ _; rw [P2_zero]; grind)
  exact ⟨this, hf⟩
theorem frac_zero {x : Nat} {n : Int} (hx : single.fin x) (hl : x < 4294967296) (hn : single.V x = (n : Rat)) : single.V (floorF x) = (n : Rat) ∧ single.V (subF x (floorF x)) = 0 := by
  obtain ⟨X, s, m, i, _, _, _, hf, _, z, h1, h2, h3⟩ := floor_spec hx hl
  rw [hn] at h2 h3
  have a : z ≤ n := Rat.intCast_le_intCast.1 h2
  have b : n < z + 1 := by
    have : (n : Rat) < ((z + 1 : Int) : Rat) := by rw [Rat.intCast_add]; exact h3
    exact Rat.intCast_lt_intCast.1 this
  have : z = n := by omega
  subst this
  refine ⟨h1, ?_⟩
  have hr := (subF_spec hx hf).2
  have := hr.exact 0 0 (by omega) (by omega) (by omega) (by omega) (by rw [hn, h1]; simp; grind)
  rw [this.2.1, hn, h1]; grind
end Format
end Ieee
