import Derived.Test.YtkmcinibaffpmaaFloatK
namespace Ieee
namespace Format
open Go

def divF (x y : Nat) : Nat := (single.div x y).getD 0
theorem divF_lt (x y : Nat) : divF x y < 4294967296 := some_lt fun r h => single.div_lt h
theorem divF_spec {x y : Nat} (hx : single.fin x) (hy : single.fin y) (h0 : single.V y ≠ 0) : single.div x y = some (divF x y) ∧ single.Rounds (single.V x / single.V y) (single.sgn x ^^ single.sgn y) (divF x y) := by
  obtain ⟨w, h1, h2⟩ := div_rounds single single_fb hx hy h0
  have : divF x y = w := by unfold divF; rw [h1]; rfl
  rw [this]; exact ⟨h1, h2⟩
theorem bits_div {x y : Nat} (hx : single.fin x) (hy : single.fin y) (h0 : single.V y ≠ 0) : floatBits .quo .f32 x y = some (divF x y) := (divF_spec hx hy h0).1

theorem ref_div {x y w : Nat} (hx : single.fin x) (hy : single.fin y) (h0 : single.V y ≠ 0) (hw : single.div x y = some w) (fw : single.fin w) :
    ∃ X Y Z, floatToFloatBits .f32 x .f64 = some X ∧ floatToFloatBits .f32 y .f64 = some Y ∧ double.div X Y = some Z ∧ floatToFloatBits .f64 Z .f32 = some w := by
  obtain ⟨X, a1, a2, a3, a4⟩ := widen hx
  obtain ⟨Y, b1, b2, b3, b4⟩ := widen hy
  obtain ⟨Z, c1, c2⟩ := div_rounds double double_fb a2 b2 (by rw [b3]; exact h0)
  obtain ⟨W, d1, d2⟩ := div_rounds single single_fb hx hy h0
  rw [hw] at d1; cases d1
  rw [a3, b3, a4, b4] at c2
  obtain ⟨s, hs⟩ : ∃ s, s = (single.sgn x ^^ single.sgn y) := ⟨_, rfl⟩
  rw [← hs] at c2 d2
  refine ⟨X, Y, Z, a1, b1, c1, narrow c2 d2 fw fun k hk a hm => ?_⟩
  exact div_bad (x := single.V x) (y := single.V y) sing_V sing_V h0 (by cases s <;> simp [sg] <;> grind) hk a hm
theorem road_div {x y : Nat} (hx : single.fin x) (hy : single.fin y) (h0 : single.V y ≠ 0) (fw : single.fin (divF x y)) :
    ∃ X Y Z, floatToFloatBits .f32 x .f64 = some X ∧ floatToFloatBits .f32 y .f64 = some Y ∧ floatBits .quo .f64 X Y = some Z ∧ floatToFloatBits .f64 Z .f32 = some (divF x y) :=
  ref_div hx hy h0 (divF_spec hx hy h0).1 fw

/-- what a quotient is bounded by -/
theorem div_bound {x y c : Nat} (hx : single.fin x) (hy : single.fin y) (h0 : 0 < single.V y) (fc : single.fin c) (hc : single.sgn c = false)
    (h1 : single.V x ≤ single.V c * single.V y) (h2 : -(single.V c * single.V y) ≤ single.V x) : single.fin (divF x y) ∧ single.V (divF x y) ≤ single.V c ∧ -single.V c ≤ single.V (divF x y) := by
  have hr := (divF_spec hx hy (by intro e; rw [e] at h0; exact absurd h0 (by grind))).2
  have e : single.V x / single.V y * single.V y = single.V x := Rat.div_mul_cancel (by grind)
  have := hr.bound fc hc (mul_le_cancel h0 (by rw [e]; exact h1)) (mul_le_cancel h0 (by rw [e]; grind))
  exact ⟨this.1, this.2.1, this.2.2.1⟩
theorem div_nonneg {x y : Nat} (hx : single.fin x) (hy : single.fin y) (h0 : 0 < single.V y) (fd : single.fin (divF x y)) (h1 : 0 ≤ single.V x) : 0 ≤ single.V (divF x y) := by
  have hr := (divF_spec hx hy (by intro e; rw [e] at h0; exact absurd h0 (by grind))).2
  have e : single.V x / single.V y * single.V y = single.V x := Rat.div_mul_cancel (by grind)
  exact hr.nonneg fd (mul_le_cancel h0 (by rw [e]; grind))
/-- a quotient by what is not less than 2^-j -/
theorem Bd.div {k j x y : Nat} (hx : Bd k x) (fy : single.fin y) (hy : P2 (-(j : Int)) ≤ single.V y) (hk : k + j ≤ 100) : Bd (k + j) (divF x y) := by
  obtain ⟨c, fc, vc, sc⟩ := const_pow (k + j) hk
  have hp := P2_pos (-(j : Int))
  have e : P2 k = single.V c * P2 (-(j : Int)) := by rw [vc, ← P2_add]; congr 1; omega
  have m : single.V c * P2 (-(j : Int)) ≤ single.V c * single.V y := Rat.mul_le_mul_of_nonneg_left hy (by rw [vc]; exact Rat.le_of_lt (P2_pos _))
  obtain ⟨h1, h2, h3⟩ := hx
  have := div_bound h1 fy (by grind) fc sc (by grind) (by grind)
  rw [vc] at this
  exact ⟨this.1, this.2.2, this.2.1⟩

/-- a double made a single -/
theorem narrow_of {Z w : Nat} (hz : double.fin Z) (hr : single.Rounds (double.V Z) (double.sgn Z) w) (fw : single.fin w) : floatToFloatBits .f64 Z .f32 = some w := by
  have hr2 := single.write_rounds single_fb (double.sgn Z) (double.rmag (double.rung Z)) (double.rplace (double.rung Z)) (double.V_read Z).symm
  have he : single.write (.number (double.sgn Z) (double.rmag (double.rung Z)) (double.rplace (double.rung Z))) = w := hr2.unique hr
  have hd : FloatKind.decode .f64 Z = .number (double.sgn Z) (double.rmag (double.rung Z)) (double.rplace (double.rung Z)) := double.read_fin hz
  have he' : FloatKind.encode .f32 (.number (double.sgn Z) (double.rmag (double.rung Z)) (double.rplace (double.rung Z))) = w := he
  unfold floatToFloatBits
  rw [if_neg (by decide), hd]
  dsimp only
  rw [he']
  have hd2 : FloatKind.decode .f32 w = .number _ _ _ := single.read_fin fw
  rw [hd2]; rfl

/-- a double of a magnitude that a single has, made a single -/
theorem narrow_any {Z : Nat} (hz : double.fin Z) (h1 : double.V Z ≤ P2 100) (h2 : -P2 100 ≤ double.V Z) :
    ∃ w, floatToFloatBits .f64 Z .f32 = some w ∧ single.fin w ∧ single.Rounds (double.V Z) (double.sgn Z) w := by
  have hr := single.write_rounds single_fb (double.sgn Z) (double.rmag (double.rung Z)) (double.rplace (double.rung Z)) (double.V_read Z).symm
  have fw := (hr.bd (Nat.le_refl 100) h1 h2).1
  exact ⟨_, narrow_of hz hr fw, fw, hr⟩

theorem Rounds.self {x : Nat} (hx : single.fin x) (hl : x < 4294967296) : single.Rounds (single.V x) (single.sgn x) x := by
  refine ⟨single.rung x, ?_, ?_⟩
  · have h : single.rung x < single.infRung := hx
    rw [Nat.min_eq_left (by omega), single.word_eta (by rw [single_sw]; omega)]
  · unfold V
    rw [← Rat.mul_assoc, sg_sq, Rat.one_mul]
    exact single.near_rv _

theorem f64f32_lt {Z r : Nat} (h : floatToFloatBits .f64 Z .f32 = some r) : r < 4294967296 := by
  unfold floatToFloatBits at h
  rw [if_neg (by decide)] at h
  split at h
  · cases h
  · cases h; exact single.write_lt _
  · split at h
    · cases h
    · cases h; exact single.write_lt _

theorem rootFrom_spec (n : Nat) : ∀ todo root, root * root ≤ n → n < (root + 2 ^ todo) * (root + 2 ^ todo) →
    Datum.rootFrom n todo root * Datum.rootFrom n todo root ≤ n ∧ n < (Datum.rootFrom n todo root + 1) * (Datum.rootFrom n todo root + 1)
  | 0, root, h1, h2 => ⟨h1, h2⟩
  | todo + 1, root, h1, h2 => by
    unfold Datum.rootFrom
    simp only [Nat.shiftLeft_eq, Nat.one_mul]
    split
    · rename_i h
      refine rootFrom_spec n todo _ h ?_
      rw [Nat.pow_succ] at h2
      rw [show root + 2 ^ todo + 2 ^ todo = root + 2 ^ todo * 2 from by omega]; exact h2
    · rename_i h
      exact rootFrom_spec n todo _ h1 (by omega)

theorem whole_root (n : Nat) (hn : n ≠ 0) : ∀ q, q = Datum.rootFrom n (n.log2 / 2 + 1) 0 → q * q ≤ n ∧ n < (q + 1) * (q + 1) := by
  rintro q rfl
  refine rootFrom_spec n _ 0 (by omega) ?_
  rw [Nat.zero_add, ← Nat.pow_add]
  have h := @Nat.lt_log2_self n
  exact Nat.lt_of_lt_of_le h (Nat.pow_le_pow_right (by omega) (by omega))

theorem double_pow_fin {b : Nat} (h : double.rv b ≤ P2 128) : b < double.infRung := by
  have d : double.rv (double.infRung - 1) = (9007199254740991 : Nat) * P2 971 := by
    have := double.rv_at 2045 9007199254740991 (.inr (by decide)) (by decide)
    rw [show 2045 * double.binade + 9007199254740991 = double.infRung - 1 from by decide] at this
    rw [this, double_least]; rfl
  have g : P2 128 < double.rv (double.infRung - 1) := by
    rw [d]
    have := P2_lt (show (128 : Int) < 971 by omega)
    have := P2_pos 971
    have e1 := Rat.mul_le_mul_of_nonneg_right (show ((1 : Nat) : Rat) ≤ ((9007199254740991 : Nat) : Rat) from by exact_mod_cast (show 1 ≤ 9007199254740991 by omega)) (Rat.le_of_lt this)
    have e2 : ((1 : Nat) : Rat) = 1 := rfl
    grind
  have := double.rv_lt_iff.1 (show double.rv b < double.rv (double.infRung - 1) by grind)
  have : 0 < double.infRung := by decide
  omega

theorem sq_le_cancel {a b : Rat} (ha : 0 ≤ a) (hb : 0 ≤ b) (h : a * a ≤ b * b) : a ≤ b := by
  rcases le_or_le a b with h1 | h1
  · exact h1
  · rcases lt_or_eq h1 with h2 | h2
    · exfalso
      have e1 := Rat.mul_le_mul_of_nonneg_left h1 hb
      have e2 : b * a < a * a := Rat.mul_lt_mul_of_pos_right h2 (by grind)
      grind
    · rw [h2]; exact Rat.le_refl

/-- what is found of a whole root -/
structure RootAt (n : Nat) (h : Int) (x v : Rat) : Prop where
  big : 324518553658426726783156020576256 ≤ n
  at_ : x = (n : Rat) * (P2 h * P2 h)
  q : ∃ q : Nat, q * q ≤ n ∧ n < (q + 1) * (q + 1) ∧ (q : Rat) * P2 h ≤ v ∧ v < ((q + 1 : Nat) : Rat) * P2 h ∧ (q * q = n → v = (q : Rat) * P2 h)

theorem RootAt.le {n : Nat} {h : Int} {x v : Rat} (hr : RootAt n h x v) (k : Nat) (e : Int) (hk : k ≤ 16777216) (hx : x ≤ ((k : Rat) * P2 e) * ((k : Rat) * P2 e)) : v ≤ (k : Rat) * P2 e := by
  obtain ⟨big, at_, q, q1, q2, q3, q4, q5⟩ := hr
  have hp := P2_pos h
  have hpp : 0 < P2 h * P2 h := Rat.mul_pos hp hp
  by_cases he : h ≤ e
  · obtain ⟨z, hz⟩ := mult_up k he
    rw [hz] at hx ⊢
    have n1 : (n : Rat) ≤ ((z * z : Nat) : Rat) := by
      rw [at_] at hx
      refine mul_le_cancel hpp ?_
      rw [Rat.natCast_mul]; grind
    have n2 : n ≤ z * z := by exact_mod_cast n1
    by_cases hq : q < z
    · have := Rat.mul_le_mul_of_nonneg_right (show ((q + 1 : Nat) : Rat) ≤ (z : Rat) from by exact_mod_cast hq) (Rat.le_of_lt hp)
      grind
    · have hzq : z * z ≤ q * q := Nat.mul_le_mul (by omega) (by omega)
      have e2 : q * q = n := by omega
      have hq2 : q ≤ z := by
        apply Nat.le_of_not_lt
        intro hc
        have := Nat.mul_lt_mul_of_lt_of_lt hc hc
        omega
      have := Rat.mul_le_mul_of_nonneg_right (show (q : Rat) ≤ (z : Rat) from by exact_mod_cast hq2) (Rat.le_of_lt hp)
      rw [q5 e2]; exact this
  · exfalso
    have c1 := P2_mono (show e ≤ h by omega)
    have k0 : (0 : Rat) ≤ (k : Rat) := Rat.natCast_nonneg
    have a1 := Rat.mul_le_mul_of_nonneg_left c1 k0
    have a2 := Rat.mul_le_mul_of_nonneg_right (show (k : Rat) ≤ ((16777216 : Nat) : Rat) from by exact_mod_cast hk) (Rat.le_of_lt hp)
    have a0 : 0 ≤ (k : Rat) * P2 e := Rat.mul_nonneg k0 (Rat.le_of_lt (P2_pos e))
    have a3 : (k : Rat) * P2 e ≤ ((16777216 : Nat) : Rat) * P2 h := Rat.le_trans a1 a2
    have a4 := sq_le a0 a3
    have a5 : (((16777216 : Nat) : Rat) * P2 h) * (((16777216 : Nat) : Rat) * P2 h) = ((281474976710656 : Nat) : Rat) * (P2 h * P2 h) := by
      rw [show (281474976710656 : Nat) = 16777216 * 16777216 from rfl, Rat.natCast_mul]; grind
    have a6 : ((281474976710656 : Nat) : Rat) * (P2 h * P2 h) < (n : Rat) * (P2 h * P2 h) := Rat.mul_lt_mul_of_pos_right (by exact_mod_cast (show 281474976710656 < n by omega)) hpp
    grind

theorem RootAt.ge {n : Nat} {h : Int} {x v : Rat} (hr : RootAt n h x v) (k : Nat) (e : Int) (hk : k ≤ 16777216) (hx : ((k : Rat) * P2 e) * ((k : Rat) * P2 e) ≤ x) : (k : Rat) * P2 e ≤ v := by
  obtain ⟨big, at_, q, q1, q2, q3, q4, q5⟩ := hr
  have hp := P2_pos h
  have hpp : 0 < P2 h * P2 h := Rat.mul_pos hp hp
  by_cases he : h ≤ e
  · obtain ⟨z, hz⟩ := mult_up k he
    rw [hz] at hx ⊢
    have n1 : ((z * z : Nat) : Rat) ≤ (n : Rat) := by
      rw [at_] at hx
      refine mul_le_cancel hpp ?_
      rw [Rat.natCast_mul]; grind
    have n2 : z * z ≤ n := by exact_mod_cast n1
    have hq : z ≤ q := by
      apply Nat.le_of_not_lt
      intro hc
      have := Nat.mul_le_mul (show q + 1 ≤ z from hc) (show q + 1 ≤ z from hc)
      omega
    have := Rat.mul_le_mul_of_nonneg_right (show (z : Rat) ≤ (q : Rat) from by exact_mod_cast hq) (Rat.le_of_lt hp)
    grind
  · have hq : 16777216 ≤ q := by
      apply Nat.le_of_not_lt
      intro hc
      have := Nat.mul_le_mul (show q + 1 ≤ 16777216 from hc) (show q + 1 ≤ 16777216 from hc)
      omega
    have c1 := P2_mono (show e ≤ h by omega)
    have k0 : (0 : Rat) ≤ (k : Rat) := Rat.natCast_nonneg
    have a1 := Rat.mul_le_mul_of_nonneg_left c1 k0
    have a2 := Rat.mul_le_mul_of_nonneg_right (show (k : Rat) ≤ (q : Rat) from by exact_mod_cast (show k ≤ q by omega)) (Rat.le_of_lt hp)
    grind

/-- the square root of a double: a double within the bounds that the number's root has -/
theorem sqrt_spec {X : Nat} (hX : double.fin X) (h0 : 0 ≤ double.V X) (hb : double.V X ≤ P2 128) :
    ∃ Z, double.sqrt X = some Z ∧ double.fin Z ∧ 0 ≤ double.V Z ∧ double.V Z ≤ P2 64 ∧
      (∀ a, double.V X ≤ single.rv a * single.rv a → double.V Z ≤ single.rv a) ∧
      (∀ a, single.rv a * single.rv a ≤ double.V X → single.rv a ≤ double.V Z) := by
  have hml := double.rmag_lt (double.rung X)
  have hV := double.V_read X
  unfold sqrt
  rw [double.read_fin hX]
  generalize double.rmag (double.rung X) = m at *
  generalize double.rplace (double.rung X) = i at *
  generalize double.sgn X = s at *
  by_cases hm : m = 0
  · subst hm
    have hV0 : double.V X = 0 := by rw [hV]; simp
    have e : Datum.root (double.fractionBits + 2) (.number s 0 i) = some (.number s 0 i) := by unfold Datum.root; simp
    rw [e]
    have hw : double.write (.number s 0 i) = double.word s 0 := by unfold write nearest; simp
    refine ⟨double.word s 0, by rw [← hw]; rfl, ?_, ?_⟩
    · cases s <;> decide
    · have z : double.V (double.word s 0) = 0 := by
        have := double.V_word (s := s) (r := 0) (by decide)
        rw [Nat.zero_min] at this
        rw [this, rv_zero]; simp
      rw [z, hV0]
      refine ⟨Rat.le_refl, Rat.le_of_lt (P2_pos 64), fun a _ => single.rv_nonneg a, fun a h => ?_⟩
      exact sq_le_cancel (single.rv_nonneg a) Rat.le_refl (by simpa using h)
  · have hm0 : (0 : Rat) < (m : Rat) := by exact_mod_cast (show 0 < m by omega)
    have hmp : 0 < (m : Rat) * P2 i := Rat.mul_pos hm0 (P2_pos i)
    have hs : s = false := by
      cases s
      · rfl
      · exfalso; rw [hV] at h0; simp [sg] at h0; grind
    subst hs
    have hVm : double.V X = (m : Rat) * P2 i := by rw [hV]; simp [sg]
    unfold Datum.root
    simp only [if_neg hm, Bool.false_eq_true, if_false, Option.map_some]
    obtain ⟨more, hmore⟩ : ∃ more, more = 2 * (double.fractionBits + 2) - m.log2 + ((i - ((2 * (double.fractionBits + 2) - m.log2 : Nat) : Int)) % 2).toNat := ⟨_, rfl⟩
    rw [← hmore]
    have hfb : double.fractionBits = 52 := rfl
    rw [hfb] at hmore
    have hlm : m.log2 ≤ 52 := by
      have : m.log2 < 53 := (Nat.log2_lt hm).2 (by rw [binade_two] at hml; exact hml)
      omega
    have hmore2 : 108 ≤ m.log2 + more := by omega
    have heven : (i - more) % 2 = 0 := by omega
    obtain ⟨h, hh⟩ : ∃ h, h = (i - more) / 2 := ⟨_, rfl⟩
    have hi : i = h + h + more := by omega
    rw [← hh]
    have big : 324518553658426726783156020576256 ≤ m <<< more := by
      rw [Nat.shiftLeft_eq]
      have g2 : 2 ^ m.log2 ≤ m := Nat.log2_self_le hm
      calc 324518553658426726783156020576256 = 2 ^ 108 := by decide
        _ ≤ 2 ^ (m.log2 + more) := Nat.pow_le_pow_right (by omega) hmore2
        _ = 2 ^ m.log2 * 2 ^ more := Nat.pow_add ..
        _ ≤ m * 2 ^ more := Nat.mul_le_mul_right _ g2
    have hat : double.V X = ((m <<< more : Nat) : Rat) * (P2 h * P2 h) := by
      rw [hVm, hi, P2_add, P2_add, Nat.shiftLeft_eq, Rat.natCast_mul, P2_nat]; grind
    generalize m <<< more = n at *
    obtain ⟨q1, q2⟩ := whole_root n (by omega) _ rfl
    generalize Datum.rootFrom n (n.log2 / 2 + 1) 0 = q at *
    have hpp := P2_double h
    have hp0 := P2_pos (h - 1)
    have hr := double.write_rounds double_fb false (2 * q + (q * q != n).toNat) (h - 1) (x := ((2 * q + (q * q != n).toNat : Nat) : Rat) * P2 (h - 1)) (by simp [sg])
    generalize double.write (.number false (2 * q + (q * q != n).toNat) (h - 1)) = Z at *
    have hRA : RootAt n h (double.V X) (((2 * q + (q * q != n).toNat : Nat) : Rat) * P2 (h - 1)) := by
      refine ⟨big, hat, q, q1, q2, ?_, ?_, ?_⟩
      · by_cases hc : q * q = n
        · have t : (q * q != n).toNat = 0 := by simp [hc]
          rw [t, Nat.add_zero, Rat.natCast_mul, hpp]; grind
        · have t : (q * q != n).toNat = 1 := by simp [hc]
          rw [t, Rat.natCast_add, Rat.natCast_mul, hpp]; grind
      · by_cases hc : q * q = n
        · have t : (q * q != n).toNat = 0 := by simp [hc]
          rw [t, Nat.add_zero, Rat.natCast_mul, Rat.natCast_add, hpp]; grind
        · have t : (q * q != n).toNat = 1 := by simp [hc]
          rw [t, Rat.natCast_add, Rat.natCast_mul, Rat.natCast_add, hpp]; grind
      · intro hc
        have t : (q * q != n).toNat = 0 := by simp [hc]
        rw [t, Nat.add_zero, Rat.natCast_mul, hpp]; grind
    have hv0 : 0 ≤ ((2 * q + (q * q != n).toNat : Nat) : Rat) * P2 (h - 1) := Rat.mul_nonneg Rat.natCast_nonneg (Rat.le_of_lt hp0)
    generalize ((2 * q + (q * q != n).toNat : Nat) : Rat) * P2 (h - 1) = v at *
    obtain ⟨r, rfl, hN⟩ := hr
    have hN' : double.Near v r := by simpa [sg] using hN
    clear hN
    have up : ∀ a, double.V X ≤ single.rv a * single.rv a → ∃ b, double.rv b = single.rv a ∧ r ≤ b := by
      intro a ha
      obtain ⟨b, hb⟩ := single_in_double a
      refine ⟨b, hb, hN'.le_of ?_⟩
      rw [hb]
      exact hRA.le (single.rmag a) (single.rplace a) (by have := single.rmag_lt a; rw [single_binade] at this; omega) ha
    have dn : ∀ a, single.rv a * single.rv a ≤ double.V X → ∃ b, double.rv b = single.rv a ∧ b ≤ r := by
      intro a ha
      obtain ⟨b, hb⟩ := single_in_double a
      refine ⟨b, hb, hN'.ge_of ?_⟩
      rw [hb]
      exact hRA.ge (single.rmag a) (single.rplace a) (by have := single.rmag_lt a; rw [single_binade] at this; omega) ha
    obtain ⟨c, fc, vc, sc⟩ := const_pow 64 (by omega)
    have vc' : single.rv (single.rung c) = P2 64 := by rw [V_pos_word sc] at vc; exact vc
    obtain ⟨b, hb1, hb2⟩ := up (single.rung c) (by rw [vc', ← P2_add]; exact hb)
    have hbl : b < double.infRung := double_pow_fin (by rw [hb1, vc']; exact P2_mono (by omega))
    have lt : r < double.infRung := by omega
    have vz : double.V (double.word false (min r double.infRung)) = double.rv r := by rw [double.V_word lt]; simp [sg]
    refine ⟨_, rfl, (double.fin_word_iff _ _).2 lt, ?_, ?_, fun a ha => ?_, fun a ha => ?_⟩
    · rw [vz]; exact double.rv_nonneg r
    · rw [vz, ← vc', ← hb1]; exact double.rv_mono hb2
    · obtain ⟨b, hb, hle⟩ := up a ha
      rw [vz, ← hb]; exact double.rv_mono hle
    · obtain ⟨b, hb, hle⟩ := dn a ha
      rw [vz, ← hb]; exact double.rv_mono hle

/-- the root of a single, by way of a double -/
def rootF (x : Nat) : Nat := ((floatToFloatBits .f32 x .f64).bind fun X => (double.sqrt X).bind fun Z => floatToFloatBits .f64 Z .f32).getD 0

theorem root_spec {x : Nat} (hx : single.fin x) (h0 : 0 ≤ single.V x) :
    ∃ X Z, floatToFloatBits .f32 x .f64 = some X ∧ double.sqrt X = some Z ∧ floatToFloatBits .f64 Z .f32 = some (rootF x) ∧ single.fin (rootF x) ∧ 0 ≤ single.V (rootF x) ∧
      (∀ c, single.fin c → single.sgn c = false → single.V x ≤ single.V c * single.V c → single.V (rootF x) ≤ single.V c) ∧
      (∀ c, single.fin c → single.sgn c = false → single.V c * single.V c ≤ single.V x → single.V c ≤ single.V (rootF x)) := by
  obtain ⟨X, a1, a2, a3, a4⟩ := widen hx
  have hm : single.V x ≤ P2 128 := by
    have := single.rv_mono (Nat.le_of_lt hx)
    rw [rv_inf] at this
    unfold V
    have p := single.rv_nonneg (single.rung x)
    cases single.sgn x <;> simp [sg] <;> grind
  rw [← a3] at h0 hm
  obtain ⟨Z, b1, b2, b3, b4, b5, b6⟩ := sqrt_spec a2 h0 hm
  have := P2_mono (show (64 : Int) ≤ 100 by omega)
  have := P2_pos 100
  obtain ⟨w, c1, c2, c3⟩ := narrow_any b2 (by grind) (by grind)
  have e : rootF x = w := by unfold rootF; rw [a1]; simp only [Option.bind_some]; rw [b1]; simp only [Option.bind_some]; rw [c1]; rfl
  have hw0 := c3.nonneg c2 b3
  refine ⟨X, Z, a1, b1, by rw [e]; exact c1, by rw [e]; exact c2, by rw [e]; exact hw0, fun c fc sc h => ?_, fun c fc sc h => ?_⟩
  · rw [e]
    have := b5 (single.rung c) (by rw [← V_pos_word sc, a3]; exact h)
    rw [← V_pos_word sc] at this
    exact (c3.bound fc sc this (by grind)).2.1
  · rw [e]
    have := b6 (single.rung c) (by rw [← V_pos_word sc, a3]; exact h)
    rw [← V_pos_word sc] at this
    have n := single.rv_nonneg (single.rung c)
    rw [← V_pos_word sc] at n
    rcases lt_or_eq n with h1 | h1
    · exact c3.ge_const c2 sc h1 this
    · rw [← h1]; exact hw0
theorem rootF_lt (x : Nat) : rootF x < 4294967296 := by
  unfold rootF
  refine some_lt fun r h => ?_
  obtain ⟨X, _, h⟩ := Option.bind_eq_some_iff.1 h
  obtain ⟨Z, _, h⟩ := Option.bind_eq_some_iff.1 h
  exact f64f32_lt h
end Format
end Ieee
