import Derived.Test.YtgeeaegnohdejaaFloatA
namespace Ieee
namespace Format

theorem single_fb : 1 ≤ single.fractionBits := by decide
theorem double_fb : 1 ≤ double.fractionBits := by decide
theorem single_least : single.leastPlace = -149 := by decide
theorem double_least : double.leastPlace = -1074 := by decide
theorem single_binade : single.binade = 8388608 := by decide
theorem double_binade : double.binade = 4503599627370496 := by decide

/-! ### numbers that a format has -/
/-- a whole number of fewer than 'binade' digits more, at a place that the format has -/
theorem rep (f : Format) (n : Nat) : ∀ (m : Nat) (p : Int), m < 2 * f.binade → (p - f.leastPlace).toNat = n → f.leastPlace ≤ p → ∃ b, f.rv b = (m : Rat) * P2 p := by
  induction n with
  | zero =>
    intro m p hm hn hp
    have : p = f.leastPlace := by omega
    subst this
    refine ⟨0 * f.binade + m, ?_⟩
    rw [f.rv_at 0 m (.inl rfl) (by omega)]; simp
  | succ n ih =>
    intro m p hm hn hp
    by_cases c : f.binade ≤ m
    · refine ⟨(p - f.leastPlace).toNat * f.binade + m, ?_⟩
      rw [f.rv_at _ m (.inr c) (by omega)]
      congr 2; omega
    · obtain ⟨b, hb⟩ := ih (2 * m) (p - 1) (by omega) (by omega) (by omega)
      refine ⟨b, ?_⟩
      rw [hb, Rat.natCast_mul]
      have := P2_succ (p - 1)
      rw [show p - 1 + 1 = p from by omega] at this
      grind

theorem rep' (f : Format) {m : Nat} {p : Int} (hm : m < 2 * f.binade) (hp : f.leastPlace ≤ p) : ∃ b, f.rv b = (m : Rat) * P2 p :=
  f.rep _ m p hm rfl hp

theorem single_in_double (a : Nat) : ∃ b, double.rv b = single.rv a := by
  have := single.rmag_lt a
  have := single.least_le a
  rw [single_binade] at *; rw [single_least] at *
  exact double.rep' (m := single.rmag a) (p := single.rplace a) (by rw [double_binade]; omega) (by rw [double_least]; omega)

/-- a midpoint: the digits of it -/
theorem mid_form (f : Format) (a : Nat) : f.rv a + f.rv (a + 1) = 2 * (((2 * f.rmag a + 1 : Nat) : Rat) * P2 (f.rplace a - 1)) := by
  rw [f.rv_succ]
  have := P2_succ (f.rplace a - 1)
  rw [show f.rplace a - 1 + 1 = f.rplace a from by omega] at this
  unfold rv
  rw [Rat.natCast_add, Rat.natCast_mul]
  grind

theorem single_mid_in_double (a : Nat) : ∃ b, 2 * double.rv b = single.rv a + single.rv (a + 1) := by
  have := single.rmag_lt a
  have := single.least_le a
  rw [single_binade] at *; rw [single_least] at *
  obtain ⟨b, hb⟩ := double.rep' (m := 2 * single.rmag a + 1) (p := single.rplace a - 1) (by rw [double_binade]; omega) (by rw [double_least]; omega)
  exact ⟨b, by rw [hb, single.mid_form]⟩

/-! ### how far the nearest is -/
theorem rplace_mono (f : Format) {a b : Nat} (h : a ≤ b) : f.rplace a ≤ f.rplace b := by
  unfold rplace
  have hb := f.binade_pos
  have : a / f.binade ≤ b / f.binade := Nat.div_le_div_right h
  split <;> split <;> omega

theorem Near.off {f : Format} {v : Rat} {k : Nat} (h : f.Near v k) : 2 * v ≤ 2 * f.rv k + P2 (f.rplace k) ∧ 2 * f.rv k ≤ 2 * v + P2 (f.rplace k) := by
  have a := h.up
  rw [f.rv_succ] at a
  refine ⟨by grind, ?_⟩
  by_cases c : k = 0
  · subst c; rw [f.rv_zero]; have := h.2.2; have := P2_pos (f.rplace 0); grind
  · have b := h.down c
    have e := f.rv_succ (k - 1)
    rw [show k - 1 + 1 = k from by omega] at e
    have := P2_mono (f.rplace_mono (show k - 1 ≤ k by omega))
    grind

/-! ### multiples of a power of two -/
def Mult (z : Rat) (e : Int) : Prop := ∃ n : Int, z = (n : Rat) * P2 e

theorem Mult.le {z : Rat} {e e' : Int} (h : Mult z e) (he : e' ≤ e) : Mult z e' := by
  obtain ⟨n, rfl⟩ := h
  refine ⟨n * (2 ^ (e - e').toNat : Nat), ?_⟩
  rw [Rat.intCast_mul, Rat.intCast_natCast, ← P2_nat, Rat.mul_assoc, ← P2_add]
  congr 2; omega
theorem Mult.add {y z : Rat} {e : Int} (h : Mult y e) (h' : Mult z e) : Mult (y + z) e := by
  obtain ⟨n, rfl⟩ := h; obtain ⟨m, rfl⟩ := h'
  exact ⟨n + m, by rw [Rat.intCast_add]; grind⟩
theorem Mult.neg {y : Rat} {e : Int} (h : Mult y e) : Mult (-y) e := by
  obtain ⟨n, rfl⟩ := h
  exact ⟨-n, by rw [Rat.intCast_neg]; grind⟩
theorem Mult.sub {y z : Rat} {e : Int} (h : Mult y e) (h' : Mult z e) : Mult (y - z) e := by
  rw [Rat.sub_eq_add_neg]; exact h.add h'.neg
theorem Mult.far {z : Rat} {e : Int} (h : Mult z e) (h0 : z ≠ 0) : P2 e ≤ z ∨ P2 e ≤ -z := by
  obtain ⟨n, rfl⟩ := h
  have hp := P2_pos e
  have hn : n ≠ 0 := by intro c; subst c; simp at h0
  rcases Int.lt_or_gt_of_ne hn with c | c
  · right
    have : (1 : Rat) ≤ ((-n : Int) : Rat) := by exact_mod_cast (show 1 ≤ -n by omega)
    have := Rat.mul_le_mul_of_nonneg_right this (Rat.le_of_lt hp)
    rw [Rat.intCast_neg] at this
    grind
  · left
    have : (1 : Rat) ≤ (n : Rat) := by exact_mod_cast (show 1 ≤ n by omega)
    have := Rat.mul_le_mul_of_nonneg_right this (Rat.le_of_lt hp)
    grind

/-- a number of the format 'single', with its sign -/
def Sing (x : Rat) : Prop := ∃ a, x = single.rv a ∨ x = -single.rv a

theorem Sing.neg {x : Rat} (h : Sing x) : Sing (-x) := by
  obtain ⟨a, h | h⟩ := h
  · exact ⟨a, .inr (by grind)⟩
  · exact ⟨a, .inl (by grind)⟩

theorem Sing.form {x : Rat} (h : Sing x) : ∃ (n : Nat) (p : Int), n < 16777216 ∧ -149 ≤ p ∧ (x = (n : Rat) * P2 p ∨ x = -((n : Rat) * P2 p)) := by
  obtain ⟨a, h⟩ := h
  refine ⟨single.rmag a, single.rplace a, ?_, ?_, h⟩
  · have := single.rmag_lt a; rw [single_binade] at this; omega
  · have := single.least_le a; rw [single_least] at this; omega

theorem Sing.mult {x : Rat} (h : Sing x) : ∃ (p : Int), -149 ≤ p ∧ Mult x p ∧ x < 16777216 * P2 p ∧ -x < 16777216 * P2 p := by
  obtain ⟨n, p, hn, hp, h⟩ := h.form
  have hpp := P2_pos p
  have h1 : (n : Rat) < 16777216 := by exact_mod_cast hn
  have h2 := Rat.mul_lt_mul_of_pos_right h1 hpp
  have h3 : 0 ≤ (n : Rat) * P2 p := Rat.mul_nonneg Rat.natCast_nonneg (Rat.le_of_lt hpp)
  refine ⟨p, hp, ?_, ?_, ?_⟩
  · rcases h with h | h
    · exact ⟨n, h⟩
    · exact ⟨-n, by rw [h, Rat.intCast_neg]; rw [Rat.intCast_natCast]; grind⟩
  · rcases h with h | h <;> rw [h] <;> grind
  · rcases h with h | h <;> rw [h] <;> grind

/-- what stands near a midpoint of the single format, to the double format -/
theorem bad_off {v : Rat} {k a : Nat} (hk : double.Near v k) (hm : 2 * double.rv k = single.rv a + single.rv (a + 1)) :
    2 * v ≤ 2 * double.rv k + P2 (single.rplace a - 28) ∧ 2 * double.rv k ≤ 2 * v + P2 (single.rplace a - 28) := by
  have ⟨o1, o2⟩ := hk.off
  have key : P2 (double.rplace k) ≤ P2 (single.rplace a - 28) := by
    have hl := single.least_le a
    rw [single_least] at hl
    rcases double.rnormal k with c | c
    · rw [c, double_least]; exact P2_mono (by omega)
    · rw [double_binade] at c
      have hA := single.rmag_lt a
      rw [single_binade] at hA
      have h1 : double.rv k = ((2 * single.rmag a + 1 : Nat) : Rat) * P2 (single.rplace a - 1) := by
        have := single.mid_form a; grind
      have h2 : ((2 * single.rmag a + 1 : Nat) : Rat) < ((2 ^ 25 : Nat) : Rat) := by
        exact_mod_cast (show 2 * single.rmag a + 1 < 2 ^ 25 by omega)
      have h3 : double.rv k < P2 (single.rplace a - 1 + 25) := by
        rw [h1, P2_add _ 25, show P2 25 = ((2 ^ 25 : Nat) : Rat) from P2_nat 25, Rat.mul_comm (P2 _)]
        exact Rat.mul_lt_mul_of_pos_right h2 (P2_pos _)
      have h4 : P2 (double.rplace k + 52) ≤ double.rv k := by
        rw [P2_add _ 52, show P2 52 = ((2 ^ 52 : Nat) : Rat) from P2_nat 52, Rat.mul_comm (P2 _)]
        refine Rat.mul_le_mul_of_nonneg_right ?_ (Rat.le_of_lt (P2_pos _))
        exact_mod_cast (show 2 ^ 52 ≤ double.rmag k by omega)
      have h5 : P2 (double.rplace k + 52) < P2 (single.rplace a - 1 + 25) := by grind
      have h6 := P2_lt_iff.1 h5
      exact P2_mono (by omega)
  constructor <;> grind

theorem P2_double (e : Int) : P2 e = 2 * P2 (e - 1) := by
  have := P2_succ (e - 1)
  rwa [show e - 1 + 1 = e from by omega] at this

/-- a single is not near a midpoint of singles -/
theorem sing_mid {x : Rat} (h : Sing x) (a : Nat) : 2 * x + P2 (single.rplace a) ≤ single.rv a + single.rv (a + 1) ∨ single.rv a + single.rv (a + 1) + P2 (single.rplace a) ≤ 2 * x := by
  have e := single.rv_succ a
  obtain ⟨c, hc⟩ := h
  by_cases l : c ≤ a
  · left
    have m := single.rv_mono l
    have n := single.rv_nonneg c
    rcases hc with hc | hc <;> grind
  · have m := single.rv_mono (show a + 1 ≤ c by omega)
    have n := single.rv_nonneg a
    have n' := single.rv_nonneg c
    rcases hc with hc | hc
    · right; grind
    · left; have := P2_pos (single.rplace a); grind

theorem add_bad {x y v : Rat} {k : Nat} (hx : Sing x) (hy : Sing y) (hv : v = x + y) (hk : double.Near v k) :
    ∀ a, 2 * double.rv k = single.rv a + single.rv (a + 1) → v = double.rv k := by
  intro a hm
  by_cases hne : v = double.rv k
  · exact hne
  exfalso
  obtain ⟨o1, o2⟩ := bad_off hk hm
  generalize hl : single.rplace a = l at *
  have mid : Mult (double.rv k) (l - 1) := by
    refine ⟨(2 * single.rmag a + 1 : Nat), ?_⟩
    have := single.mid_form a
    rw [hl] at this
    rw [Rat.intCast_natCast]; grind
  obtain ⟨i, hi, mx, bx, bx'⟩ := hx.mult
  obtain ⟨j, hj, my, by1, by1'⟩ := hy.mult
  have p1 := P2_double (l - 28)
  have p2 := P2_pos (l - 29)
  rw [show l - 28 - 1 = l - 29 from by omega] at p1
  have p0 : P2 l = 16777216 * P2 (l - 24) := by
    have := P2_add (l - 24) 24
    rw [show l - 24 + 24 = l from by omega, show P2 24 = ((2 ^ 24 : Nat) : Rat) from P2_nat 24] at this
    rw [this]; grind
  have p3 : P2 (l - 24) = 16 * P2 (l - 28) := by
    have := P2_add (l - 28) 4
    rw [show l - 28 + 4 = l - 24 from by omega, show P2 4 = ((2 ^ 4 : Nat) : Rat) from P2_nat 4] at this
    rw [this]; grind
  -- one of the two is a multiple of little, and little itself
  have small : ∀ (z u : Rat) (q : Int), Sing u → v = z + u → z < 16777216 * P2 q → -z < 16777216 * P2 q → q ≤ l - 29 → False := by
    intro z u q hu hvz b1 b2 hq
    have m := P2_mono hq
    rcases sing_mid hu a with h | h <;> rw [hl] at h <;> grind
  by_cases ci : i ≤ l - 29
  · exact small x y i hy hv bx bx' ci
  · by_cases cj : j ≤ l - 29
    · exact small y x j hx (by grind) by1 by1' cj
    · have mm : Mult (v - double.rv k) (l - 28) := by
        rw [hv]
        exact ((mx.le (by omega)).add (my.le (by omega))).sub (mid.le (by omega))
      rcases mm.far (by grind) with h | h <;> grind

theorem mul_bad {x y v : Rat} {k : Nat} (hx : Sing x) (hy : Sing y) (hv : v = x * y) (hk : double.Near v k) :
    v = double.rv k := by
  obtain ⟨m, i, hm, hi, hx⟩ := hx.form
  obtain ⟨n, j, hn, hj, hy⟩ := hy.form
  have hb : m * n < 2 * double.binade := by
    rw [double_binade]
    have := Nat.mul_lt_mul_of_lt_of_le hm (Nat.le_of_lt hn) (by omega)
    omega
  obtain ⟨b, hb⟩ := double.rep' (m := m * n) (p := i + j) hb (by rw [double_least]; omega)
  have e : double.rv b = (m : Rat) * P2 i * ((n : Rat) * P2 j) := by rw [hb, P2_add, Rat.natCast_mul]; grind
  have v0 := hk.2.2
  have b0 := double.rv_nonneg b
  have : v = double.rv b := by
    rcases hx with hx | hx <;> rcases hy with hy | hy <;> rw [hx, hy] at hv <;> grind
  rw [this] at hk ⊢
  rw [hk.eq_of]


theorem div_bad {x y v : Rat} {k : Nat} (hx : Sing x) (hy : Sing y) (hy0 : y ≠ 0) (hv : v = x / y ∨ v = -(x / y)) (hk : double.Near v k) :
    ∀ a, 2 * double.rv k = single.rv a + single.rv (a + 1) → v = double.rv k := by
  intro a hm
  by_cases hne : v = double.rv k
  · exact hne
  exfalso
  obtain ⟨o1, o2⟩ := bad_off hk hm
  have v0 := hk.2.2
  obtain ⟨m, i, hmm, hi, hx⟩ := hx.form
  obtain ⟨n, j, hn, hj, hy⟩ := hy.form
  -- v * (n * 2^j) = m * 2^i
  have hpi := P2_pos i
  have hpj := P2_pos j
  have nn : (0 : Rat) ≤ (n : Rat) := Rat.natCast_nonneg
  have mn : (0 : Rat) ≤ (m : Rat) := Rat.natCast_nonneg
  have n0 : n ≠ 0 := by intro c; subst c; apply hy0; rcases hy with h | h <;> rw [h] <;> simp
  have n1 : (0 : Rat) < (n : Rat) := Rat.natCast_pos.2 (by omega)
  have hyp : 0 < (n : Rat) * P2 j := Rat.mul_pos n1 hpj
  have hxp : 0 ≤ (m : Rat) * P2 i := Rat.mul_nonneg mn (Rat.le_of_lt hpi)
  have hq : v * ((n : Rat) * P2 j) = (m : Rat) * P2 i := by
    have e : x / y * y = x := Rat.div_mul_cancel hy0
    generalize x / y = q at *
    have e2 : v * ((n : Rat) * P2 j) = (m : Rat) * P2 i ∨ v * ((n : Rat) * P2 j) = -((m : Rat) * P2 i) := by
      rcases hv with hv | hv <;> rcases hx with hx | hx <;> rcases hy with hy | hy <;> rw [hv] <;> grind
    rcases e2 with e2 | e2
    · exact e2
    · have : 0 ≤ v * ((n : Rat) * P2 j) := Rat.mul_nonneg v0 (Rat.le_of_lt hyp)
      grind
  generalize hl : single.rplace a = l at *
  have hl149 := single.least_le a
  rw [single_least, hl] at hl149
  have midv : double.rv k = ((2 * single.rmag a + 1 : Nat) : Rat) * P2 (l - 1) := by
    have := single.mid_form a
    rw [hl] at this; grind
  have hA := single.rmag_lt a
  rw [single_binade] at hA
  have nlt : (n : Rat) < 16777216 := by exact_mod_cast hn
  have mlt : (m : Rat) < 16777216 := by exact_mod_cast hmm
  have pl := P2_pos (l - 28)
  -- the gap, times n * 2^j, is a multiple
  have diff : (v - double.rv k) * (n : Rat) * P2 j = (m : Rat) * P2 i - (double.rv k * (n : Rat)) * P2 j := by grind
  have p0 : P2 (l - 1) = 134217728 * P2 (l - 28) := by
    have := P2_add (l - 28) 27
    rw [show l - 28 + 27 = l - 1 from by omega, show P2 27 = ((2 ^ 27 : Nat) : Rat) from P2_nat 27] at this
    rw [this]; grind
  have habs : ∀ d : Rat, (d = v - double.rv k ∨ d = double.rv k - v) → 2 * d ≤ P2 (l - 28) := by
    intro d hd; rcases hd with hd | hd <;> grind
  by_cases c : i ≤ j + (l - 1)
  · have mu : Mult ((v - double.rv k) * (n : Rat) * P2 j) i := by
      rw [diff]
      refine Mult.sub ⟨m, by rw [Rat.intCast_natCast]⟩ ?_
      refine Mult.le (e := j + (l - 1)) ⟨((2 * single.rmag a + 1) * n : Nat), ?_⟩ c
      rw [Rat.intCast_natCast, P2_add, midv, Rat.natCast_mul (2 * single.rmag a + 1) n]
      grind
    have ne : (v - double.rv k) * (n : Rat) * P2 j ≠ 0 := by
      intro h
      rcases Rat.mul_eq_zero.1 h with h | h
      · rcases Rat.mul_eq_zero.1 h with h | h <;> grind
      · grind
    -- d * n * P2 j ≥ P2 i > v * n * P2 j / 2^24: so v < 2^24 * d, and the midpoint is far less than it is
    have key : ∀ d : Rat, (d = v - double.rv k ∨ d = double.rv k - v) → P2 i ≤ d * (n : Rat) * P2 j → False := by
      intro d hd h
      have h1 : v * ((n : Rat) * P2 j) ≤ 16777216 * (d * (n : Rat) * P2 j) := by
        rw [hq]
        have := Rat.mul_le_mul_of_nonneg_right (Rat.le_of_lt mlt) (Rat.le_of_lt hpi)
        grind
      have h2 : v * ((n : Rat) * P2 j) ≤ (16777216 * d) * ((n : Rat) * P2 j) := by grind
      have h3 := mul_le_cancel hyp h2
      have h4 := habs d hd
      have h5 : P2 (l - 1) ≤ double.rv k := by
        rw [midv]
        have : (1 : Rat) ≤ ((2 * single.rmag a + 1 : Nat) : Rat) := by exact_mod_cast (show 1 ≤ 2 * single.rmag a + 1 by omega)
        have := Rat.mul_le_mul_of_nonneg_right this (Rat.le_of_lt (P2_pos (l - 1)))
        grind
      rcases hd with hd | hd <;> grind
    rcases mu.far ne with h | h
    · exact key (v - double.rv k) (.inl rfl) h
    · exact key (double.rv k - v) (.inr rfl) (by grind)
  · have mu : Mult ((v - double.rv k) * (n : Rat) * P2 j) (j + (l - 1)) := by
      rw [diff]
      refine Mult.sub (Mult.le (e := i) ⟨m, by rw [Rat.intCast_natCast]⟩ (by omega)) ?_
      refine ⟨((2 * single.rmag a + 1) * n : Nat), ?_⟩
      rw [Rat.intCast_natCast, P2_add, midv, Rat.natCast_mul (2 * single.rmag a + 1) n]
      grind
    have ne : (v - double.rv k) * (n : Rat) * P2 j ≠ 0 := by
      intro h
      rcases Rat.mul_eq_zero.1 h with h | h
      · rcases Rat.mul_eq_zero.1 h with h | h <;> grind
      · grind
    have key : ∀ d : Rat, (d = v - double.rv k ∨ d = double.rv k - v) → P2 (j + (l - 1)) ≤ d * (n : Rat) * P2 j → False := by
      intro d hd h
      rw [P2_add] at h
      have h2 : P2 (l - 1) * P2 j ≤ (d * (n : Rat)) * P2 j := by grind
      have h3 := mul_le_cancel hpj h2
      have h4 := habs d hd
      have h5 : d * (n : Rat) ≤ P2 (l - 28) * 16777216 := by
        have e1 := Rat.mul_le_mul_of_nonneg_right (show d ≤ P2 (l - 28) by grind) nn
        have e2 := Rat.mul_le_mul_of_nonneg_left (Rat.le_of_lt nlt) (Rat.le_of_lt pl)
        grind
      grind
    rcases mu.far ne with h | h
    · exact key (v - double.rv k) (.inl rfl) h
    · exact key (double.rv k - v) (.inr rfl) (by grind)

end Format
end Ieee
