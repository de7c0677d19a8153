import Derived.Laws.FloatArith
namespace Ieee

/-! ### powers of two -/
def P2 (e : Int) : Rat := (2 : Rat) ^ e

theorem P2_pos (e : Int) : 0 < P2 e := Rat.zpow_pos (by decide)
theorem P2_zero : P2 0 = 1 := Rat.zpow_zero _
theorem P2_succ (e : Int) : P2 (e + 1) = 2 * P2 e := by
  unfold P2; rw [Rat.zpow_add_one (by decide)]; grind
theorem P2_add (a b : Int) : P2 (a + b) = P2 a * P2 b := Rat.zpow_add (by decide) a b
theorem P2_nat (n : Nat) : P2 n = ((2 ^ n : Nat) : Rat) := by
  unfold P2; rw [Rat.zpow_natCast, Rat.natCast_pow]; rfl
theorem P2_le_nat (a : Int) (n : Nat) : P2 a ≤ P2 (a + n) := by
  rw [P2_add, P2_nat]
  have h : (1 : Rat) ≤ ((2 ^ n : Nat) : Rat) := by
    have : 1 ≤ 2 ^ n := Nat.one_le_two_pow
    exact_mod_cast this
  have := Rat.mul_le_mul_of_nonneg_left h (Rat.le_of_lt (P2_pos a))
  grind
theorem P2_mono {a b : Int} (h : a ≤ b) : P2 a ≤ P2 b := by
  have := P2_le_nat a (b - a).toNat
  rwa [show a + ((b - a).toNat : Int) = b from by omega] at this
theorem P2_lt {a b : Int} (h : a < b) : P2 a < P2 b := by
  have h1 := P2_mono (show a + 1 ≤ b from h)
  rw [P2_succ] at h1
  have := P2_pos a
  grind
theorem P2_lt_iff {a b : Int} : P2 a < P2 b ↔ a < b := by
  constructor
  · intro h
    by_cases c : a < b
    · exact c
    · have := P2_mono (show b ≤ a from by omega)
      grind
  · exact P2_lt

/-! ### rungs and what they stand for -/
namespace Format
variable (f : Format)

theorem binade_pos : 0 < f.binade := Nat.two_pow_pos _

def rmag (r : Nat) : Nat := if r < f.binade then r else f.binade + r % f.binade
def rplace (r : Nat) : Int := if r < f.binade then f.leastPlace else f.leastPlace + ((r / f.binade - 1 : Nat) : Int)
def rv (r : Nat) : Rat := (f.rmag r : Rat) * P2 (f.rplace r)

theorem rmag_lt (r : Nat) : f.rmag r < 2 * f.binade := by
  have := f.binade_pos
  have := Nat.mod_lt r f.binade_pos
  unfold rmag; split <;> omega

theorem least_le (r : Nat) : f.leastPlace ≤ f.rplace r := by unfold rplace; split <;> omega

theorem rnormal (r : Nat) : f.rplace r = f.leastPlace ∨ f.binade ≤ f.rmag r := by
  unfold rplace rmag; split
  · exact .inl rfl
  · exact .inr (by omega)

theorem rparts_low {k : Nat} (h : k < 2 * f.binade) : f.rmag k = k ∧ f.rplace k = f.leastPlace := by
  have hb := f.binade_pos
  unfold rmag rplace
  split
  · exact ⟨rfl, rfl⟩
  · rename_i c
    have e : k / f.binade = 1 := by
      rw [Nat.div_eq_iff hb]; omega
    have := Nat.div_add_mod k f.binade
    rw [e] at this ⊢
    exact ⟨by omega, by omega⟩

theorem rparts (l k : Nat) (h : f.binade ≤ k) (h2 : k < 2 * f.binade) :
    f.rmag (l * f.binade + k) = k ∧ f.rplace (l * f.binade + k) = f.leastPlace + (l : Int) := by
  have hb := f.binade_pos
  obtain ⟨t, rfl⟩ : ∃ t, k = f.binade + t := ⟨k - f.binade, by omega⟩
  have c : ¬ l * f.binade + (f.binade + t) < f.binade := by omega
  have e : (l * f.binade + (f.binade + t)) = f.binade * (l + 1) + t := by
    rw [Nat.mul_add, Nat.mul_comm f.binade l]; omega
  have d : (l * f.binade + (f.binade + t)) / f.binade = l + 1 := by
    rw [e, Nat.mul_add_div hb, Nat.div_eq_of_lt (by omega)]
  have m : (l * f.binade + (f.binade + t)) % f.binade = t := by
    rw [e, Nat.mul_add_mod, Nat.mod_eq_of_lt (by omega)]
  unfold rmag rplace
  rw [if_neg c, if_neg c, d, m]
  exact ⟨rfl, by omega⟩

theorem rv_at (l k : Nat) (h : l = 0 ∨ f.binade ≤ k) (h2 : k ≤ 2 * f.binade) :
    f.rv (l * f.binade + k) = (k : Rat) * P2 (f.leastPlace + (l : Int)) := by
  unfold rv
  by_cases c : k = 2 * f.binade
  · subst c
    have e : l * f.binade + 2 * f.binade = (l + 1) * f.binade + f.binade := by
      rw [Nat.add_mul]; omega
    have hb := f.binade_pos
    obtain ⟨a, b⟩ := f.rparts (l + 1) f.binade (Nat.le_refl _) (by omega)
    rw [e, a, b, show f.leastPlace + ((l + 1 : Nat) : Int) = (f.leastPlace + l) + 1 from by omega, P2_succ, Rat.natCast_mul]
    grind
  · rcases h with h | h
    · subst h
      obtain ⟨a, b⟩ := f.rparts_low (k := k) (by omega)
      rw [Nat.zero_mul, Nat.zero_add, a, b]
      simp
    · obtain ⟨a, b⟩ := f.rparts l k h (by omega)
      rw [a, b]

/-- each rung is of this form -/
theorem rung_form (r : Nat) : ∃ l k, r = l * f.binade + k ∧ (l = 0 ∨ f.binade ≤ k) ∧ k < 2 * f.binade := by
  have hb := f.binade_pos
  by_cases c : r < 2 * f.binade
  · exact ⟨0, r, by omega, .inl rfl, c⟩
  · have h := Nat.div_add_mod r f.binade
    have h2 := Nat.mod_lt r hb
    have h3 : 2 ≤ r / f.binade := (Nat.le_div_iff_mul_le hb).2 (by omega)
    refine ⟨r / f.binade - 1, f.binade + r % f.binade, ?_, .inr (by omega), by omega⟩
    obtain ⟨q, hq⟩ : ∃ q, r / f.binade = q + 1 := ⟨r / f.binade - 1, by omega⟩
    rw [hq] at h ⊢
    rw [Nat.mul_comm f.binade, Nat.add_mul] at h
    simp only [Nat.add_sub_cancel]
    omega

theorem rv_zero : f.rv 0 = 0 := by
  have := f.rv_at 0 0 (.inl rfl) (by omega)
  simpa using this

theorem rv_succ (r : Nat) : f.rv (r + 1) = f.rv r + P2 (f.rplace r) := by
  obtain ⟨l, k, rfl, h, h2⟩ := f.rung_form r
  rw [Nat.add_assoc, f.rv_at l (k + 1) (by omega) (by omega), f.rv_at l k h (by omega)]
  have : f.rplace (l * f.binade + k) = f.leastPlace + (l : Int) := by
    rcases h with h | h
    · subst h
      rw [Nat.zero_mul, Nat.zero_add, (f.rparts_low h2).2]; simp
    · exact (f.rparts l k h h2).2
  rw [this, Rat.natCast_add]
  grind

theorem rv_lt_succ (r : Nat) : f.rv r < f.rv (r + 1) := by
  rw [rv_succ]; have := P2_pos (f.rplace r); grind

theorem rv_mono {a b : Nat} (h : a ≤ b) : f.rv a ≤ f.rv b := by
  induction b with
  | zero => rw [show a = 0 by omega]; exact Rat.le_refl
  | succ n ih =>
    by_cases c : a = n + 1
    · rw [c]; exact Rat.le_refl
    · have := ih (by omega); have := f.rv_lt_succ n; grind

theorem rv_lt {a b : Nat} (h : a < b) : f.rv a < f.rv b := by
  have := f.rv_mono (show a + 1 ≤ b from h); have := f.rv_lt_succ a; grind

theorem rv_lt_iff {a b : Nat} : f.rv a < f.rv b ↔ a < b := by
  constructor
  · intro h
    by_cases c : a < b
    · exact c
    · have := f.rv_mono (show b ≤ a by omega); grind
  · exact f.rv_lt

theorem rv_inj {a b : Nat} (h : f.rv a = f.rv b) : a = b := by
  by_cases c : a < b
  · have := f.rv_lt c; grind
  · by_cases d : b < a
    · have := f.rv_lt d; grind
    · omega

theorem rv_nonneg (r : Nat) : 0 ≤ f.rv r := by
  rw [← f.rv_zero]; exact f.rv_mono (Nat.zero_le _)


/-! ### the rung nearest to a number -/
/-- 'r' is the nearest rung to 'v' (of two the even one), where the rungs go on without end -/
def Near (v : Rat) (r : Nat) : Prop :=
  (if r % 2 = 0 then 2 * v ≤ f.rv r + f.rv (r + 1) else 2 * v < f.rv r + f.rv (r + 1)) ∧
  (r = 0 ∨ (if r % 2 = 0 then f.rv (r - 1) + f.rv r ≤ 2 * v else f.rv (r - 1) + f.rv r < 2 * v)) ∧ 0 ≤ v

theorem Near.up {f : Format} {v : Rat} {r : Nat} (h : f.Near v r) : 2 * v ≤ f.rv r + f.rv (r + 1) := by
  have := h.1; split at this <;> grind
theorem Near.down {f : Format} {v : Rat} {r : Nat} (h : f.Near v r) (hr : r ≠ 0) : f.rv (r - 1) + f.rv r ≤ 2 * v := by
  rcases h.2.1 with h | h
  · exact absurd h hr
  · split at h <;> grind

theorem Near.mono {f : Format} {v v' : Rat} {r r' : Nat} (h : f.Near v r) (h' : f.Near v' r') (hv : v ≤ v') : r ≤ r' := by
  by_cases c : r ≤ r'
  · exact c
  · exfalso
    have a := h'.up
    have b := h.down (by omega)
    have m1 : f.rv r' ≤ f.rv (r - 1) := f.rv_mono (by omega)
    have m2 : f.rv (r' + 1) ≤ f.rv r := f.rv_mono (by omega)
    -- all equal
    have e1 : f.rv r' = f.rv (r - 1) := by grind
    have e2 : r' = r - 1 := f.rv_inj e1
    subst e2
    have e3 : r - 1 + 1 = r := by omega
    rw [e3] at a
    have p := h.2.1
    have q := h'.1
    rw [e3] at q
    by_cases ev : r % 2 = 0
    · have od : ¬ (r - 1) % 2 = 0 := by omega
      rw [if_neg od] at q
      grind
    · rw [if_neg ev] at p
      grind

theorem Near.unique {f : Format} {v : Rat} {r r' : Nat} (h : f.Near v r) (h' : f.Near v r') : r = r' :=
  Nat.le_antisymm (h.mono h' Rat.le_refl) (h'.mono h Rat.le_refl)

theorem near_rv (r : Nat) : f.Near (f.rv r) r := by
  have a := f.rv_lt_succ r
  refine ⟨?_, ?_, f.rv_nonneg r⟩
  · split <;> grind
  · by_cases c : r = 0
    · exact .inl c
    · right
      have b : f.rv (r - 1) < f.rv r := f.rv_lt (by omega)
      split <;> grind

theorem Near.le_of {f : Format} {v : Rat} {r b : Nat} (h : f.Near v r) (hv : v ≤ f.rv b) : r ≤ b := h.mono (f.near_rv b) hv
theorem Near.ge_of {f : Format} {v : Rat} {r b : Nat} (h : f.Near v r) (hv : f.rv b ≤ v) : b ≤ r := (f.near_rv b).mono h hv
theorem Near.eq_of {f : Format} {r b : Nat} (h : f.Near (f.rv b) r) : r = b := h.unique (f.near_rv b)

/-- ROUNDING TWICE, first to the finer format, is rounding once where the first rounding does not make a midpoint. -/
theorem near_twice {f g : Format} {v : Rat} {k r s : Nat} (hg : g.Near v k) (hr : f.Near v r) (hs : f.Near (g.rv k) s)
    (hm : ∀ a, ∃ b, 2 * g.rv b = f.rv a + f.rv (a + 1))
    (hbad : ∀ a, 2 * g.rv k = f.rv a + f.rv (a + 1) → v = g.rv k) : s = r := by
  refine hs.unique ⟨?_, ?_, g.rv_nonneg k⟩
  · obtain ⟨b, hb⟩ := hm r
    have up := hr.1
    have le : g.rv k ≤ g.rv b := g.rv_mono (hg.le_of (by have := hr.up; grind))
    have bad := hbad r
    split at up
    · rw [if_pos ‹_›]; grind
    · rw [if_neg ‹_›]
      by_cases e : 2 * g.rv k = f.rv r + f.rv (r + 1)
      · have := bad e; grind
      · grind
  · by_cases c : r = 0
    · exact .inl c
    · right
      have dn := hr.2.1
      have dn' := hr.down c
      obtain ⟨b, hb⟩ := hm (r - 1)
      have e3 : r - 1 + 1 = r := by omega
      rw [e3] at hb
      have le : g.rv b ≤ g.rv k := g.rv_mono (hg.ge_of (by grind))
      have bad := hbad (r - 1)
      rw [e3] at bad
      split
      · grind
      · rename_i od
        rw [if_neg od] at dn
        by_cases e : 2 * g.rv k = f.rv (r - 1) + f.rv r
        · have := bad e; grind
        · grind

/-! ### 'nearest' is that rung -/
def rne (num den : Nat) : Nat :=
  num / den + (decide (den < 2 * (num % den)) || (decide (den = 2 * (num % den)) && decide (num / den % 2 = 1))).toNat

theorem cut_even (neg : Bool) (n drop : Nat) : Toward.even.cut neg n drop = rne n (2 ^ drop) := by
  unfold Toward.cut rne
  by_cases h : drop ≤ n.log2 + 2
  · rw [Nat.min_eq_left h, Nat.one_shiftLeft]
    congr 2
  · have h1 : n < 2 ^ (n.log2 + 1) := Nat.lt_log2_self
    have h2 : 2 ^ (n.log2 + 2) ≤ 2 ^ drop := Nat.pow_le_pow_right (by omega) (by omega)
    rw [Nat.min_eq_right (by omega), Nat.one_shiftLeft]
    have e : 2 ^ (n.log2 + 2) = 2 * 2 ^ (n.log2 + 1) := by rw [Nat.pow_succ]; omega
    have a1 : n / 2 ^ (n.log2 + 2) = 0 := Nat.div_eq_of_lt (by omega)
    have a2 : n % 2 ^ (n.log2 + 2) = n := Nat.mod_eq_of_lt (by omega)
    have b1 : n / 2 ^ drop = 0 := Nat.div_eq_of_lt (by omega)
    have b2 : n % 2 ^ drop = n := Nat.mod_eq_of_lt (by omega)
    simp only [a1, a2, b1, b2]
    have c1 : ¬ 2 ^ (n.log2 + 2) < 2 * n := by omega
    have c2 : ¬ 2 ^ drop < 2 * n := by omega
    simp [c1, c2]

/-- 'rne' is near: twice the number lies between the neighbours' sums; at a tie it is even -/
theorem rne_spec (n d : Nat) (hd : 0 < d) :
    2 * n ≤ (2 * rne n d + 1) * d ∧ 2 * rne n d * d ≤ 2 * n + d ∧
    (2 * n = (2 * rne n d + 1) * d → rne n d % 2 = 0) ∧ (2 * rne n d * d = 2 * n + d → rne n d % 2 = 0) := by
  have e := Nat.div_add_mod n d
  have l := Nat.mod_lt n hd
  unfold rne
  generalize n / d = q at *
  generalize n % d = r at *
  have c : d * q = q * d := Nat.mul_comm _ _
  subst e
  by_cases h1 : d < 2 * r
  · simp only [h1, decide_true, Bool.true_or, Bool.toNat_true]
    refine ⟨by grind, by grind, ?_, ?_⟩ <;> intro h
    · grind
    · grind
  · by_cases h2 : d = 2 * r
    · by_cases h3 : q % 2 = 1
      · simp only [← h2, h3, Nat.lt_irrefl, decide_false, decide_true, Bool.false_or, Bool.true_and, Bool.toNat_true]
        refine ⟨by grind, by grind, ?_, ?_⟩ <;> intro h <;> omega
      · simp only [← h2, h3, Nat.lt_irrefl, decide_false, decide_true, Bool.false_or, Bool.and_false, Bool.toNat_false]
        refine ⟨by grind, by grind, ?_, ?_⟩ <;> intro h <;> omega
    · simp only [h1, h2, decide_false, Bool.false_or, Bool.false_and, Bool.toNat_false]
      refine ⟨by grind, by grind, ?_, ?_⟩ <;> intro h <;> grind


theorem mul_le_cancel {a b c : Rat} (hc : 0 < c) (h : a * c ≤ b * c) : a ≤ b := Rat.le_of_mul_le_mul_right h hc

/-- 'N / D' units of 'P2 last': the rung that 'rne' gives is the nearest. -/
theorem near_of_rne (hf : 1 ≤ f.fractionBits) (v : Rat) (N D l : Nat) (hD : 0 < D) (hv : v * (D : Rat) = (N : Rat) * P2 (f.leastPlace + l))
    (hu : N < 2 * f.binade * D) (hl : l = 0 ∨ f.binade * D ≤ N) : f.Near v (l * f.binade + rne N D) := by
  obtain ⟨s1, s2, t1, t2⟩ := rne_spec N D hD
  generalize rne N D = K at *
  have hb := f.binade_pos
  have hB2 : f.binade % 2 = 0 := by
    unfold binade
    obtain ⟨c, hc⟩ : ∃ c, f.fractionBits = c + 1 := ⟨f.fractionBits - 1, by omega⟩
    rw [hc, Nat.pow_succ]; omega
  have par : (l * f.binade + K) % 2 = K % 2 := by
    have : (l * f.binade) % 2 = 0 := by rw [Nat.mul_mod, hB2]; simp
    omega
  have K2 : K ≤ 2 * f.binade := by
    have h : 2 * K * D < (4 * f.binade + 1) * D := by
      have : (4 * f.binade + 1) * D = 2 * (2 * f.binade * D) + D := by grind
      omega
    have := Nat.lt_of_mul_lt_mul_right h
    omega
  have K1 : l = 0 ∨ f.binade ≤ K := by
    rcases hl with hl | hl
    · exact .inl hl
    · right
      have h : 2 * f.binade * D ≤ (2 * K + 1) * D := by
        have : 2 * f.binade * D = 2 * (f.binade * D) := by grind
        omega
      have := Nat.le_of_mul_le_mul_right h hD
      omega
  have hDr : (0 : Rat) < (D : Rat) := Rat.natCast_pos.2 hD
  have hP := P2_pos (f.leastPlace + l)
  have er := f.rv_at l K K1 K2
  have c1 : 2 * (N : Rat) ≤ (2 * (K : Rat) + 1) * (D : Rat) := by exact_mod_cast s1
  have c2 : 2 * (K : Rat) * (D : Rat) ≤ 2 * (N : Rat) + (D : Rat) := by exact_mod_cast s2
  have up : 2 * v ≤ (2 * (K : Rat) + 1) * P2 (f.leastPlace + l) := by
    refine mul_le_cancel hDr ?_
    have := Rat.mul_le_mul_of_nonneg_right c1 (Rat.le_of_lt hP)
    grind
  have dn : (2 * (K : Rat) - 1) * P2 (f.leastPlace + l) ≤ 2 * v := by
    refine mul_le_cancel hDr ?_
    have := Rat.mul_le_mul_of_nonneg_right c2 (Rat.le_of_lt hP)
    grind
  have v0 : 0 ≤ v := by
    refine mul_le_cancel hDr ?_
    have : (0 : Rat) ≤ (N : Rat) * P2 (f.leastPlace + l) := Rat.mul_nonneg (Rat.natCast_nonneg) (Rat.le_of_lt hP)
    grind
  have tie1 : 2 * v = (2 * (K : Rat) + 1) * P2 (f.leastPlace + l) → K % 2 = 0 := by
    intro h
    refine t1 ?_
    have h2 : 2 * (N : Rat) = (2 * (K : Rat) + 1) * (D : Rat) := by
      have : (2 * (N : Rat)) * P2 (f.leastPlace + l) = ((2 * (K : Rat) + 1) * (D : Rat)) * P2 (f.leastPlace + l) := by grind
      have ne : P2 (f.leastPlace + l) ≠ 0 := by grind
      grind
    exact_mod_cast h2
  have tie2 : (2 * (K : Rat) - 1) * P2 (f.leastPlace + l) = 2 * v → K % 2 = 0 := by
    intro h
    refine t2 ?_
    have h2 : 2 * (K : Rat) * (D : Rat) = 2 * (N : Rat) + (D : Rat) := by
      have : (2 * (K : Rat) * (D : Rat)) * P2 (f.leastPlace + l) = (2 * (N : Rat) + (D : Rat)) * P2 (f.leastPlace + l) := by grind
      have ne : P2 (f.leastPlace + l) ≠ 0 := by grind
      grind
    exact_mod_cast h2
  refine ⟨?_, ?_, v0⟩
  · rw [par, er]
    by_cases cK : K = 2 * f.binade
    · have hp : f.rv (l * f.binade + K + 1) = f.rv (l * f.binade + K) + P2 (f.leastPlace + l + 1) := by
        rw [f.rv_succ]
        congr 2
        rw [cK, show l * f.binade + 2 * f.binade = (l + 1) * f.binade + f.binade from by rw [Nat.add_mul]; omega,
          (f.rparts (l + 1) f.binade (Nat.le_refl _) (by omega)).2]
        omega
      rw [hp, er, P2_succ, if_pos (by omega)]
      grind
    · have hp := f.rv_at l (K + 1) (by omega) (by omega)
      rw [Nat.add_assoc, hp, Rat.natCast_add]
      split
      · grind
      · by_cases e : 2 * v = (2 * (K : Rat) + 1) * P2 (f.leastPlace + l)
        · exact absurd (tie1 e) ‹_›
        · grind
  · by_cases c0 : l * f.binade + K = 0
    · exact .inl c0
    · right
      rw [par, er]
      by_cases cK : l = 0 ∨ f.binade < K
      · have k0 : K ≠ 0 := by
          rcases cK with h | h
          · subst h; omega
          · omega
        have hp := f.rv_at l (K - 1) (by omega) (by omega)
        rw [show l * f.binade + K - 1 = l * f.binade + (K - 1) from by omega, hp]
        have cc : (((K - 1 : Nat)) : Rat) = (K : Rat) - 1 := by
          obtain ⟨j, rfl⟩ : ∃ j, K = j + 1 := ⟨K - 1, by omega⟩
          rw [Nat.add_sub_cancel, Rat.natCast_add]; grind
        rw [cc]
        split
        · grind
        · by_cases e : (2 * (K : Rat) - 1) * P2 (f.leastPlace + l) = 2 * v
          · exact absurd (tie2 e) ‹_›
          · grind
      · have eK : K = f.binade := by omega
        have hlt : f.rv (l * f.binade + K - 1) < f.rv (l * f.binade + K) := f.rv_lt (by omega)
        have hge : (K : Rat) * P2 (f.leastPlace + l) ≤ v := by
          refine mul_le_cancel hDr ?_
          have h1 : f.binade * D ≤ N := by omega
          have h2 : (K : Rat) * (D : Rat) ≤ (N : Rat) := by rw [eK]; exact_mod_cast h1
          have := Rat.mul_le_mul_of_nonneg_right h2 (Rat.le_of_lt hP)
          grind
        rw [er] at hlt
        split <;> grind

theorem nearest_near (hf : 1 ≤ f.fractionBits) (neg : Bool) (mag : Nat) (place : Int) :
    ∃ r, f.nearest neg mag place = f.word neg (min r f.infRung) ∧ f.Near ((mag : Rat) * P2 place) r := by
  unfold nearest
  by_cases h0 : mag = 0
  · subst h0
    refine ⟨0, by simp, ?_⟩
    have := f.near_rv 0
    rw [f.rv_zero] at this
    simpa using this
  · rw [if_neg h0]
    dsimp only
    generalize hlast : max (place + mag.log2 - f.fractionBits) f.leastPlace = last
    rw [cut_even, Nat.shiftLeft_eq]
    refine ⟨_, rfl, ?_⟩
    have g1 : 2 ^ mag.log2 ≤ mag := Nat.log2_self_le h0
    have g2 : mag < 2 ^ (mag.log2 + 1) := Nat.lt_log2_self
    generalize mag.log2 = L at *
    have hl : f.leastPlace + (((last - f.leastPlace).toNat : Nat) : Int) = last := by omega
    refine f.near_of_rne hf _ _ _ _ (Nat.two_pow_pos _) ?_ ?_ ?_
    · rw [hl, Rat.natCast_mul, ← P2_nat, ← P2_nat, Rat.mul_assoc, Rat.mul_assoc, ← P2_add, ← P2_add]
      congr 2; omega
    · unfold binade
      rw [show 2 * 2 ^ f.fractionBits * 2 ^ (last - place).toNat = 2 ^ (f.fractionBits + 1 + (last - place).toNat) from by
        rw [Nat.pow_add, Nat.pow_succ]; grind]
      refine Nat.lt_of_lt_of_le (Nat.mul_lt_mul_of_pos_right g2 (Nat.two_pow_pos _)) ?_
      rw [← Nat.pow_add]
      exact Nat.pow_le_pow_right (by omega) (by omega)
    · by_cases c : last = f.leastPlace
      · left; omega
      · right
        unfold binade
        rw [← Nat.pow_add]
        refine Nat.le_trans ?_ (Nat.mul_le_mul_right _ g1)
        rw [← Nat.pow_add]
        exact Nat.pow_le_pow_right (by omega) (by omega)

end Format
end Ieee
