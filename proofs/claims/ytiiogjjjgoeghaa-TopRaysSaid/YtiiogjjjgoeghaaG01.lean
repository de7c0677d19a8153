import Derived.Laws.FloatArith
namespace Ieee

/-! ### powers of two -/
def P2 (e : Int) : Rat := (2 : Rat) ^ e

theorem P2_pos (e : Int) : 0 < P2 e := Rat.zpow_pos (by decide)
theorem P2_zero : P2 0 = 1 := Rat.zpow_zero _
theorem P2_succ (e : Int) : P2 (e + 1) = 2 * P2 e := by
  unfold P2; rw [Rat.zpow_add_one (by decide)]; grind
theorem P2_add (a b : Int) : P2 (a + b) = P2 a * P2 b := Rat.zpow_add (by decide) a b
theorem P2_nat (n : Nat) : P2 n = ((2 ^ n : Nat) : Rat) := by
  unfold P2; rw [Rat.zpow_natCast, Rat.natCast_pow]; rfl
theorem P2_le_nat (a : Int) (n : Nat) : P2 a ≤ P2 (a + n) := by
  rw [P2_add, P2_nat]
  have h : (1 : Rat) ≤ ((2 ^ n : Nat) : Rat) := by
    have : 1 ≤ 2 ^ n := Nat.one_le_two_pow
    exact_mod_cast this
  have := Rat.mul_le_mul_of_nonneg_left h (Rat.le_of_lt (P2_pos a))
  grind
theorem P2_mono {a b : Int} (h : a ≤ b) : P2 a ≤ P2 b := by
  have := P2_le_nat a (b - a).toNat
  rwa [show a + ((b - a).toNat : Int) = b from by omega] at this
theorem P2_lt {a b : Int} (h : a < b) : P2 a < P2 b := by
  have h1 := P2_mono (show a + 1 ≤ b from h)
  rw [P2_succ] at h1
  have := P2_pos a
  grind
theorem P2_lt_iff {a b : Int} : P2 a < P2 b ↔ a < b := by
  constructor
  · intro h
    by_cases c : a < b
    · exact c
    · have := P2_mono (show b ≤ a from by omega)
      grind
  · exact P2_lt

/-! ### rungs and what they stand for -/
namespace Format
variable (f : Format)

theorem binade_pos : 0 < f.binade := Nat.two_pow_pos _

def rmag (r : Nat) : Nat := if r < f.binade then r else f.binade + r % f.binade
def rplace (r : Nat) : Int := if r < f.binade then f.leastPlace else f.leastPlace + ((r / f.binade - 1 : Nat) : Int)
def rv (r : Nat) : Rat := (f.rmag r : Rat) * P2 (f.rplace r)

theorem rmag_lt (r : Nat) : f.rmag r < 2 * f.binade := by
  have := f.binade_pos
  have := Nat.mod_lt r f.binade_pos
  unfold rmag; split <;> omega

theorem least_le (r : Nat) : f.leastPlace ≤ f.rplace r := by unfold rplace; split <;> omega

theorem rnormal (r : Nat) : f.rplace r = f.leastPlace ∨ f.binade ≤ f.rmag r := by
  unfold rplace rmag; split
  · exact .inl rfl
  · exact .inr (by omega)

theorem rparts_low {k : Nat} (h : k < 2 * f.binade) : f.rmag k = k ∧ f.rplace k = f.leastPlace := by
  have hb := f.binade_pos
  unfold rmag rplace
  split
  · exact ⟨rfl, rfl⟩
  · rename_i c
    have e : k / f.binade = 1 := by
      rw [Nat.div_eq_iff hb]; omega
    have := Nat.div_add_mod k f.binade
    rw [e] at this ⊢
    exact ⟨by omega, by omega⟩

theorem rparts (l k : Nat) (h : f.binade ≤ k) (h2 : k < 2 * f.binade) :
    f.rmag (l * f.binade + k) = k ∧ f.rplace (l * f.binade + k) = f.leastPlace + (l : Int) := by
  have hb := f.binade_pos
  obtain ⟨t, rfl⟩ : ∃ t, k = f.binade + t := ⟨k - f.binade, by omega⟩
  have c : ¬ l * f.binade + (f.binade + t) < f.binade := by omega
  have e : (l * f.binade + (f.binade + t)) = f.binade * (l + 1) + t := by
    rw [Nat.mul_add, Nat.mul_comm f.binade l]; omega
  have d : (l * f.binade + (f.binade + t)) / f.binade = l + 1 := by
    rw [e, Nat.mul_add_div hb, Nat.div_eq_of_lt (by omega)]
  have m : (l * f.binade + (f.binade + t)) % f.binade = t := by
    rw [e, Nat.mul_add_mod, Nat.mod_eq_of_lt (by omega)]
  unfold rmag rplace
  rw [if_neg c, if_neg c, d, m]
  exact ⟨rfl, by omega⟩

theorem rv_at (l k : Nat) (h : l = 0 ∨ f.binade ≤ k) (h2 : k ≤ 2 * f.binade) :
    f.rv (l * f.binade + k) = (k : Rat) * P2 (f.leastPlace + (l : Int)) := by
  unfold rv
  by_cases c : k = 2 * f.binade
  · subst c
    have e : l * f.binade + 2 * f.binade = (l + 1) * f.binade + f.binade := by
      rw [Nat.add_mul]; omega
    have hb := f.binade_pos
    obtain ⟨a, b⟩ := f.rparts (l + 1) f.binade (Nat.le_refl _) (by omega)
    rw [e, a, b, show f.leastPlace + ((l + 1 : Nat) : Int) = (f.leastPlace + l) + 1 from by omega, P2_succ, Rat.natCast_mul]
    grind
  · rcases h with h | h
    · subst h
      obtain ⟨a, b⟩ := f.rparts_low (k := k) (by omega)
      rw [Nat.zero_mul, Nat.zero_add, a, b]
      simp
    · obtain ⟨a, b⟩ := f.rparts l k h (by omega)
      rw [a, b]

/-- each rung is of this form -/
theorem rung_form (r : Nat) : ∃ l k, r = l * f.binade + k ∧ (l = 0 ∨ f.binade ≤ k) ∧ k < 2 * f.binade := by
  have hb := f.binade_pos
  by_cases c : r < 2 * f.binade
  · exact ⟨0, r, by omega, .inl rfl, c⟩
  · have h := Nat.div_add_mod r f.binade
    have h2 := Nat.mod_lt r hb
    have h3 : 2 ≤ r / f.binade := (Nat.le_div_iff_mul_le hb).2 (by omega)
    refine ⟨r / f.binade - 1, f.binade + r % f.binade, ?_, .inr (by omega), by omega⟩
    obtain ⟨q, hq⟩ : ∃ q, r / f.binade = q + 1 := ⟨r / f.binade - 1, by omega⟩
    rw [hq] at h ⊢
    rw [Nat.mul_comm f.binade, Nat.add_mul] at h
    simp only [Nat.add_sub_cancel]
    omega

theorem rv_zero : f.rv 0 = 0 := by
  have := f.rv_at 0 0 (.inl rfl) (by omega)
  simpa using this

theorem rv_succ (r : Nat) : f.rv (r + 1) = f.rv r + P2 (f.rplace r) := by
  obtain ⟨l, k, rfl, h, h2⟩ := f.rung_form r
  rw [Nat.add_assoc, f.rv_at l (k + 1) (by omega) (by omega), f.rv_at l k h (by omega)]
  have : f.rplace (l * f.binade + k) = f.leastPlace + (l : Int) := by
    rcases h with h | h
    · subst h
      rw [Nat.zero_mul, Nat.zero_add, (f.rparts_low h2).2]; simp
    · exact (f.rparts l k h h2).2
  rw [this, Rat.natCast_add]
  grind

theorem rv_lt_succ (r : Nat) : f.rv r < f.rv (r + 1) := by
  rw [rv_succ]; have := P2_pos (f.rplace r); grind

theorem rv_mono {a b : Nat} (h : a ≤ b) : f.rv a ≤ f.rv b := by
  induction b with
  | zero => rw [show a = 0 by omega]; exact Rat.le_refl
  | succ n ih =>
    by_cases c : a = n + 1
    · rw [c]; exact Rat.le_refl
    · have := ih (by omega); have := f.rv_lt_succ n; grind

theorem rv_lt {a b : Nat} (h : a < b) : f.rv a < f.rv b := by
  have := f.rv_mono (show a + 1 ≤ b from h); have := f.rv_lt_succ a; grind

theorem rv_lt_iff {a b : Nat} : f.rv a < f.rv b ↔ a < b := by
  constructor
  · intro h
    by_cases c : a < b
    · exact c
    · have := f.rv_mono (show b ≤ a by omega); grind
  · exact f.rv_lt

theorem rv_inj {a b : Nat} (h : f.rv a = f.rv b) : a = b := by
  by_cases c : a < b
  · have := f.rv_lt c; grind
  · by_cases d : b < a
    · have := f.rv_lt d; grind
    · omega

theorem rv_nonneg (r : Nat) : 0 ≤ f.rv r := by
  rw [← f.rv_zero]; exact f.rv_mono (Nat.zero_le _)


/-! ### the rung nearest to a number -/
/-- 'r' is the nearest rung to 'v' (of two the even one), where the rungs go on without end -/
def Near (v : Rat) (r : Nat) : Prop :=
  (if r % 2 = 0 then 2 * v ≤ f.rv r + f.rv (r + 1) else 2 * v < f.rv r + f.rv (r + 1)) ∧
  (r = 0 ∨ (if r % 2 = 0 then f.rv (r - 1) + f.rv r ≤ 2 * v else f.rv (r - 1) + f.rv r < 2 * v)) ∧ 0 ≤ v

theorem Near.up {f : Format} {v : Rat} {r : Nat} (h : f.Near v r) : 2 * v ≤ f.rv r + f.rv (r + 1) := by
  have := h.1; split at this <;> grind
theorem Near.down {f : Format} {v : Rat} {r : Nat} (h : f.Near v r) (hr : r ≠ 0) : f.rv (r - 1) + f.rv r ≤ 2 * v := by
  rcases h.2.1 with h | h
  · exact absurd h hr
  · split at h <;> grind

theorem Near.mono {f : Format} {v v' : Rat} {r r' : Nat} (h : f.Near v r) (h' : f.Near v' r') (hv : v ≤ v') : r ≤ r' := by
  by_cases c : r ≤ r'
  · exact c
  · exfalso
    have a := h'.up
    have b := h.down (by omega)
    have m1 : f.rv r' ≤ f.rv (r - 1) := f.rv_mono (by omega)
    have m2 : f.rv (r' + 1) ≤ f.rv r := f.rv_mono (by omega)
    -- all equal
    have e1 : f.rv r' = f.rv (r - 1) := by grind
    have e2 : r' = r - 1 := f.rv_inj e1
    subst e2
    have e3 : r - 1 + 1 = r := by omega
    rw [e3] at a
    have p := h.2.1
    have q := h'.1
    rw [e3] at q
    by_cases ev : r % 2 = 0
    · have od : ¬ (r - 1) % 2 = 0 := by omega
      rw [if_neg od] at q
      grind
    · rw [if_neg ev] at p
      grind

theorem Near.unique {f : Format} {v : Rat} {r r' : Nat} (h : f.Near v r) (h' : f.Near v r') : r = r' :=
  Nat.le_antisymm (h.mono h' Rat.le_refl) (h'.mono h Rat.le_refl)

theorem near_rv (r : Nat) : f.Near (f.rv r) r := by
  have a := f.rv_lt_succ r
  refine ⟨?_, ?_, f.rv_nonneg r⟩
  · split <;> grind
  · by_cases c : r = 0
    · exact .inl c
    · right
      have b : f.rv (r - 1) < f.rv r := f.rv_lt (by omega)
      split <;> grind

theorem Near.le_of {f : Format} {v : Rat} {r b : Nat} (h : f.Near v r) (hv : v ≤ f.rv b) : r ≤ b := h.mono (f.near_rv b) hv
theorem Near.ge_of {f : Format} {v : Rat} {r b : Nat} (h : f.Near v r) (hv : f.rv b ≤ v) : b ≤ r := (f.near_rv b).mono h hv
theorem Near.eq_of {f : Format} {r b : Nat} (h : f.Near (f.rv b) r) : r = b := h.unique (f.near_rv b)

/-- ROUNDING TWICE, first to the finer format, is rounding once where the first rounding does not make a midpoint. -/
theorem near_twice {f g : Format} {v : Rat} {k r s : Nat} (hg : g.Near v k) (hr : f.Near v r) (hs : f.Near (g.rv k) s)
    (hm : ∀ a, ∃ b, 2 * g.rv b = f.rv a + f.rv (a + 1))
    (hbad : ∀ a, 2 * g.rv k = f.rv a + f.rv (a + 1) → v = g.rv k) : s = r := by
  refine hs.unique ⟨?_, ?_, g.rv_nonneg k⟩
  · obtain ⟨b, hb⟩ := hm r
    have up := hr.1
    have le : g.rv k ≤ g.rv b := g.rv_mono (hg.le_of (by have := hr.up; grind))
    have bad := hbad r
    split at up
    · rw [if_pos ‹_›]; grind
    · rw [if_neg ‹_›]
      by_cases e : 2 * g.rv k = f.rv r + f.rv (r + 1)
      · have := bad e; grind
      · grind
  · by_cases c : r = 0
    · exact .inl c
    · right
      have dn := hr.2.1
      have dn' := hr.down c
      obtain ⟨b, hb⟩ := hm (r - 1)
      have e3 : r - 1 + 1 = r := by omega
      rw [e3] at hb
      have le : g.rv b ≤ g.rv k := g.rv_mono (hg.ge_of (by grind))
      have bad := hbad (r - 1)
      rw [e3] at bad
      split
      · grind
      · rename_i od
        rw [if_neg od] at dn
        by_cases e : 2 * g.rv k = f.rv (r - 1) + f.rv r
        · have := bad e; grind
        · grind

/-! ### 'nearest' is that rung -/
def rne (num den : Nat) : Nat :=
  num / den + (decide (den < 2 * (num % den)) || (decide (den = 2 * (num % den)) && decide (num / den % 2 = 1))).toNat

theorem cut_even (neg : Bool) (n drop : Nat) : Toward.even.cut neg n drop = rne n (2 ^ drop) := by
  unfold Toward.cut rne
  by_cases h : drop ≤ n.log2 + 2
  · rw [Nat.min_eq_left h, Nat.one_shiftLeft]
    congr 2
  · have h1 : n < 2 ^ (n.log2 + 1) := Nat.lt_log2_self
    have h2 : 2 ^ (n.log2 + 2) ≤ 2 ^ drop := Nat.pow_le_pow_right (by omega) (by omega)
    rw [Nat.min_eq_right (by omega), Nat.one_shiftLeft]
    have e : 2 ^ (n.log2 + 2) = 2 * 2 ^ (n.log2 + 1) := by rw [Nat.pow_succ]; omega
    have a1 : n / 2 ^ (n.log2 + 2) = 0 := Nat.div_eq_of_lt (by omega)
    have a2 : n % 2 ^ (n.log2 + 2) = n := Nat.mod_eq_of_lt (by omega)
    have b1 : n / 2 ^ drop = 0 := Nat.div_eq_of_lt (by omega)
    have b2 : n % 2 ^ drop = n := Nat.mod_eq_of_lt (by omega)
    simp only [a1, a2, b1, b2]
    have c1 : ¬ 2 ^ (n.log2 + 2) < 2 * n := by omega
    have c2 : ¬ 2 ^ drop < 2 * n := by omega
    simp [c1, c2]

/-- 'rne' is near: twice the number lies between the neighbours' sums; at a tie it is even -/
theorem rne_spec (n d : Nat) (hd : 0 < d) :
    2 * n ≤ (2 * rne n d + 1) * d ∧ 2 * rne n d * d ≤ 2 * n + d ∧
    (2 * n = (2 * rne n d + 1) * d → rne n d % 2 = 0) ∧ (2 * rne n d * d = 2 * n + d → rne n d % 2 = 0) := by
  have e := Nat.div_add_mod n d
  have l := Nat.mod_lt n hd
  unfold rne
  generalize n / d = q at *
  generalize n % d = r at *
  have c : d * q = q * d := Nat.mul_comm _ _
  subst e
  by_cases h1 : d < 2 * r
  · simp only [h1, decide_true, Bool.true_or, Bool.toNat_true]
    refine ⟨by grind, by grind, ?_, ?_⟩ <;> intro h
    · grind
    · grind
  · by_cases h2 : d = 2 * r
    · by_cases h3 : q % 2 = 1
      · simp only [← h2, h3, Nat.lt_irrefl, decide_false, decide_true, Bool.false_or, Bool.true_and, Bool.toNat_true]
        refine ⟨by grind, by grind, ?_, ?_⟩ <;> intro h <;> omega
      · simp only [← h2, h3, Nat.lt_irrefl, decide_false, decide_true, Bool.false_or, Bool.and_false, Bool.toNat_false]
        refine ⟨by grind, by grind, ?_, ?_⟩ <;> intro h <;> omega
    · simp only [h1, h2, decide_false, Bool.false_or, Bool.false_and, Bool.toNat_false]
      refine ⟨by grind, by grind, ?_, ?_⟩ <;> intro h <;> grind


theorem mul_le_cancel {a b c : Rat} (hc : 0 < c) (h : a * c ≤ b * c) : a ≤ b := Rat.le_of_mul_le_mul_right h hc

/-- 'N / D' units of 'P2 last': the rung that 'rne' gives is the nearest. -/
theorem near_of_rne (hf : 1 ≤ f.fractionBits) (v : Rat) (N D l : Nat) (hD : 0 < D) (hv : v * (D : Rat) = (N : Rat) * P2 (f.leastPlace + l))
    (hu : N < 2 * f.binade * D) (hl : l = 0 ∨ f.binade * D ≤ N) : f.Near v (l * f.binade + rne N D) := by
  obtain ⟨s1, s2, t1, t2⟩ := rne_spec N D hD
  generalize rne N D = K at *
  have hb := f.binade_pos
  have hB2 : f.binade % 2 = 0 := by
    unfold binade
    obtain ⟨c, hc⟩ : ∃ c, f.fractionBits = c + 1 := ⟨f.fractionBits - 1, by omega⟩
    rw [hc, Nat.pow_succ]; omega
  have par : (l * f.binade + K) % 2 = K % 2 := by
    have : (l * f.binade) % 2 = 0 := by rw [Nat.mul_mod, hB2]; simp
    omega
  have K2 : K ≤ 2 * f.binade := by
    have h : 2 * K * D < (4 * f.binade + 1) * D := by
      have : (4 * f.binade + 1) * D = 2 * (2 * f.binade * D) + D := by grind
      omega
    have := Nat.lt_of_mul_lt_mul_right h
    omega
  have K1 : l = 0 ∨ f.binade ≤ K := by
    rcases hl with hl | hl
    · exact .inl hl
    · right
      have h : 2 * f.binade * D ≤ (2 * K + 1) * D := by
        have : 2 * f.binade * D = 2 * (f.binade * D) := by grind
        omega
      have := Nat.le_of_mul_le_mul_right h hD
      omega
  have hDr : (0 : Rat) < (D : Rat) := Rat.natCast_pos.2 hD
  have hP := P2_pos (f.leastPlace + l)
  have er := f.rv_at l K K1 K2
  have c1 : 2 * (N : Rat) ≤ (2 * (K : Rat) + 1) * (D : Rat) := by exact_mod_cast s1
  have c2 : 2 * (K : Rat) * (D : Rat) ≤ 2 * (N : Rat) + (D : Rat) := by exact_mod_cast s2
  have up : 2 * v ≤ (2 * (K : Rat) + 1) * P2 (f.leastPlace + l) := by
    refine mul_le_cancel hDr ?_
    have := Rat.mul_le_mul_of_nonneg_right c1 (Rat.le_of_lt hP)
    grind
  have dn : (2 * (K : Rat) - 1) * P2 (f.leastPlace + l) ≤ 2 * v := by
    refine mul_le_cancel hDr ?_
    have := Rat.mul_le_mul_of_nonneg_right c2 (Rat.le_of_lt hP)
    grind
  have v0 : 0 ≤ v := by
    refine mul_le_cancel hDr ?_
    have : (0 : Rat) ≤ (N : Rat) * P2 (f.leastPlace + l) := Rat.mul_nonneg (Rat.natCast_nonneg) (Rat.le_of_lt hP)
    grind
  have tie1 : 2 * v = (2 * (K : Rat) + 1) * P2 (f.leastPlace + l) → K % 2 = 0 := by
    intro h
    refine t1 ?_
    have h2 : 2 * (N : Rat) = (2 * (K : Rat) + 1) * (D : Rat) := by
      have : (2 * (N : Rat)) * P2 (f.leastPlace + l) = ((2 * (K : Rat) + 1) * (D : Rat)) * P2 (f.leastPlace + l) := by grind
      have ne : P2 (f.leastPlace + l) ≠ 0 := by grind
      grind
    exact_mod_cast h2
  have tie2 : (2 * (K : Rat) - 1) * P2 (f.leastPlace + l) = 2 * v → K % 2 = 0 := by
    intro h
    refine t2 ?_
    have h2 : 2 * (K : Rat) * (D : Rat) = 2 * (N : Rat) + (D : Rat) := by
      have : (2 * (K : Rat) * (D : Rat)) * P2 (f.leastPlace + l) = (2 * (N : Rat) + (D : Rat)) * P2 (f.leastPlace + l) := by grind
      have ne : P2 (f.leastPlace + l) ≠ 0 := by grind
      grind
    exact_mod_cast h2
  refine ⟨?_, ?_, v0⟩
  · rw [par, er]
    by_cases cK : K = 2 * f.binade
    · have hp : f.rv (l * f.binade + K + 1) = f.rv (l * f.binade + K) + P2 (f.leastPlace + l + 1) := by
        rw [f.rv_succ]
        congr 2
        rw [cK, show l * f.binade + 2 * f.binade = (l + 1) * f.binade + f.binade from by rw [Nat.add_mul]; omega,
          (f.rparts (l + 1) f.binade (Nat.le_refl _) (by omega)).2]
        omega
      rw [hp, er, P2_succ, if_pos (by omega)]
      grind
    · have hp := f.rv_at l (K + 1) (by omega) (by omega)
      rw [Nat.add_assoc, hp, Rat.natCast_add]
      split
      · grind
      · by_cases e : 2 * v = (2 * (K : Rat) + 1) * P2 (f.leastPlace + l)
        · exact absurd (tie1 e) ‹_›
        · grind
  · by_cases c0 : l * f.binade + K = 0
    · exact .inl c0
    · right
      rw [par, er]
      by_cases cK : l = 0 ∨ f.binade < K
      · have k0 : K ≠ 0 := by
          rcases cK with h | h
          · subst h; omega
          · omega
        have hp := f.rv_at l (K - 1) (by omega) (by omega)
        rw [show l * f.binade + K - 1 = l * f.binade + (K - 1) from by omega, hp]
        have cc : (((K - 1 : Nat)) : Rat) = (K : Rat) - 1 := by
          obtain ⟨j, rfl⟩ : ∃ j, K = j + 1 := ⟨K - 1, by omega⟩
          rw [Nat.add_sub_cancel, Rat.natCast_add]; grind
        rw [cc]
        split
        · grind
        · by_cases e : (2 * (K : Rat) - 1) * P2 (f.leastPlace + l) = 2 * v
          · exact absurd (tie2 e) ‹_›
          · grind
      · have eK : K = f.binade := by omega
        have hlt : f.rv (l * f.binade + K - 1) < f.rv (l * f.binade + K) := f.rv_lt (by omega)
        have hge : (K : Rat) * P2 (f.leastPlace + l) ≤ v := by
          refine mul_le_cancel hDr ?_
          have h1 : f.binade * D ≤ N := by omega
          have h2 : (K : Rat) * (D : Rat) ≤ (N : Rat) := by rw [eK]; exact_mod_cast h1
          have := Rat.mul_le_mul_of_nonneg_right h2 (Rat.le_of_lt hP)
          grind
        rw [er] at hlt
        split <;> grind

theorem nearest_near (hf : 1 ≤ f.fractionBits) (neg : Bool) (mag : Nat) (place : Int) :
    ∃ r, f.nearest neg mag place = f.word neg (min r f.infRung) ∧ f.Near ((mag : Rat) * P2 place) r := by
  unfold nearest
  by_cases h0 : mag = 0
  · subst h0
    refine ⟨0, by simp, ?_⟩
    have := f.near_rv 0
    rw [f.rv_zero] at this
    simpa using this
  · rw [if_neg h0]
    dsimp only
    generalize hlast : max (place + mag.log2 - f.fractionBits) f.leastPlace = last
    rw [cut_even, Nat.shiftLeft_eq]
    refine ⟨_, rfl, ?_⟩
    have g1 : 2 ^ mag.log2 ≤ mag := Nat.log2_self_le h0
    have g2 : mag < 2 ^ (mag.log2 + 1) := Nat.lt_log2_self
    generalize mag.log2 = L at *
    have hl : f.leastPlace + (((last - f.leastPlace).toNat : Nat) : Int) = last := by omega
    refine f.near_of_rne hf _ _ _ _ (Nat.two_pow_pos _) ?_ ?_ ?_
    · rw [hl, Rat.natCast_mul, ← P2_nat, ← P2_nat, Rat.mul_assoc, Rat.mul_assoc, ← P2_add, ← P2_add]
      congr 2; omega
    · unfold binade
      rw [show 2 * 2 ^ f.fractionBits * 2 ^ (last - place).toNat = 2 ^ (f.fractionBits + 1 + (last - place).toNat) from by
        rw [Nat.pow_add, Nat.pow_succ]; grind]
      refine Nat.lt_of_lt_of_le (Nat.mul_lt_mul_of_pos_right g2 (Nat.two_pow_pos _)) ?_
      rw [← Nat.pow_add]
      exact Nat.pow_le_pow_right (by omega) (by omega)
    · by_cases c : last = f.leastPlace
      · left; omega
      · right
        unfold binade
        rw [← Nat.pow_add]
        refine Nat.le_trans ?_ (Nat.mul_le_mul_right _ g1)
        rw [← Nat.pow_add]
        exact Nat.pow_le_pow_right (by omega) (by omega)

end Format
end Ieee

namespace Ieee
namespace Format

theorem single_fb : 1 ≤ single.fractionBits := by decide
theorem double_fb : 1 ≤ double.fractionBits := by decide
theorem single_least : single.leastPlace = -149 := by decide
theorem double_least : double.leastPlace = -1074 := by decide
theorem single_binade : single.binade = 8388608 := by decide
theorem double_binade : double.binade = 4503599627370496 := by decide

/-! ### numbers that a format has -/
/-- a whole number of fewer than 'binade' digits more, at a place that the format has -/
theorem rep (f : Format) (n : Nat) : ∀ (m : Nat) (p : Int), m < 2 * f.binade → (p - f.leastPlace).toNat = n → f.leastPlace ≤ p → ∃ b, f.rv b = (m : Rat) * P2 p := by
  induction n with
  | zero =>
    intro m p hm hn hp
    have : p = f.leastPlace := by omega
    subst this
    refine ⟨0 * f.binade + m, ?_⟩
    rw [f.rv_at 0 m (.inl rfl) (by omega)]; simp
  | succ n ih =>
    intro m p hm hn hp
    by_cases c : f.binade ≤ m
    · refine ⟨(p - f.leastPlace).toNat * f.binade + m, ?_⟩
      rw [f.rv_at _ m (.inr c) (by omega)]
      congr 2; omega
    · obtain ⟨b, hb⟩ := ih (2 * m) (p - 1) (by omega) (by omega) (by omega)
      refine ⟨b, ?_⟩
      rw [hb, Rat.natCast_mul]
      have := P2_succ (p - 1)
      rw [show p - 1 + 1 = p from by omega] at this
      grind

theorem rep' (f : Format) {m : Nat} {p : Int} (hm : m < 2 * f.binade) (hp : f.leastPlace ≤ p) : ∃ b, f.rv b = (m : Rat) * P2 p :=
  f.rep _ m p hm rfl hp

theorem single_in_double (a : Nat) : ∃ b, double.rv b = single.rv a := by
  have := single.rmag_lt a
  have := single.least_le a
  rw [single_binade] at *; rw [single_least] at *
  exact double.rep' (m := single.rmag a) (p := single.rplace a) (by rw [double_binade]; omega) (by rw [double_least]; omega)

/-- a midpoint: the digits of it -/
theorem mid_form (f : Format) (a : Nat) : f.rv a + f.rv (a + 1) = 2 * (((2 * f.rmag a + 1 : Nat) : Rat) * P2 (f.rplace a - 1)) := by
  rw [f.rv_succ]
  have := P2_succ (f.rplace a - 1)
  rw [show f.rplace a - 1 + 1 = f.rplace a from by omega] at this
  unfold rv
  rw [Rat.natCast_add, Rat.natCast_mul]
  grind

theorem single_mid_in_double (a : Nat) : ∃ b, 2 * double.rv b = single.rv a + single.rv (a + 1) := by
  have := single.rmag_lt a
  have := single.least_le a
  rw [single_binade] at *; rw [single_least] at *
  obtain ⟨b, hb⟩ := double.rep' (m := 2 * single.rmag a + 1) (p := single.rplace a - 1) (by rw [double_binade]; omega) (by rw [double_least]; omega)
  exact ⟨b, by rw [hb, single.mid_form]⟩

/-! ### how far the nearest is -/
theorem rplace_mono (f : Format) {a b : Nat} (h : a ≤ b) : f.rplace a ≤ f.rplace b := by
  unfold rplace
  have hb := f.binade_pos
  have : a / f.binade ≤ b / f.binade := Nat.div_le_div_right h
  split <;> split <;> omega

theorem Near.off {f : Format} {v : Rat} {k : Nat} (h : f.Near v k) : 2 * v ≤ 2 * f.rv k + P2 (f.rplace k) ∧ 2 * f.rv k ≤ 2 * v + P2 (f.rplace k) := by
  have a := h.up
  rw [f.rv_succ] at a
  refine ⟨by grind, ?_⟩
  by_cases c : k = 0
  · subst c; rw [f.rv_zero]; have := h.2.2; have := P2_pos (f.rplace 0); grind
  · have b := h.down c
    have e := f.rv_succ (k - 1)
    rw [show k - 1 + 1 = k from by omega] at e
    have := P2_mono (f.rplace_mono (show k - 1 ≤ k by omega))
    grind

/-! ### multiples of a power of two -/
def Mult (z : Rat) (e : Int) : Prop := ∃ n : Int, z = (n : Rat) * P2 e

theorem Mult.le {z : Rat} {e e' : Int} (h : Mult z e) (he : e' ≤ e) : Mult z e' := by
  obtain ⟨n, rfl⟩ := h
  refine ⟨n * (2 ^ (e - e').toNat : Nat), ?_⟩
  rw [Rat.intCast_mul, Rat.intCast_natCast, ← P2_nat, Rat.mul_assoc, ← P2_add]
  congr 2; omega
theorem Mult.add {y z : Rat} {e : Int} (h : Mult y e) (h' : Mult z e) : Mult (y + z) e := by
  obtain ⟨n, rfl⟩ := h; obtain ⟨m, rfl⟩ := h'
  exact ⟨n + m, by rw [Rat.intCast_add]; grind⟩
theorem Mult.neg {y : Rat} {e : Int} (h : Mult y e) : Mult (-y) e := by
  obtain ⟨n, rfl⟩ := h
  exact ⟨-n, by rw [Rat.intCast_neg]; grind⟩
theorem Mult.sub {y z : Rat} {e : Int} (h : Mult y e) (h' : Mult z e) : Mult (y - z) e := by
  rw [Rat.sub_eq_add_neg]; exact h.add h'.neg
theorem Mult.far {z : Rat} {e : Int} (h : Mult z e) (h0 : z ≠ 0) : P2 e ≤ z ∨ P2 e ≤ -z := by
  obtain ⟨n, rfl⟩ := h
  have hp := P2_pos e
  have hn : n ≠ 0 := by intro c; subst c; simp at h0
  rcases Int.lt_or_gt_of_ne hn with c | c
  · right
    have : (1 : Rat) ≤ ((-n : Int) : Rat) := by exact_mod_cast (show 1 ≤ -n by omega)
    have := Rat.mul_le_mul_of_nonneg_right this (Rat.le_of_lt hp)
    rw [Rat.intCast_neg] at this
    grind
  · left
    have : (1 : Rat) ≤ (n : Rat) := by exact_mod_cast (show 1 ≤ n by omega)
    have := Rat.mul_le_mul_of_nonneg_right this (Rat.le_of_lt hp)
    grind

/-- a number of the format 'single', with its sign -/
def Sing (x : Rat) : Prop := ∃ a, x = single.rv a ∨ x = -single.rv a

theorem Sing.neg {x : Rat} (h : Sing x) : Sing (-x) := by
  obtain ⟨a, h | h⟩ := h
  · exact ⟨a, .inr (by grind)⟩
  · exact ⟨a, .inl (by grind)⟩

theorem Sing.form {x : Rat} (h : Sing x) : ∃ (n : Nat) (p : Int), n < 16777216 ∧ -149 ≤ p ∧ (x = (n : Rat) * P2 p ∨ x = -((n : Rat) * P2 p)) := by
  obtain ⟨a, h⟩ := h
  refine ⟨single.rmag a, single.rplace a, ?_, ?_, h⟩
  · have := single.rmag_lt a; rw [single_binade] at this; omega
  · have := single.least_le a; rw [single_least] at this; omega

theorem Sing.mult {x : Rat} (h : Sing x) : ∃ (p : Int), -149 ≤ p ∧ Mult x p ∧ x < 16777216 * P2 p ∧ -x < 16777216 * P2 p := by
  obtain ⟨n, p, hn, hp, h⟩ := h.form
  have hpp := P2_pos p
  have h1 : (n : Rat) < 16777216 := by exact_mod_cast hn
  have h2 := Rat.mul_lt_mul_of_pos_right h1 hpp
  have h3 : 0 ≤ (n : Rat) * P2 p := Rat.mul_nonneg Rat.natCast_nonneg (Rat.le_of_lt hpp)
  refine ⟨p, hp, ?_, ?_, ?_⟩
  · rcases h with h | h
    · exact ⟨n, h⟩
    · exact ⟨-n, by rw [h, Rat.intCast_neg]; rw [Rat.intCast_natCast]; grind⟩
  · rcases h with h | h <;> rw [h] <;> grind
  · rcases h with h | h <;> rw [h] <;> grind

/-- what stands near a midpoint of the single format, to the double format -/
theorem bad_off {v : Rat} {k a : Nat} (hk : double.Near v k) (hm : 2 * double.rv k = single.rv a + single.rv (a + 1)) :
    2 * v ≤ 2 * double.rv k + P2 (single.rplace a - 28) ∧ 2 * double.rv k ≤ 2 * v + P2 (single.rplace a - 28) := by
  have ⟨o1, o2⟩ := hk.off
  have key : P2 (double.rplace k) ≤ P2 (single.rplace a - 28) := by
    have hl := single.least_le a
    rw [single_least] at hl
    rcases double.rnormal k with c | c
    · rw [c, double_least]; exact P2_mono (by omega)
    · rw [double_binade] at c
      have hA := single.rmag_lt a
      rw [single_binade] at hA
      have h1 : double.rv k = ((2 * single.rmag a + 1 : Nat) : Rat) * P2 (single.rplace a - 1) := by
        have := single.mid_form a; grind
      have h2 : ((2 * single.rmag a + 1 : Nat) : Rat) < ((2 ^ 25 : Nat) : Rat) := by
        exact_mod_cast (show 2 * single.rmag a + 1 < 2 ^ 25 by omega)
      have h3 : double.rv k < P2 (single.rplace a - 1 + 25) := by
        rw [h1, P2_add _ 25, show P2 25 = ((2 ^ 25 : Nat) : Rat) from P2_nat 25, Rat.mul_comm (P2 _)]
        exact Rat.mul_lt_mul_of_pos_right h2 (P2_pos _)
      have h4 : P2 (double.rplace k + 52) ≤ double.rv k := by
        rw [P2_add _ 52, show P2 52 = ((2 ^ 52 : Nat) : Rat) from P2_nat 52, Rat.mul_comm (P2 _)]
        refine Rat.mul_le_mul_of_nonneg_right ?_ (Rat.le_of_lt (P2_pos _))
        exact_mod_cast (show 2 ^ 52 ≤ double.rmag k by omega)
      have h5 : P2 (double.rplace k + 52) < P2 (single.rplace a - 1 + 25) := by grind
      have h6 := P2_lt_iff.1 h5
      exact P2_mono (by omega)
  constructor <;> grind

theorem P2_double (e : Int) : P2 e = 2 * P2 (e - 1) := by
  have := P2_succ (e - 1)
  rwa [show e - 1 + 1 = e from by omega] at this

/-- a single is not near a midpoint of singles -/
theorem sing_mid {x : Rat} (h : Sing x) (a : Nat) : 2 * x + P2 (single.rplace a) ≤ single.rv a + single.rv (a + 1) ∨ single.rv a + single.rv (a + 1) + P2 (single.rplace a) ≤ 2 * x := by
  have e := single.rv_succ a
  obtain ⟨c, hc⟩ := h
  by_cases l : c ≤ a
  · left
    have m := single.rv_mono l
    have n := single.rv_nonneg c
    rcases hc with hc | hc <;> grind
  · have m := single.rv_mono (show a + 1 ≤ c by omega)
    have n := single.rv_nonneg a
    have n' := single.rv_nonneg c
    rcases hc with hc | hc
    · right; grind
    · left; have := P2_pos (single.rplace a); grind

theorem add_bad {x y v : Rat} {k : Nat} (hx : Sing x) (hy : Sing y) (hv : v = x + y) (hk : double.Near v k) :
    ∀ a, 2 * double.rv k = single.rv a + single.rv (a + 1) → v = double.rv k := by
  intro a hm
  by_cases hne : v = double.rv k
  · exact hne
  exfalso
  obtain ⟨o1, o2⟩ := bad_off hk hm
  generalize hl : single.rplace a = l at *
  have mid : Mult (double.rv k) (l - 1) := by
    refine ⟨(2 * single.rmag a + 1 : Nat), ?_⟩
    have := single.mid_form a
    rw [hl] at this
    rw [Rat.intCast_natCast]; grind
  obtain ⟨i, hi, mx, bx, bx'⟩ := hx.mult
  obtain ⟨j, hj, my, by1, by1'⟩ := hy.mult
  have p1 := P2_double (l - 28)
  have p2 := P2_pos (l - 29)
  rw [show l - 28 - 1 = l - 29 from by omega] at p1
  have p0 : P2 l = 16777216 * P2 (l - 24) := by
    have := P2_add (l - 24) 24
    rw [show l - 24 + 24 = l from by omega, show P2 24 = ((2 ^ 24 : Nat) : Rat) from P2_nat 24] at this
    rw [this]; grind
  have p3 : P2 (l - 24) = 16 * P2 (l - 28) := by
    have := P2_add (l - 28) 4
    rw [show l - 28 + 4 = l - 24 from by omega, show P2 4 = ((2 ^ 4 : Nat) : Rat) from P2_nat 4] at this
    rw [this]; grind
  -- one of the two is a multiple of little, and little itself
  have small : ∀ (z u : Rat) (q : Int), Sing u → v = z + u → z < 16777216 * P2 q → -z < 16777216 * P2 q → q ≤ l - 29 → False := by
    intro z u q hu hvz b1 b2 hq
    have m := P2_mono hq
    rcases sing_mid hu a with h | h <;> rw [hl] at h <;> grind
  by_cases ci : i ≤ l - 29
  · exact small x y i hy hv bx bx' ci
  · by_cases cj : j ≤ l - 29
    · exact small y x j hx (by grind) by1 by1' cj
    · have mm : Mult (v - double.rv k) (l - 28) := by
        rw [hv]
        exact ((mx.le (by omega)).add (my.le (by omega))).sub (mid.le (by omega))
      rcases mm.far (by grind) with h | h <;> grind

theorem mul_bad {x y v : Rat} {k : Nat} (hx : Sing x) (hy : Sing y) (hv : v = x * y) (hk : double.Near v k) :
    v = double.rv k := by
  obtain ⟨m, i, hm, hi, hx⟩ := hx.form
  obtain ⟨n, j, hn, hj, hy⟩ := hy.form
  have hb : m * n < 2 * double.binade := by
    rw [double_binade]
    have := Nat.mul_lt_mul_of_lt_of_le hm (Nat.le_of_lt hn) (by omega)
    omega
  obtain ⟨b, hb⟩ := double.rep' (m := m * n) (p := i + j) hb (by rw [double_least]; omega)
  have e : double.rv b = (m : Rat) * P2 i * ((n : Rat) * P2 j) := by rw [hb, P2_add, Rat.natCast_mul]; grind
  have v0 := hk.2.2
  have b0 := double.rv_nonneg b
  have : v = double.rv b := by
    rcases hx with hx | hx <;> rcases hy with hy | hy <;> rw [hx, hy] at hv <;> grind
  rw [this] at hk ⊢
  rw [hk.eq_of]


theorem div_bad {x y v : Rat} {k : Nat} (hx : Sing x) (hy : Sing y) (hy0 : y ≠ 0) (hv : v = x / y ∨ v = -(x / y)) (hk : double.Near v k) :
    ∀ a, 2 * double.rv k = single.rv a + single.rv (a + 1) → v = double.rv k := by
  intro a hm
  by_cases hne : v = double.rv k
  · exact hne
  exfalso
  obtain ⟨o1, o2⟩ := bad_off hk hm
  have v0 := hk.2.2
  obtain ⟨m, i, hmm, hi, hx⟩ := hx.form
  obtain ⟨n, j, hn, hj, hy⟩ := hy.form
  -- v * (n * 2^j) = m * 2^i
  have hpi := P2_pos i
  have hpj := P2_pos j
  have nn : (0 : Rat) ≤ (n : Rat) := Rat.natCast_nonneg
  have mn : (0 : Rat) ≤ (m : Rat) := Rat.natCast_nonneg
  have n0 : n ≠ 0 := by intro c; subst c; apply hy0; rcases hy with h | h <;> rw [h] <;> simp
  have n1 : (0 : Rat) < (n : Rat) := Rat.natCast_pos.2 (by omega)
  have hyp : 0 < (n : Rat) * P2 j := Rat.mul_pos n1 hpj
  have hxp : 0 ≤ (m : Rat) * P2 i := Rat.mul_nonneg mn (Rat.le_of_lt hpi)
  have hq : v * ((n : Rat) * P2 j) = (m : Rat) * P2 i := by
    have e : x / y * y = x := Rat.div_mul_cancel hy0
    generalize x / y = q at *
    have e2 : v * ((n : Rat) * P2 j) = (m : Rat) * P2 i ∨ v * ((n : Rat) * P2 j) = -((m : Rat) * P2 i) := by
      rcases hv with hv | hv <;> rcases hx with hx | hx <;> rcases hy with hy | hy <;> rw [hv] <;> grind
    rcases e2 with e2 | e2
    · exact e2
    · have : 0 ≤ v * ((n : Rat) * P2 j) := Rat.mul_nonneg v0 (Rat.le_of_lt hyp)
      grind
  generalize hl : single.rplace a = l at *
  have hl149 := single.least_le a
  rw [single_least, hl] at hl149
  have midv : double.rv k = ((2 * single.rmag a + 1 : Nat) : Rat) * P2 (l - 1) := by
    have := single.mid_form a
    rw [hl] at this; grind
  have hA := single.rmag_lt a
  rw [single_binade] at hA
  have nlt : (n : Rat) < 16777216 := by exact_mod_cast hn
  have mlt : (m : Rat) < 16777216 := by exact_mod_cast hmm
  have pl := P2_pos (l - 28)
  -- the gap, times n * 2^j, is a multiple
  have diff : (v - double.rv k) * (n : Rat) * P2 j = (m : Rat) * P2 i - (double.rv k * (n : Rat)) * P2 j := by grind
  have p0 : P2 (l - 1) = 134217728 * P2 (l - 28) := by
    have := P2_add (l - 28) 27
    rw [show l - 28 + 27 = l - 1 from by omega, show P2 27 = ((2 ^ 27 : Nat) : Rat) from P2_nat 27] at this
    rw [this]; grind
  have habs : ∀ d : Rat, (d = v - double.rv k ∨ d = double.rv k - v) → 2 * d ≤ P2 (l - 28) := by
    intro d hd; rcases hd with hd | hd <;> grind
  by_cases c : i ≤ j + (l - 1)
  · have mu : Mult ((v - double.rv k) * (n : Rat) * P2 j) i := by
      rw [diff]
      refine Mult.sub ⟨m, by rw [Rat.intCast_natCast]⟩ ?_
      refine Mult.le (e := j + (l - 1)) ⟨((2 * single.rmag a + 1) * n : Nat), ?_⟩ c
      rw [Rat.intCast_natCast, P2_add, midv, Rat.natCast_mul (2 * single.rmag a + 1) n]
      grind
    have ne : (v - double.rv k) * (n : Rat) * P2 j ≠ 0 := by
      intro h
      rcases Rat.mul_eq_zero.1 h with h | h
      · rcases Rat.mul_eq_zero.1 h with h | h <;> grind
      · grind
    -- d * n * P2 j ≥ P2 i > v * n * P2 j / 2^24: so v < 2^24 * d, and the midpoint is far less than it is
    have key : ∀ d : Rat, (d = v - double.rv k ∨ d = double.rv k - v) → P2 i ≤ d * (n : Rat) * P2 j → False := by
      intro d hd h
      have h1 : v * ((n : Rat) * P2 j) ≤ 16777216 * (d * (n : Rat) * P2 j) := by
        rw [hq]
        have := Rat.mul_le_mul_of_nonneg_right (Rat.le_of_lt mlt) (Rat.le_of_lt hpi)
        grind
      have h2 : v * ((n : Rat) * P2 j) ≤ (16777216 * d) * ((n : Rat) * P2 j) := by grind
      have h3 := mul_le_cancel hyp h2
      have h4 := habs d hd
      have h5 : P2 (l - 1) ≤ double.rv k := by
        rw [midv]
        have : (1 : Rat) ≤ ((2 * single.rmag a + 1 : Nat) : Rat) := by exact_mod_cast (show 1 ≤ 2 * single.rmag a + 1 by omega)
        have := Rat.mul_le_mul_of_nonneg_right this (Rat.le_of_lt (P2_pos (l - 1)))
        grind
      rcases hd with hd | hd <;> grind
    rcases mu.far ne with h | h
    · exact key (v - double.rv k) (.inl rfl) h
    · exact key (double.rv k - v) (.inr rfl) (by grind)
  · have mu : Mult ((v - double.rv k) * (n : Rat) * P2 j) (j + (l - 1)) := by
      rw [diff]
      refine Mult.sub (Mult.le (e := i) ⟨m, by rw [Rat.intCast_natCast]⟩ (by omega)) ?_
      refine ⟨((2 * single.rmag a + 1) * n : Nat), ?_⟩
      rw [Rat.intCast_natCast, P2_add, midv, Rat.natCast_mul (2 * single.rmag a + 1) n]
      grind
    have ne : (v - double.rv k) * (n : Rat) * P2 j ≠ 0 := by
      intro h
      rcases Rat.mul_eq_zero.1 h with h | h
      · rcases Rat.mul_eq_zero.1 h with h | h <;> grind
      · grind
    have key : ∀ d : Rat, (d = v - double.rv k ∨ d = double.rv k - v) → P2 (j + (l - 1)) ≤ d * (n : Rat) * P2 j → False := by
      intro d hd h
      rw [P2_add] at h
      have h2 : P2 (l - 1) * P2 j ≤ (d * (n : Rat)) * P2 j := by grind
      have h3 := mul_le_cancel hpj h2
      have h4 := habs d hd
      have h5 : d * (n : Rat) ≤ P2 (l - 28) * 16777216 := by
        have e1 := Rat.mul_le_mul_of_nonneg_right (show d ≤ P2 (l - 28) by grind) nn
        have e2 := Rat.mul_le_mul_of_nonneg_left (Rat.le_of_lt nlt) (Rat.le_of_lt pl)
        grind
      grind
    rcases mu.far ne with h | h
    · exact key (v - double.rv k) (.inl rfl) h
    · exact key (double.rv k - v) (.inr rfl) (by grind)

end Format
end Ieee

namespace Ieee

def sg (s : Bool) : Rat := if s then -1 else 1
theorem sg_sq (s : Bool) : sg s * sg s = 1 := by cases s <;> simp [sg] <;> grind
theorem sg_xor (s t : Bool) : sg (s ^^ t) = sg s * sg t := by cases s <;> cases t <;> simp [sg] <;> grind
theorem sg_not (s : Bool) : sg (!s) = -sg s := by cases s <;> simp [sg] <;> grind

theorem signed_val (s : Bool) (m up : Nat) (b : Int) : ((signed s m up : Int) : Rat) * P2 b = sg s * ((m : Rat) * P2 (b + up)) := by
  have e : ((m <<< up : Nat) : Rat) = (m : Rat) * P2 up := by
    rw [Nat.shiftLeft_eq, Rat.natCast_mul, P2_nat]
  rw [P2_add]
  unfold signed sg
  cases s
  · simp only [Bool.false_eq_true, if_false]
    rw [Rat.intCast_natCast, e]; grind
  · simp only [if_true]
    rw [Rat.intCast_neg, Rat.intCast_natCast, e]; grind

theorem sum_val (s t : Bool) (m n : Nat) (i j : Int) : ∃ u T b, Datum.sum (.number s m i) (.number t n j) = some (.number u T b) ∧
    sg u * ((T : Rat) * P2 b) = sg s * ((m : Rat) * P2 i) + sg t * ((n : Rat) * P2 j) ∧
    u = (if sg s * ((m : Rat) * P2 i) + sg t * ((n : Rat) * P2 j) = 0 then s && t else decide (sg s * ((m : Rat) * P2 i) + sg t * ((n : Rat) * P2 j) < 0)) := by
  have ei := signed_val s m (i - min i j).toNat (min i j)
  have ej := signed_val t n (j - min i j).toNat (min i j)
  rw [show min i j + ((i - min i j).toNat : Int) = i from by omega] at ei
  rw [show min i j + ((j - min i j).toNat : Int) = j from by omega] at ej
  rw [← ei, ← ej]
  refine ⟨_, _, _, rfl, ?_, ?_⟩ <;> generalize signed s m (i - min i j).toNat = a <;> generalize signed t n (j - min i j).toNat = c <;>
    generalize min i j = b
  · have hp := P2_pos b
    rw [show (a : Rat) * P2 b + (c : Rat) * P2 b = ((a + c : Int) : Rat) * P2 b from by rw [Rat.intCast_add]; grind]
    generalize a + c = z
    by_cases h0 : z = 0
    · subst h0; simp
    · rw [if_neg h0]
      by_cases hn : z < 0
      · have e : ((z.natAbs : Nat) : Rat) = -((z : Int) : Rat) := by
          rw [← Rat.intCast_natCast, show (z.natAbs : Int) = -z from by omega, Rat.intCast_neg]
        simp only [hn, decide_true]
        rw [e]; simp only [sg, if_true]; grind
      · have e : ((z.natAbs : Nat) : Rat) = ((z : Int) : Rat) := by
          rw [← Rat.intCast_natCast, show (z.natAbs : Int) = z from by omega]
        simp only [hn, decide_false]
        rw [e]; simp only [sg]; grind
  · have hp := P2_pos b
    rw [show (a : Rat) * P2 b + (c : Rat) * P2 b = ((a + c : Int) : Rat) * P2 b from by rw [Rat.intCast_add]; grind]
    generalize a + c = z
    have z0 : ((z : Rat) * P2 b = 0) ↔ z = 0 := by
      rw [Rat.mul_eq_zero]
      constructor
      · rintro (h | h)
        · exact Rat.intCast_eq_zero_iff.1 h
        · grind
      · intro h; left; rw [h]; rfl
    have zn : ((z : Rat) * P2 b < 0) ↔ z < 0 := by
      rw [Rat.mul_comm, Rat.mul_neg_iff_of_pos_left hp]
      exact Rat.intCast_neg_iff
    simp only [z0, zn]

namespace Format
variable (f : Format)

def sgn (w : Nat) : Bool := w / f.signWeight % 2 == 1
def rung (w : Nat) : Nat := w % f.signWeight
/-- the word of a number (no infinity, no NaN) -/
def fin (w : Nat) : Prop := f.rung w < f.infRung
instance (w : Nat) : Decidable (f.fin w) := inferInstanceAs (Decidable (_ < _))
/-- the number of a word -/
def V (w : Nat) : Rat := sg (f.sgn w) * f.rv (f.rung w)

theorem signWeight_pos : 0 < f.signWeight := Nat.two_pow_pos _

theorem sgn_word (s : Bool) {r : Nat} (h : r < f.signWeight) : f.sgn (f.word s r) = s := by
  unfold sgn word
  cases s
  · simp only [Bool.false_eq_true, if_false]; rw [Nat.div_eq_of_lt h]; rfl
  · simp only [if_true]
    rw [Nat.add_div_left _ f.signWeight_pos, Nat.div_eq_of_lt h]; rfl

theorem rung_word (s : Bool) {r : Nat} (h : r < f.signWeight) : f.rung (f.word s r) = r := by
  unfold rung word
  cases s
  · simp only [Bool.false_eq_true, if_false]; exact Nat.mod_eq_of_lt h
  · simp only [if_true]; rw [Nat.add_mod_left]; exact Nat.mod_eq_of_lt h

theorem word_eta {w : Nat} (h : w < 2 * f.signWeight) : f.word (f.sgn w) (f.rung w) = w := by
  unfold sgn rung word
  have e := Nat.div_add_mod w f.signWeight
  have hp := f.signWeight_pos
  have l := Nat.mod_lt w hp
  by_cases c : w < f.signWeight
  · rw [Nat.div_eq_of_lt c, Nat.mod_eq_of_lt c]; rfl
  · have d : w / f.signWeight = 1 := by rw [Nat.div_eq_iff hp]; omega
    rw [d] at e ⊢
    simp; omega

theorem infRung_lt' : f.infRung < f.signWeight := f.infRung_lt

theorem read_fin {w : Nat} (h : f.fin w) : f.read w = .number (f.sgn w) (f.rmag (f.rung w)) (f.rplace (f.rung w)) := by
  unfold fin at h
  unfold read rmag rplace
  change (if f.rung w < f.binade then _ else if f.rung w < f.infRung then _ else _) = _
  split
  · rfl
  · rfl

theorem V_read (w : Nat) : f.V w = sg (f.sgn w) * ((f.rmag (f.rung w) : Rat) * P2 (f.rplace (f.rung w))) := rfl

theorem min_lt_sw (r : Nat) : min r f.infRung < f.signWeight := Nat.lt_of_le_of_lt (Nat.min_le_right ..) f.infRung_lt

/-- WHAT 'write' GIVES -/
theorem write_number (hf : 1 ≤ f.fractionBits) (s : Bool) (m : Nat) (p : Int) :
    ∃ r, f.write (.number s m p) = f.word s (min r f.infRung) ∧ f.Near ((m : Rat) * P2 p) r := f.nearest_near hf s m p

theorem fin_word_iff (s : Bool) (r : Nat) : f.fin (f.word s (min r f.infRung)) ↔ r < f.infRung := by
  unfold fin
  rw [f.rung_word s (f.min_lt_sw r)]
  omega

theorem V_word {s : Bool} {r : Nat} (h : r < f.infRung) : f.V (f.word s (min r f.infRung)) = sg s * f.rv r := by
  unfold V
  rw [f.sgn_word s (f.min_lt_sw r), f.rung_word s (f.min_lt_sw r), Nat.min_eq_left (by omega)]

/-- 'w' is the word nearest to 'x', of sign 's' -/
def Rounds (x : Rat) (s : Bool) (w : Nat) : Prop := ∃ r, w = f.word s (min r f.infRung) ∧ f.Near (sg s * x) r

theorem Rounds.unique {f : Format} {x : Rat} {s : Bool} {w w' : Nat} (h : f.Rounds x s w) (h' : f.Rounds x s w') : w = w' := by
  obtain ⟨r, rfl, h⟩ := h; obtain ⟨r', rfl, h'⟩ := h'
  rw [h.unique h']

theorem write_rounds (hf : 1 ≤ f.fractionBits) (s : Bool) (m : Nat) (p : Int) {x : Rat} (hx : sg s * ((m : Rat) * P2 p) = x) : f.Rounds x s (f.write (.number s m p)) := by
  obtain ⟨r, h1, h2⟩ := f.write_number hf s m p
  refine ⟨r, h1, ?_⟩
  rw [← hx, ← Rat.mul_assoc, sg_sq, Rat.one_mul]
  exact h2

/-- the sign of a sum -/
def sumSign (s t : Bool) (x : Rat) : Bool := if x = 0 then s && t else decide (x < 0)

theorem add_rounds (hf : 1 ≤ f.fractionBits) {x y : Nat} (hx : f.fin x) (hy : f.fin y) :
    ∃ w, f.add x y = some w ∧ f.Rounds (f.V x + f.V y) (sumSign (f.sgn x) (f.sgn y) (f.V x + f.V y)) w := by
  obtain ⟨u, T, b, h1, h2, h3⟩ := sum_val (f.sgn x) (f.sgn y) (f.rmag (f.rung x)) (f.rmag (f.rung y)) (f.rplace (f.rung x)) (f.rplace (f.rung y))
  unfold add
  rw [f.read_fin hx, f.read_fin hy, h1]
  refine ⟨_, rfl, ?_⟩
  have : u = sumSign (f.sgn x) (f.sgn y) (f.V x + f.V y) := h3
  rw [← this]
  exact f.write_rounds hf u T b h2

theorem sub_rounds (hf : 1 ≤ f.fractionBits) {x y : Nat} (hx : f.fin x) (hy : f.fin y) :
    ∃ w, f.sub x y = some w ∧ f.Rounds (f.V x - f.V y) (sumSign (f.sgn x) (!f.sgn y) (f.V x - f.V y)) w := by
  obtain ⟨u, T, b, h1, h2, h3⟩ := sum_val (f.sgn x) (!f.sgn y) (f.rmag (f.rung x)) (f.rmag (f.rung y)) (f.rplace (f.rung x)) (f.rplace (f.rung y))
  have e : sg (f.sgn x) * ((f.rmag (f.rung x) : Rat) * P2 (f.rplace (f.rung x))) + sg (!f.sgn y) * ((f.rmag (f.rung y) : Rat) * P2 (f.rplace (f.rung y))) = f.V x - f.V y := by
    rw [sg_not]; unfold V rv; grind
  rw [e] at h2 h3
  unfold sub
  rw [f.read_fin hx, f.read_fin hy]
  change ∃ w, (Datum.sum _ (.number (!f.sgn y) _ _)).map f.write = some w ∧ _
  rw [h1]
  refine ⟨_, rfl, ?_⟩
  have : u = sumSign (f.sgn x) (!f.sgn y) (f.V x - f.V y) := h3
  rw [← this]
  exact f.write_rounds hf u T b h2

theorem mul_rounds (hf : 1 ≤ f.fractionBits) {x y : Nat} (hx : f.fin x) (hy : f.fin y) :
    ∃ w, f.mul x y = some w ∧ f.Rounds (f.V x * f.V y) (f.sgn x ^^ f.sgn y) w := by
  unfold mul
  rw [f.read_fin hx, f.read_fin hy]
  refine ⟨_, rfl, ?_⟩
  refine f.write_rounds hf _ _ _ ?_
  rw [sg_xor, Rat.natCast_mul, P2_add]
  unfold V rv; grind


/-! ### comparing -/
theorem compare_lt_iff (a b : Int) : (compare a b == .lt) = decide (a < b) := by
  rw [Bool.eq_iff_iff]; simp [Int.compare_eq_lt]
theorem order_fin {x y : Nat} (hx : f.fin x) (hy : f.fin y) :
    f.order x y = some (if f.V x < f.V y then .lt else if f.V x = f.V y then .eq else .gt) := by
  unfold order
  rw [f.read_fin hx, f.read_fin hy]
  unfold Datum.order
  dsimp only
  have ei := signed_val (f.sgn x) (f.rmag (f.rung x)) (f.rplace (f.rung x) - min (f.rplace (f.rung x)) (f.rplace (f.rung y))).toNat (min (f.rplace (f.rung x)) (f.rplace (f.rung y)))
  have ej := signed_val (f.sgn y) (f.rmag (f.rung y)) (f.rplace (f.rung y) - min (f.rplace (f.rung x)) (f.rplace (f.rung y))).toNat (min (f.rplace (f.rung x)) (f.rplace (f.rung y)))
  rw [show min (f.rplace (f.rung x)) (f.rplace (f.rung y)) + (((f.rplace (f.rung x)) - min (f.rplace (f.rung x)) (f.rplace (f.rung y))).toNat : Int) = f.rplace (f.rung x) from by omega] at ei
  rw [show min (f.rplace (f.rung x)) (f.rplace (f.rung y)) + (((f.rplace (f.rung y)) - min (f.rplace (f.rung x)) (f.rplace (f.rung y))).toNat : Int) = f.rplace (f.rung y) from by omega] at ej
  have vx : f.V x = sg (f.sgn x) * ((f.rmag (f.rung x) : Rat) * P2 (f.rplace (f.rung x))) := rfl
  have vy : f.V y = sg (f.sgn y) * ((f.rmag (f.rung y) : Rat) * P2 (f.rplace (f.rung y))) := rfl
  rw [vx, vy, ← ei, ← ej]
  generalize signed (f.sgn x) _ _ = a
  generalize signed (f.sgn y) _ _ = c
  generalize (min (f.rplace (f.rung x)) (f.rplace (f.rung y)) : Int) = b
  have hp := P2_pos b
  have z0 : ((a : Rat) * P2 b < (c : Rat) * P2 b) ↔ a < c := by
    rw [Rat.mul_lt_mul_right hp]; exact Rat.intCast_lt_intCast
  have z1 : ((a : Rat) * P2 b = (c : Rat) * P2 b) ↔ a = c := by
    constructor
    · intro h
      have e1 := Rat.le_of_mul_le_mul_right (a := (a : Rat)) (b := (c : Rat)) (by rw [h]; exact Rat.le_refl) hp
      have e2 := Rat.le_of_mul_le_mul_right (a := (c : Rat)) (b := (a : Rat)) (by rw [h]; exact Rat.le_refl) hp
      exact Rat.intCast_inj.1 (Rat.le_antisymm e1 e2)
    · intro h; rw [h]
  simp only [z0, z1]
  congr 1

theorem order_lt {x y : Nat} (hx : f.fin x) (hy : f.fin y) : (f.order x y == some .lt) = decide (f.V x < f.V y) := by
  rw [f.order_fin hx hy]
  by_cases h : f.V x < f.V y
  · simp [h]
  · by_cases h2 : f.V x = f.V y <;> simp [h, h2]
theorem order_eq {x y : Nat} (hx : f.fin x) (hy : f.fin y) : (f.order x y == some .eq) = decide (f.V x = f.V y) := by
  rw [f.order_fin hx hy]
  by_cases h : f.V x < f.V y
  · have : f.V x ≠ f.V y := by grind
    simp [h, this]
  · by_cases h2 : f.V x = f.V y <;> simp [h, h2]
theorem order_gt {x y : Nat} (hx : f.fin x) (hy : f.fin y) : (f.order x y == some .gt) = decide (f.V y < f.V x) := by
  rw [f.order_fin hx hy]
  by_cases h : f.V x < f.V y
  · have : ¬ f.V y < f.V x := by grind
    simp [h, this]
  · by_cases h2 : f.V x = f.V y
    · simp [h2]
    · have : f.V y < f.V x := by grind
      simp [h, h2, this]

/-! ### the double of a single, and back -/
theorem sing_V {x : Nat} : Sing (single.V x) := by
  refine ⟨single.rung x, ?_⟩
  unfold V sg
  split
  · right; grind
  · left; grind

open Go in
theorem widen {x : Nat} (hx : single.fin x) : ∃ w, floatToFloatBits .f32 x .f64 = some w ∧ double.fin w ∧ double.V w = single.V x ∧ double.sgn w = single.sgn x := by
  obtain ⟨r, h1, h2⟩ := double.write_number double_fb (single.sgn x) (single.rmag (single.rung x)) (single.rplace (single.rung x))
  obtain ⟨b, hb⟩ := single_in_double (single.rung x)
  have e : (single.rmag (single.rung x) : Rat) * P2 (single.rplace (single.rung x)) = double.rv b := hb.symm
  rw [e] at h2
  obtain rfl := h2.eq_of
  have lt : r < double.infRung := by
    have a : single.rv (single.rung x) < single.rv single.infRung := single.rv_lt hx
    rw [← hb] at a
    have c : single.rv single.infRung = (8388608 : Nat) * P2 105 := by
      have := single.rv_at 254 8388608 (.inr (by decide)) (by decide)
      rw [show 254 * single.binade + 8388608 = single.infRung from by decide] at this
      rw [this, single_least]; rfl
    have d : double.rv double.infRung = (4503599627370496 : Nat) * P2 972 := by
      have := double.rv_at 2046 4503599627370496 (.inr (by decide)) (by decide)
      rw [show 2046 * double.binade + 4503599627370496 = double.infRung from by decide] at this
      rw [this, double_least]; rfl
    have g : single.rv single.infRung ≤ double.rv double.infRung := by
      rw [c, d]
      have := P2_mono (show (105 : Int) ≤ 972 by omega)
      have := P2_pos 105
      have e1 := Rat.mul_le_mul_of_nonneg_right (show ((8388608 : Nat) : Rat) ≤ ((4503599627370496 : Nat) : Rat) from by exact_mod_cast (show 8388608 ≤ 4503599627370496 by omega)) (Rat.le_of_lt this)
      grind
    exact double.rv_lt_iff.1 (by grind)
  have fw : double.fin (double.word (single.sgn x) (min r double.infRung)) := (double.fin_word_iff _ _).2 lt
  refine ⟨double.word (single.sgn x) (min r double.infRung), ?_, fw, ?_, ?_⟩
  · unfold floatToFloatBits
    rw [if_neg (by decide)]
    have hd : FloatKind.decode .f32 x = .number (single.sgn x) (single.rmag (single.rung x)) (single.rplace (single.rung x)) := single.read_fin hx
    rw [hd]
    have he : FloatKind.encode .f64 (.number (single.sgn x) (single.rmag (single.rung x)) (single.rplace (single.rung x))) = double.word (single.sgn x) (min r double.infRung) := h1
    dsimp only
    rw [he]
    have hd2 : FloatKind.decode .f64 (double.word (single.sgn x) (min r double.infRung)) = .number _ _ _ := double.read_fin fw
    rw [hd2]; rfl
  · rw [double.V_word lt, hb]; rfl
  · exact double.sgn_word _ (double.min_lt_sw r)

open Go in
/-- back: what the double 'z' of a number 'x' is as a single is 'x' rounded at once, where nothing is rounded to a midpoint -/
theorem narrow {z w : Nat} {x : Rat} {s : Bool} (hz : double.Rounds x s z) (hw : single.Rounds x s w) (fw : single.fin w)
    (hbad : ∀ k, double.Near (sg s * x) k → ∀ a, 2 * double.rv k = single.rv a + single.rv (a + 1) → sg s * x = double.rv k) :
    floatToFloatBits .f64 z .f32 = some w := by
  obtain ⟨k, rfl, hk⟩ := hz
  obtain ⟨r, rfl, hr⟩ := hw
  have hrl := (single.fin_word_iff s r).1 fw
  have lt : k < double.infRung := by
    -- the single is finite, so the number is below the infinite single
    have h1 := hr.up
    have h2 : single.rv (r + 1) ≤ single.rv single.infRung := single.rv_mono (by omega)
    have h3 := single.rv_lt_succ r
    have c : single.rv single.infRung = (8388608 : Nat) * P2 105 := by
      have := single.rv_at 254 8388608 (.inr (by decide)) (by decide)
      rw [show 254 * single.binade + 8388608 = single.infRung from by decide] at this
      rw [this, single_least]; rfl
    have d : double.rv (double.infRung - 1) = (9007199254740991 : Nat) * P2 971 := by
      have := double.rv_at 2045 9007199254740991 (.inr (by decide)) (by decide)
      rw [show 2045 * double.binade + 9007199254740991 = double.infRung - 1 from by decide] at this
      rw [this, double_least]; rfl
    have g : single.rv single.infRung ≤ double.rv (double.infRung - 1) := by
      rw [c, d]
      have := P2_mono (show (105 : Int) ≤ 971 by omega)
      have := P2_pos 105
      have e1 := Rat.mul_le_mul_of_nonneg_right (show ((8388608 : Nat) : Rat) ≤ ((9007199254740991 : Nat) : Rat) from by exact_mod_cast (show 8388608 ≤ 9007199254740991 by omega)) (Rat.le_of_lt this)
      have e2 : (0 : Rat) ≤ ((9007199254740991 : Nat) : Rat) := Rat.natCast_nonneg
      grind
    have := hk.le_of (b := double.infRung - 1) (by grind)
    have : 0 < double.infRung := by decide
    omega
  have fz : double.fin (double.word s (min k double.infRung)) := (double.fin_word_iff s k).2 lt
  have hd : FloatKind.decode .f64 (double.word s (min k double.infRung)) = .number s (double.rmag k) (double.rplace k) := by
    have h : double.read (double.word s (min k double.infRung)) = _ := double.read_fin fz
    rw [double.sgn_word s (double.min_lt_sw k), double.rung_word s (double.min_lt_sw k)] at h
    rw [show min k double.infRung = k from Nat.min_eq_left (by omega)] at h ⊢
    exact h
  obtain ⟨q, hq, hq2⟩ := single.write_number single_fb s (double.rmag k) (double.rplace k)
  have e : (double.rmag k : Rat) * P2 (double.rplace k) = double.rv k := rfl
  rw [e] at hq2
  have : q = r := near_twice hk hr hq2 single_mid_in_double (hbad k hk)
  subst this
  unfold floatToFloatBits
  rw [if_neg (by decide), hd]
  have he : FloatKind.encode .f32 (.number s (double.rmag k) (double.rplace k)) = single.word s (min q single.infRung) := hq
  dsimp only
  rw [he]
  have hd2 : FloatKind.decode .f32 (single.word s (min q single.infRung)) = .number _ _ _ := single.read_fin fw
  rw [hd2]; rfl

open Go

theorem V_sing_sg (s : Bool) {x : Rat} (h : Sing x) : Sing (sg s * x) := by
  cases s
  · simpa [sg] using h
  · have := h.neg
    simpa [sg, Rat.neg_mul] using this

theorem ref_add {x y w : Nat} (hx : single.fin x) (hy : single.fin y) (hw : single.add x y = some w) (fw : single.fin w) :
    ∃ X Y Z, floatToFloatBits .f32 x .f64 = some X ∧ floatToFloatBits .f32 y .f64 = some Y ∧ double.add X Y = some Z ∧ floatToFloatBits .f64 Z .f32 = some w := by
  obtain ⟨X, a1, a2, a3, a4⟩ := widen hx
  obtain ⟨Y, b1, b2, b3, b4⟩ := widen hy
  obtain ⟨Z, c1, c2⟩ := double.add_rounds double_fb a2 b2
  obtain ⟨W, d1, d2⟩ := single.add_rounds single_fb hx hy
  rw [hw] at d1; cases d1
  rw [a3, b3, a4, b4] at c2
  obtain ⟨s, hs⟩ : ∃ s, s = (sumSign (single.sgn x) (single.sgn y) (single.V x + single.V y)) := ⟨_, rfl⟩
  rw [← hs] at c2 d2
  refine ⟨X, Y, Z, a1, b1, c1, narrow c2 d2 fw fun k hk => ?_⟩
  refine add_bad (x := sg s * single.V x) (y := sg s * single.V y) (V_sing_sg _ sing_V) (V_sing_sg _ sing_V) (by grind) hk

theorem ref_sub {x y w : Nat} (hx : single.fin x) (hy : single.fin y) (hw : single.sub x y = some w) (fw : single.fin w) :
    ∃ X Y Z, floatToFloatBits .f32 x .f64 = some X ∧ floatToFloatBits .f32 y .f64 = some Y ∧ double.sub X Y = some Z ∧ floatToFloatBits .f64 Z .f32 = some w := by
  obtain ⟨X, a1, a2, a3, a4⟩ := widen hx
  obtain ⟨Y, b1, b2, b3, b4⟩ := widen hy
  obtain ⟨Z, c1, c2⟩ := double.sub_rounds double_fb a2 b2
  obtain ⟨W, d1, d2⟩ := single.sub_rounds single_fb hx hy
  rw [hw] at d1; cases d1
  rw [a3, b3, a4, b4] at c2
  obtain ⟨s, hs⟩ : ∃ s, s = (sumSign (single.sgn x) (!single.sgn y) (single.V x - single.V y)) := ⟨_, rfl⟩
  rw [← hs] at c2 d2
  refine ⟨X, Y, Z, a1, b1, c1, narrow c2 d2 fw fun k hk => ?_⟩
  refine add_bad (x := sg s * single.V x) (y := -(sg s * single.V y)) (V_sing_sg _ sing_V) (V_sing_sg _ sing_V).neg (by grind) hk

theorem ref_mul {x y w : Nat} (hx : single.fin x) (hy : single.fin y) (hw : single.mul x y = some w) (fw : single.fin w) :
    ∃ X Y Z, floatToFloatBits .f32 x .f64 = some X ∧ floatToFloatBits .f32 y .f64 = some Y ∧ double.mul X Y = some Z ∧ floatToFloatBits .f64 Z .f32 = some w := by
  obtain ⟨X, a1, a2, a3, a4⟩ := widen hx
  obtain ⟨Y, b1, b2, b3, b4⟩ := widen hy
  obtain ⟨Z, c1, c2⟩ := double.mul_rounds double_fb a2 b2
  obtain ⟨W, d1, d2⟩ := single.mul_rounds single_fb hx hy
  rw [hw] at d1; cases d1
  rw [a3, b3, a4, b4] at c2
  obtain ⟨s, hs⟩ : ∃ s, s = (single.sgn x ^^ single.sgn y) := ⟨_, rfl⟩
  rw [← hs] at c2 d2
  refine ⟨X, Y, Z, a1, b1, c1, narrow c2 d2 fw fun k hk a _ => ?_⟩
  exact mul_bad (x := sg s * single.V x) (y := single.V y) (V_sing_sg _ sing_V) sing_V (by grind) hk

end Format
end Ieee

namespace Ieee
namespace Format
open Go

theorem P2_one : P2 1 = 2 := by
  have := P2_succ 0
  rw [P2_zero] at this
  simpa using this

theorem rv_inf : single.rv single.infRung = P2 128 := by
  have := single.rv_at 254 8388608 (.inr (by decide)) (by decide)
  rw [show 254 * single.binade + 8388608 = single.infRung from by decide] at this
  rw [this, single_least, show (128 : Int) = (-149 + ((254 : Nat) : Int)) + 23 from by decide, P2_add _ 23, show P2 23 = ((2 ^ 23 : Nat) : Rat) from P2_nat 23]
  rw [Rat.mul_comm]

/-- a number that the format has comes out as it is -/
theorem Rounds.exact {x : Rat} {s : Bool} {w : Nat} (h : single.Rounds x s w) (z p : Int) (hz : z < 16777216) (hz' : -16777216 < z) (hp : -149 ≤ p) (hp' : p ≤ 104) (hx : x = (z : Rat) * P2 p) :
    single.fin w ∧ single.V w = x ∧ single.sgn w = s := by
  obtain ⟨r, rfl, hr⟩ := h
  have h0 := hr.2.2
  have hpp := P2_pos p
  have e : sg s * x = ((z.natAbs : Nat) : Rat) * P2 p := by
    by_cases c : z < 0
    · have e : ((z.natAbs : Nat) : Rat) = -((z : Int) : Rat) := by
        rw [← Rat.intCast_natCast, show (z.natAbs : Int) = -z from by omega, Rat.intCast_neg]
      have zn : (z : Rat) < 0 := Rat.intCast_neg_iff.2 c
      have xn : x < 0 := by rw [hx, Rat.mul_comm, Rat.mul_neg_iff_of_pos_left hpp]; exact zn
      rw [e]
      cases s
      · simp [sg] at h0 ⊢; grind
      · simp [sg] at h0 ⊢; grind
    · have e : ((z.natAbs : Nat) : Rat) = ((z : Int) : Rat) := by
        rw [← Rat.intCast_natCast, show (z.natAbs : Int) = z from by omega]
      have zn : (0 : Rat) ≤ (z : Rat) := Rat.intCast_nonneg.2 (by omega)
      have xn : 0 ≤ x := by rw [hx]; exact Rat.mul_nonneg zn (Rat.le_of_lt hpp)
      rw [e]
      cases s
      · simp [sg] at h0 ⊢; grind
      · simp [sg] at h0 ⊢; grind
  obtain ⟨b, hb⟩ := single.rep' (m := z.natAbs) (p := p) (by rw [single_binade]; omega) (by rw [single_least]; omega)
  rw [e, ← hb] at hr
  obtain rfl := hr.eq_of
  have lt : r < single.infRung := by
    refine single.rv_lt_iff.1 ?_
    rw [rv_inf, hb]
    have h1 : ((z.natAbs : Nat) : Rat) < ((2 ^ 24 : Nat) : Rat) := by exact_mod_cast (show z.natAbs < 2 ^ 24 by omega)
    have h2 := Rat.mul_lt_mul_of_pos_right h1 hpp
    have h3 : ((2 ^ 24 : Nat) : Rat) * P2 p = P2 (p + 24) := by rw [P2_add, Rat.mul_comm]; rw [show P2 24 = ((2 ^ 24 : Nat) : Rat) from P2_nat 24]
    have h4 := P2_mono (show p + 24 ≤ 128 by omega)
    grind
  refine ⟨(single.fin_word_iff s r).2 lt, ?_, single.sgn_word s (single.min_lt_sw r)⟩
  rw [single.V_word lt, hb, ← e, ← Rat.mul_assoc, sg_sq, Rat.one_mul]

/-- a constant: 'k' at place 'l - 149' -/
theorem V_const (s : Bool) (l k : Nat) (h : l = 0 ∨ 8388608 ≤ k) (h2 : k ≤ 16777216) (h3 : l * 8388608 + k < single.infRung) :
    single.fin (single.word s (l * 8388608 + k)) ∧ single.V (single.word s (l * 8388608 + k)) = sg s * ((k : Rat) * P2 ((l : Int) - 149)) ∧ single.sgn (single.word s (l * 8388608 + k)) = s := by
  have hs : l * 8388608 + k < single.signWeight := Nat.lt_trans h3 single.infRung_lt
  refine ⟨?_, ?_, single.sgn_word s hs⟩
  · unfold fin; rw [single.rung_word s hs]; exact h3
  · unfold V
    rw [single.sgn_word s hs, single.rung_word s hs]
    have := single.rv_at l k (by rw [single_binade]; exact h) (by rw [single_binade]; omega)
    rw [single_binade, single_least] at this
    rw [this]
    congr 3

/-- 'float32(n)' of a small integer -/
theorem conv_exact (n : Int) (h : n < 16777216) (h' : -16777216 < n) : single.fin (floatOfInt .f32 n) ∧ single.V (floatOfInt .f32 n) = (n : Rat) ∧ single.sgn (floatOfInt .f32 n) = decide (n < 0) := by
  have e : sg (decide (n < 0)) * ((n.natAbs : Nat) : Rat) * P2 0 = (n : Rat) := by
    rw [P2_zero, Rat.mul_one]
    by_cases c : n < 0
    · have e : ((n.natAbs : Nat) : Rat) = -((n : Int) : Rat) := by
        rw [← Rat.intCast_natCast, show (n.natAbs : Int) = -n from by omega, Rat.intCast_neg]
      rw [e]; simp [c, sg]; grind
    · have e : ((n.natAbs : Nat) : Rat) = ((n : Int) : Rat) := by
        rw [← Rat.intCast_natCast, show (n.natAbs : Int) = n from by omega]
      rw [e]; simp [c, sg]
  have r : single.Rounds (n : Rat) (decide (n < 0)) (floatOfInt .f32 n) := single.write_rounds single_fb (decide (n < 0)) n.natAbs 0 (by rw [← e]; grind)
  exact r.exact n 0 h h' (by decide) (by decide) (by rw [P2_zero, Rat.mul_one])


/-! ### the operations as functions -/
def addF (x y : Nat) : Nat := (single.add x y).getD 0
def subF (x y : Nat) : Nat := (single.sub x y).getD 0
def mulF (x y : Nat) : Nat := (single.mul x y).getD 0

theorem addF_spec {x y : Nat} (hx : single.fin x) (hy : single.fin y) : single.add x y = some (addF x y) ∧ single.Rounds (single.V x + single.V y) (sumSign (single.sgn x) (single.sgn y) (single.V x + single.V y)) (addF x y) := by
  obtain ⟨w, h1, h2⟩ := single.add_rounds single_fb hx hy
  have : addF x y = w := by unfold addF; rw [h1]; rfl
  rw [this]; exact ⟨h1, h2⟩
theorem subF_spec {x y : Nat} (hx : single.fin x) (hy : single.fin y) : single.sub x y = some (subF x y) ∧ single.Rounds (single.V x - single.V y) (sumSign (single.sgn x) (!single.sgn y) (single.V x - single.V y)) (subF x y) := by
  obtain ⟨w, h1, h2⟩ := single.sub_rounds single_fb hx hy
  have : subF x y = w := by unfold subF; rw [h1]; rfl
  rw [this]; exact ⟨h1, h2⟩
theorem mulF_spec {x y : Nat} (hx : single.fin x) (hy : single.fin y) : single.mul x y = some (mulF x y) ∧ single.Rounds (single.V x * single.V y) (single.sgn x ^^ single.sgn y) (mulF x y) := by
  obtain ⟨w, h1, h2⟩ := single.mul_rounds single_fb hx hy
  have : mulF x y = w := by unfold mulF; rw [h1]; rfl
  rw [this]; exact ⟨h1, h2⟩

/-- what the walk asks of an operation on singles -/
theorem bits_add {x y : Nat} (hx : single.fin x) (hy : single.fin y) : floatBits .add .f32 x y = some (addF x y) := (addF_spec hx hy).1
theorem bits_sub {x y : Nat} (hx : single.fin x) (hy : single.fin y) : floatBits .sub .f32 x y = some (subF x y) := (subF_spec hx hy).1
theorem bits_mul {x y : Nat} (hx : single.fin x) (hy : single.fin y) : floatBits .mul .f32 x y = some (mulF x y) := (mulF_spec hx hy).1

/-- the double road -/
theorem road_add {x y : Nat} (hx : single.fin x) (hy : single.fin y) (fw : single.fin (addF x y)) :
    ∃ X Y Z, floatToFloatBits .f32 x .f64 = some X ∧ floatToFloatBits .f32 y .f64 = some Y ∧ floatBits .add .f64 X Y = some Z ∧ floatToFloatBits .f64 Z .f32 = some (addF x y) :=
  ref_add hx hy (addF_spec hx hy).1 fw
theorem road_sub {x y : Nat} (hx : single.fin x) (hy : single.fin y) (fw : single.fin (subF x y)) :
    ∃ X Y Z, floatToFloatBits .f32 x .f64 = some X ∧ floatToFloatBits .f32 y .f64 = some Y ∧ floatBits .sub .f64 X Y = some Z ∧ floatToFloatBits .f64 Z .f32 = some (subF x y) :=
  ref_sub hx hy (subF_spec hx hy).1 fw
theorem road_mul {x y : Nat} (hx : single.fin x) (hy : single.fin y) (fw : single.fin (mulF x y)) :
    ∃ X Y Z, floatToFloatBits .f32 x .f64 = some X ∧ floatToFloatBits .f32 y .f64 = some Y ∧ floatBits .mul .f64 X Y = some Z ∧ floatToFloatBits .f64 Z .f32 = some (mulF x y) :=
  ref_mul hx hy (mulF_spec hx hy).1 fw

theorem const_0 : single.fin 0 ∧ single.V 0 = 0 ∧ single.sgn 0 = false := by
  have := V_const false 0 0 (.inl rfl) (by decide) (by decide)
  rw [show single.word false (0 * 8388608 + 0) = 0 from by decide] at this
  refine ⟨this.1, ?_, this.2.2⟩
  rw [this.2.1]; simp
theorem const_1 : single.fin 1065353216 ∧ single.V 1065353216 = 1 ∧ single.sgn 1065353216 = false := by
  have := V_const false 126 8388608 (.inr (by decide)) (by decide) (by decide)
  rw [show single.word false (126 * 8388608 + 8388608) = 1065353216 from by decide] at this
  refine ⟨this.1, ?_, this.2.2⟩
  rw [this.2.1, show ((126 : Nat) : Int) - 149 = -23 from rfl, show ((8388608 : Nat) : Rat) = P2 23 from (P2_nat 23).symm, ← P2_add]
  simp [sg, P2_zero]
theorem const_n1 : single.fin 3212836864 ∧ single.V 3212836864 = -1 ∧ single.sgn 3212836864 = true := by
  have := V_const true 126 8388608 (.inr (by decide)) (by decide) (by decide)
  rw [show single.word true (126 * 8388608 + 8388608) = 3212836864 from by decide] at this
  refine ⟨this.1, ?_, this.2.2⟩
  rw [this.2.1, show ((126 : Nat) : Int) - 149 = -23 from rfl, show ((8388608 : Nat) : Rat) = P2 23 from (P2_nat 23).symm, ← P2_add]
  simp [sg, P2_zero]
theorem const_2 : single.fin 1073741824 ∧ single.V 1073741824 = 2 ∧ single.sgn 1073741824 = false := by
  have := V_const false 127 8388608 (.inr (by decide)) (by decide) (by decide)
  rw [show single.word false (127 * 8388608 + 8388608) = 1073741824 from by decide] at this
  refine ⟨this.1, ?_, this.2.2⟩
  rw [this.2.1, show ((127 : Nat) : Int) - 149 = -22 from rfl, show ((8388608 : Nat) : Rat) = P2 23 from (P2_nat 23).symm, ← P2_add]
  simp [sg]
  exact P2_one
theorem const_m24 : single.fin 864026624 ∧ single.V 864026624 = P2 (-24) ∧ single.sgn 864026624 = false := by
  have := V_const false 102 8388608 (.inr (by decide)) (by decide) (by decide)
  rw [show single.word false (102 * 8388608 + 8388608) = 864026624 from by decide] at this
  refine ⟨this.1, ?_, this.2.2⟩
  rw [this.2.1, show ((102 : Nat) : Int) - 149 = -47 from rfl, show ((8388608 : Nat) : Rat) = P2 23 from (P2_nat 23).symm, ← P2_add]
  simp [sg]

/-! ### units -/
def unitF (h : Int) : Nat := mulF (floatOfInt .f32 (h / 256)) 864026624
def signedF (h : Int) : Nat := subF (mulF (unitF h) 1073741824) 1065353216

theorem unit_ok (h : Int) (h0 : 0 ≤ h) (h1 : h < 4294967296) : single.fin (floatOfInt .f32 (h / 256)) ∧ single.fin (unitF h) ∧ single.V (unitF h) = ((h / 256 : Int) : Rat) * P2 (-24) ∧ single.sgn (unitF h) = false := by
  obtain ⟨c1, c2, c3⟩ := conv_exact (h / 256) (by omega) (by omega)
  obtain ⟨d1, d2, d3⟩ := const_m24
  have r := (mulF_spec c1 d1).2
  rw [c2, c3, d2, d3, show decide (h / 256 < 0) = false from by simp; omega] at r
  exact ⟨c1, r.exact (h / 256) (-24) (by omega) (by omega) (by decide) (by decide) rfl⟩

theorem signed_ok (h : Int) (h0 : 0 ≤ h) (h1 : h < 4294967296) : single.fin (mulF (unitF h) 1073741824) ∧ single.fin (signedF h) ∧ single.V (signedF h) = ((h / 256 : Int) : Rat) * P2 (-23) - 1 := by
  obtain ⟨_, c1, c2, c3⟩ := unit_ok h h0 h1
  obtain ⟨d1, d2, d3⟩ := const_2
  obtain ⟨g1, g2, g3⟩ := const_1
  have r := (mulF_spec c1 d1).2
  have e := P2_succ (-24)
  rw [show (-24 + 1 : Int) = -23 from by decide] at e
  obtain ⟨k1, k2, k3⟩ := r.exact (h / 256) (-23) (by omega) (by omega) (by decide) (by decide) (by rw [c2, d2, e]; grind)
  have r2 := (subF_spec k1 g1).2
  have e1 : (1 : Rat) = ((8388608 : Nat) : Rat) * P2 (-23) := by
    rw [show ((8388608 : Nat) : Rat) = P2 23 from (P2_nat 23).symm, ← P2_add]; exact P2_zero.symm
  have v : single.V (mulF (unitF h) 1073741824) - single.V 1065353216 = ((h / 256 - 8388608 : Int) : Rat) * P2 (-23) := by
    rw [k2, g2, c2, d2, Rat.intCast_sub]
    have : ((8388608 : Int) : Rat) = ((8388608 : Nat) : Rat) := rfl
    rw [this]; grind
  obtain ⟨m1, m2, m3⟩ := r2.exact (h / 256 - 8388608) (-23) (by omega) (by omega) (by decide) (by decide) v
  refine ⟨k1, m1, ?_⟩
  unfold signedF
  rw [m2, k2, g2, c2, d2, e]; grind

theorem unit_bounds (h : Int) (h0 : 0 ≤ h) (h1 : h < 4294967296) : 0 ≤ single.V (unitF h) ∧ single.V (unitF h) < 1 ∧ -1 ≤ single.V (signedF h) ∧ single.V (signedF h) < 1 := by
  obtain ⟨_, _, c, _⟩ := unit_ok h h0 h1
  obtain ⟨_, _, d⟩ := signed_ok h h0 h1
  rw [c, d]
  have a0 : (0 : Rat) ≤ ((h / 256 : Int) : Rat) := Rat.intCast_nonneg.2 (by omega)
  have a1 : ((h / 256 : Int) : Rat) < ((2 ^ 24 : Nat) : Rat) := by
    rw [← Rat.intCast_natCast]; exact Rat.intCast_lt_intCast.2 (by omega)
  have p := P2_pos (-24)
  have e : ((2 ^ 24 : Nat) : Rat) * P2 (-24) = 1 := by rw [← P2_nat 24, ← P2_add]; exact P2_zero
  have e2 := P2_succ (-24)
  rw [show (-24 + 1 : Int) = -23 from by decide] at e2
  have m := Rat.mul_lt_mul_of_pos_right a1 p
  have n := Rat.mul_nonneg a0 (Rat.le_of_lt p)
  rw [e2]
  refine ⟨by grind, by grind, by grind, by grind⟩

end Format
end Ieee

namespace Ieee
namespace Format
open Go

theorem single_inf : single.infRung = 2139095040 := by decide
theorem single_sw : single.signWeight = 2147483648 := by decide
theorem double_inf : double.infRung = 9218868437227405312 := by decide
theorem double_sw : double.signWeight = 9223372036854775808 := by decide
theorem single_bi : single.binade ≤ single.infRung := by decide
theorem double_bi : double.binade ≤ double.infRung := by decide

theorem read_inf (f : Format) (hb : f.binade ≤ f.infRung) {w : Nat} (h : f.rung w = f.infRung) : f.read w = .infinity (f.sgn w) := by
  unfold read
  change (if f.rung w < f.binade then _ else if f.rung w < f.infRung then _ else if f.rung w = f.infRung then _ else _) = _
  rw [if_neg (by omega), if_neg (by omega), if_pos h]
  rfl
theorem read_nan (f : Format) (hb : f.binade ≤ f.infRung) {w : Nat} (h : f.infRung < f.rung w) : f.read w = .nan (f.sgn w) (f.rung w - f.infRung) := by
  unfold read
  change (if f.rung w < f.binade then _ else if f.rung w < f.infRung then _ else if f.rung w = f.infRung then _ else _) = _
  rw [if_neg (by omega), if_neg (by omega), if_neg (by omega)]
  rfl

theorem order_nan_left (f : Format) (hb : f.binade ≤ f.infRung) {x : Nat} (y : Nat) (h : f.infRung < f.rung x) : f.order x y = none := by
  unfold order
  rw [f.read_nan hb h]; rfl
theorem order_inf_left (f : Format) (hb : f.binade ≤ f.infRung) {x y : Nat} (h : f.rung x = f.infRung) (hy : f.fin y) : f.order x y = some (if f.sgn x then .lt else .gt) := by
  unfold order
  rw [f.read_inf hb h, f.read_fin hy]; rfl

/-- the lesser rung is the lesser magnitude -/
theorem V_le_rung {x c : Nat} (h : single.rung x ≤ single.rung c) (hc : single.sgn c = false) : single.V x ≤ single.V c := by
  have m := single.rv_mono h
  have p := single.rv_nonneg (single.rung x)
  unfold V; rw [hc]
  cases single.sgn x <;> simp [sg] <;> grind
theorem V_ge_rung {x c : Nat} (h : single.rung x ≤ single.rung c) (hc : single.sgn c = false) : -single.V c ≤ single.V x := by
  have m := single.rv_mono h
  have p := single.rv_nonneg (single.rung x)
  have q := single.rv_nonneg (single.rung c)
  unfold V; rw [hc]
  cases single.sgn x <;> simp [sg] <;> grind
theorem V_far_rung {x c : Nat} (h : single.rung c < single.rung x) (hc : single.sgn c = false) : single.V c < single.V x ∨ single.V x < -single.V c := by
  have m := single.rv_lt h
  unfold V; rw [hc]
  cases single.sgn x <;> simp [sg] <;> grind
theorem V_rung_iff {x c : Nat} (hc : single.sgn c = false) : (-single.V c ≤ single.V x ∧ single.V x ≤ single.V c) ↔ single.rung x ≤ single.rung c := by
  constructor
  · rintro ⟨a, b⟩
    by_cases h : single.rung x ≤ single.rung c
    · exact h
    · have hlt : single.rung c < single.rung x := by omega
      rcases V_far_rung hlt hc with d | d <;> grind
  · intro h; exact ⟨V_ge_rung h hc, V_le_rung h hc⟩

theorem rung_lit (w : Nat) : single.rung w = w % 2147483648 := by unfold rung; rw [single_sw]
theorem sgn_lit (w : Nat) : single.sgn w = (w / 2147483648 % 2 == 1) := by unfold sgn; rw [single_sw]
theorem fin_lit (w : Nat) : single.fin w ↔ w % 2147483648 < 2139095040 := by unfold fin; rw [rung_lit, single_inf]

theorem V_neg_word {c d : Nat} (h : single.rung d = single.rung c) (hc : single.sgn c = false) (hd : single.sgn d = true) : single.V d = -single.V c := by
  unfold V; rw [h, hc, hd]; simp [sg]; grind

/-- 'low ≤ x ∧ x ≤ high' as Go asks it, 'high' a positive constant and 'low' its opposite -/
theorem between {x c d : Nat} (fc : single.fin c) (fd : single.fin d) (h : single.rung d = single.rung c) (hc : single.sgn c = false) (hd : single.sgn d = true) :
    (((single.order x d == some .gt || single.order x d == some .eq) && (single.order x c == some .lt || single.order x c == some .eq)) = decide (single.rung x ≤ single.rung c)) := by
  by_cases hx : single.fin x
  · rw [single.order_gt hx fd, single.order_eq hx fd, single.order_lt hx fc, single.order_eq hx fc, V_neg_word h hc hd, Bool.eq_iff_iff]
    simp only [Bool.and_eq_true, Bool.or_eq_true, decide_eq_true_iff, ← V_rung_iff hc]
    constructor
    · rintro ⟨a, b⟩; constructor <;> grind
    · rintro ⟨a, b⟩; constructor <;> grind
  · have hf : single.rung c < single.infRung := fc
    have hg : ¬ single.rung x < single.infRung := hx
    rw [show decide (single.rung x ≤ single.rung c) = false from decide_eq_false (by omega)]
    by_cases e : single.rung x = single.infRung
    · rw [single.order_inf_left single_bi e fd, single.order_inf_left single_bi e fc]
      cases single.sgn x <;> rfl
    · rw [single.order_nan_left single_bi d (by omega), single.order_nan_left single_bi c (by omega)]
      rfl

theorem finite_test (x : Nat) : ((single.order x 4286578687 == some .gt || single.order x 4286578687 == some .eq) && (single.order x 2139095039 == some .lt || single.order x 2139095039 == some .eq)) = decide (single.fin x) := by
  have := between (x := x) (c := 2139095039) (d := 4286578687) (by decide) (by decide) (by decide) (by decide) (by decide)
  rw [this]
  congr 1
  rw [eq_iff_iff, fin_lit, rung_lit, rung_lit]; omega
theorem height_test (x : Nat) : ((single.order x 3380609024 == some .gt || single.order x 3380609024 == some .eq) && (single.order x 1233125376 == some .lt || single.order x 1233125376 == some .eq)) = decide (x % 2147483648 ≤ 1233125376) := by
  have := between (x := x) (c := 1233125376) (d := 3380609024) (by decide) (by decide) (by decide) (by decide) (by decide)
  rw [this]
  congr 1

/-- the error of a single that should be a height -/
def heightE (x : Nat) : Int := if ¬ single.fin x then 2 else if x % 2147483648 ≤ 1233125376 then 0 else 3
def heightsE (l : List Nat) : Int := if l.all (fun x => decide (single.fin x)) then (if l.all (fun x => decide (x % 2147483648 ≤ 1233125376)) then 0 else 3) else 2

theorem is_nan_test (x : Nat) : (single.order x x != some .eq) = decide (2139095040 < x % 2147483648) := by
  by_cases hx : single.fin x
  · have : (single.order x x == some .eq) = true := by rw [single.order_eq hx hx]; simp
    rw [bne, this]
    rw [fin_lit] at hx
    simp; omega
  · rw [fin_lit] at hx
    by_cases e : x % 2147483648 = 2139095040
    · have e' : single.rung x = single.infRung := by rw [rung_lit, single_inf]; exact e
      unfold order
      rw [single.read_inf single_bi e']
      rw [show Datum.order (.infinity (single.sgn x)) (.infinity (single.sgn x)) = some .eq from by cases single.sgn x <;> rfl, e]
      rfl
    · rw [single.order_nan_left single_bi x (by rw [rung_lit, single_inf]; omega)]
      rw [show decide (2139095040 < x % 2147483648) = true from decide_eq_true (by omega)]
      rfl

/-- the greater test on a magnitude: 'c' a positive finite constant -/
theorem mag_gt {x c : Nat} (hx : single.sgn x = false) (hn : single.rung x ≤ single.infRung) (fc : single.fin c) (hc : single.sgn c = false) : (single.order x c == some .gt) = decide (single.rung c < single.rung x) := by
  by_cases fx : single.fin x
  · rw [single.order_gt fx fc, Bool.eq_iff_iff, decide_eq_true_iff, decide_eq_true_iff]
    unfold V; rw [hx, hc]
    simp only [sg, Bool.false_eq_true, if_false, Rat.one_mul]
    exact single.rv_lt_iff
  · have fx' : ¬ single.rung x < single.infRung := fx
    have fc' : single.rung c < single.infRung := fc
    rw [single.order_inf_left single_bi (by omega) fc, hx]
    simp; omega
end Format
end Ieee

namespace Ieee
namespace Format
open Go

theorem Near.lt_of {f : Format} {v : Rat} {r c : Nat} (h : f.Near v r) (hv : 2 * v < f.rv c + f.rv (c + 1)) : r ≤ c := by
  by_cases hr : r ≤ c
  · exact hr
  · exfalso
    have d := h.down (by omega)
    have m1 := f.rv_mono (show c ≤ r - 1 by omega)
    have m2 := f.rv_mono (show c + 1 ≤ r by omega)
    grind

theorem V_pos_word {c : Nat} (hc : single.sgn c = false) : single.V c = single.rv (single.rung c) := by
  unfold V; rw [hc]; simp [sg]

/-- what is no greater than a constant stays so -/
theorem Rounds.bound {x : Rat} {s : Bool} {w c : Nat} (h : single.Rounds x s w) (fc : single.fin c) (hc : single.sgn c = false) (h1 : x ≤ single.V c) (h2 : -single.V c ≤ x) :
    single.fin w ∧ single.V w ≤ single.V c ∧ -single.V c ≤ single.V w ∧ single.rung w ≤ single.rung c ∧ single.sgn w = s := by
  obtain ⟨r, rfl, hr⟩ := h
  rw [V_pos_word hc] at *
  have hb : sg s * x ≤ single.rv (single.rung c) := by cases s <;> simp [sg] <;> grind
  have hle := hr.le_of hb
  have fc' : single.rung c < single.infRung := fc
  have lt : r < single.infRung := by omega
  have e : single.rung (single.word s (min r single.infRung)) = r := by
    rw [single.rung_word s (single.min_lt_sw r), Nat.min_eq_left (by omega)]
  refine ⟨(single.fin_word_iff s r).2 lt, ?_, ?_, by rw [e]; exact hle, single.sgn_word s (single.min_lt_sw r)⟩ <;> rw [single.V_word lt] <;>
    have m := single.rv_mono hle <;> have p := single.rv_nonneg r <;> cases s <;> simp [sg] <;> grind

/-- the sign is kept -/
theorem Rounds.nonneg {x : Rat} {s : Bool} {w : Nat} (h : single.Rounds x s w) (fw : single.fin w) (h0 : 0 ≤ x) : 0 ≤ single.V w := by
  obtain ⟨r, rfl, hr⟩ := h
  have lt := (single.fin_word_iff s r).1 fw
  rw [single.V_word lt]
  have p := single.rv_nonneg r
  cases s
  · simp [sg]; grind
  · have h1 := hr.2.2
    simp [sg] at h1
    have x0 : x = 0 := by grind
    subst x0
    have hz : single.Near (single.rv 0) r := by rw [single.rv_zero]; simpa [sg] using hr
    have := hz.eq_of
    subst this
    rw [single.rv_zero]; simp [sg]

theorem Rounds.ge_const {x : Rat} {s : Bool} {w c : Nat} (h : single.Rounds x s w) (fw : single.fin w) (hc : single.sgn c = false) (h0 : 0 < single.V c) (h1 : single.V c ≤ x) : single.V c ≤ single.V w := by
  obtain ⟨r, rfl, hr⟩ := h
  have lt := (single.fin_word_iff s r).1 fw
  rw [single.V_word lt]
  have hs : s = false := by
    cases s
    · rfl
    · have := hr.2.2; simp [sg] at this; grind
  subst hs
  rw [V_pos_word hc] at *
  have := hr.ge_of (b := single.rung c) (by simp [sg]; grind)
  have := single.rv_mono this
  simp [sg]; grind

theorem const_3 : single.fin 1077936128 ∧ single.V 1077936128 = 3 ∧ single.sgn 1077936128 = false := by
  have := V_const false 127 12582912 (.inr (by decide)) (by decide) (by decide)
  rw [show single.word false (127 * 8388608 + 12582912) = 1077936128 from by decide] at this
  refine ⟨this.1, ?_, this.2.2⟩
  rw [this.2.1, show ((127 : Nat) : Int) - 149 = -22 from rfl]
  have : P2 22 * P2 (-22) = 1 := by rw [← P2_add]; exact P2_zero
  rw [show P2 22 = ((2 ^ 22 : Nat) : Rat) from P2_nat 22] at this
  simp only [sg]; grind
theorem const_half : single.fin 1056964608 ∧ single.V 1056964608 = 1 / 2 ∧ single.sgn 1056964608 = false := by
  have := V_const false 125 8388608 (.inr (by decide)) (by decide) (by decide)
  rw [show single.word false (125 * 8388608 + 8388608) = 1056964608 from by decide] at this
  refine ⟨this.1, ?_, this.2.2⟩
  rw [this.2.1, show ((125 : Nat) : Int) - 149 = -24 from rfl]
  have : P2 24 * P2 (-24) = 1 := by rw [← P2_add]; exact P2_zero
  rw [show P2 24 = ((2 ^ 24 : Nat) : Rat) from P2_nat 24] at this
  simp only [sg]; grind
theorem const_quarter : single.fin 1048576000 ∧ single.V 1048576000 = 1 / 4 ∧ single.sgn 1048576000 = false := by
  have := V_const false 124 8388608 (.inr (by decide)) (by decide) (by decide)
  rw [show single.word false (124 * 8388608 + 8388608) = 1048576000 from by decide] at this
  refine ⟨this.1, ?_, this.2.2⟩
  rw [this.2.1, show ((124 : Nat) : Int) - 149 = -25 from rfl]
  have : P2 25 * P2 (-25) = 1 := by rw [← P2_add]; exact P2_zero
  rw [show P2 25 = ((2 ^ 25 : Nat) : Rat) from P2_nat 25] at this
  simp only [sg]; grind

/-! ### Ease -/
def ease1 (t : Nat) : Nat := mulF t t
def ease2 (t : Nat) : Nat := mulF 1073741824 t
def ease3 (t : Nat) : Nat := subF 1077936128 (ease2 t)
def easeF (t : Nat) : Nat := mulF (ease1 t) (ease3 t)

theorem sq_le {T : Rat} (h0 : 0 ≤ T) {c : Rat} (h : T ≤ c) : T * T ≤ c * c := by
  have a := Rat.mul_le_mul_of_nonneg_left h h0
  have b := Rat.mul_le_mul_of_nonneg_right h (show 0 ≤ c by grind)
  grind

theorem ease_ok {t : Nat} (ft : single.fin t) (h0 : 0 ≤ single.V t) (h1 : single.V t ≤ 1) :
    single.fin (ease1 t) ∧ single.fin (ease2 t) ∧ single.fin (ease3 t) ∧ single.fin (easeF t) ∧ 0 ≤ single.V (easeF t) ∧ single.V (easeF t) ≤ 1 := by
  obtain ⟨f1, v1, s1⟩ := const_1
  obtain ⟨f2, v2, s2⟩ := const_2
  obtain ⟨f3, v3, s3⟩ := const_3
  obtain ⟨fq, vq, sq⟩ := const_quarter
  have ra := (mulF_spec ft ft).2
  have rb := (mulF_spec f2 ft).2
  have T2 : 0 ≤ single.V t * single.V t := Rat.mul_nonneg h0 h0
  have T2' : single.V t * single.V t ≤ 1 := by have := sq_le h0 h1; grind
  obtain ⟨fa, a1, a2, _, _⟩ := ra.bound f1 s1 (by rw [v1]; exact T2') (by rw [v1]; grind)
  have a0 := ra.nonneg fa T2
  obtain ⟨fb, b1, b2, _, _⟩ := rb.bound f2 s2 (by rw [v2]; grind) (by rw [v2]; grind)
  have b0 := rb.nonneg fb (by rw [v2]; grind)
  have rc := (subF_spec f3 fb).2
  obtain ⟨fc, c1, c2, _, _⟩ := rc.bound f3 s3 (by rw [v3]; grind) (by rw [v3]; rw [v2] at b1; grind)
  have c0 := rc.nonneg fc (by rw [v3]; rw [v2] at b1; grind)
  have rd := (mulF_spec fa fc).2
  rw [v1] at a1; rw [v2] at b1; rw [v3] at c1
  refine ⟨fa, fb, fc, ?_⟩
  -- the product is less than halfway above 1
  have key : single.V (ease1 t) * single.V (ease3 t) ≤ 1 ∨ 2 * (single.V (ease1 t) * single.V (ease3 t)) < 2 + P2 (-23) := by
    by_cases hh : single.V t ≤ 1 / 2
    · left
      obtain ⟨_, q1, _, _, _⟩ := ra.bound fq sq (by rw [vq]; have := sq_le h0 hh; grind) (by rw [vq]; grind)
      rw [vq] at q1
      have m1 := Rat.mul_le_mul_of_nonneg_right q1 c0
      unfold ease1 ease3 ease2
      grind
    · by_cases ht1 : single.V t = 1
      · left
        have e2 : single.V (ease3 t) ≤ 1 := by
          have e0 : single.V (mulF 1073741824 t) = 2 := by
            obtain ⟨_, q, _⟩ := rb.exact 1 1 (by decide) (by decide) (by decide) (by decide) (by rw [v2, ht1, P2_one]; simp)
            rw [q, v2, ht1]; grind
          obtain ⟨_, q, _⟩ := rc.exact 1 0 (by decide) (by decide) (by decide) (by decide) (by rw [v3, e0, P2_zero]; simp; grind)
          unfold ease3 ease2
          rw [q, v3, e0]; grind
        have m := Rat.mul_le_mul_of_nonneg_right a1 c0
        unfold ease1
        unfold ease3 ease2 at e2 ⊢
        grind
      · right
        -- t is n / 2^24
        obtain ⟨hf, hv, hs⟩ := const_half
        have st : single.sgn t = false := by
          cases hc : single.sgn t
          · rfl
          · unfold V at hh; rw [hc] at hh
            have := single.rv_nonneg (single.rung t)
            simp [sg] at hh; grind
        have vt := V_pos_word st
        have lo : single.rung 1056964608 ≤ single.rung t := by
          by_cases l : single.rung 1056964608 ≤ single.rung t
          · exact l
          · have m := single.rv_lt (show single.rung t < single.rung 1056964608 by omega)
            rw [← V_pos_word hs, hv] at m
            grind
        have hi : single.rung t < single.rung 1065353216 := by
          refine single.rv_lt_iff.1 ?_
          rw [← V_pos_word s1, v1, ← vt]; grind
        rw [show single.rung 1056964608 = 1056964608 from by decide] at lo
        rw [show single.rung 1065353216 = 1065353216 from by decide] at hi
        obtain ⟨k, hk⟩ : ∃ k, single.rung t = 125 * 8388608 + k := ⟨single.rung t - 125 * 8388608, by omega⟩
        have tv := single.rv_at 125 k (by rw [single_binade]; right; omega) (by rw [single_binade]; omega)
        rw [single_binade, ← hk, ← vt, single_least, show (-149 : Int) + ((125 : Nat) : Int) = -24 from rfl] at tv
        have hkl : 8388608 ≤ k := by omega
        have hku : k < 16777216 := by omega
        have e23 := P2_succ (-24)
        rw [show (-24 + 1 : Int) = -23 from by decide] at e23
        have one : (1 : Rat) = ((2 ^ 24 : Nat) : Rat) * P2 (-24) := by
          rw [← P2_nat 24, ← P2_add]; exact P2_zero.symm
        -- 2 t and 3 - 2 t are exact
        obtain ⟨_, qb, _⟩ := rb.exact k (-23) (by omega) (by omega) (by decide) (by decide) (by rw [v2, tv, e23, Rat.intCast_natCast]; grind)
        have eb : single.V 1073741824 * single.V t = 2 * single.V t := by rw [v2]
        rw [eb] at qb
        have k8 : 8388608 < k ∨ k = 8388608 := by omega
        have hhk : k ≠ 8388608 := by
          intro c
          apply hh
          rw [tv, c]
          have : ((8388608 : Nat) : Rat) * 2 = ((2 ^ 24 : Nat) : Rat) := by
            have : ((8388608 * 2 : Nat) : Rat) = ((2 ^ 24 : Nat) : Rat) := by rw [show 8388608 * 2 = 2 ^ 24 from rfl]
            rw [← this, Rat.natCast_mul]; rfl
          grind
        obtain ⟨_, qc, _⟩ := rc.exact (25165824 - k) (-23) (by omega) (by omega) (by decide) (by decide) (by
          rw [v3, qb, tv, e23, Rat.intCast_sub, Rat.intCast_natCast]
          have : ((25165824 : Int) : Rat) = 3 * ((2 ^ 23 : Nat) : Rat) := by
            have : ((3 * 2 ^ 23 : Nat) : Rat) = 3 * ((2 ^ 23 : Nat) : Rat) := by rw [Rat.natCast_mul]; rfl
            rw [← this]; rfl
          rw [this]
          have o2 : (1 : Rat) = ((2 ^ 23 : Nat) : Rat) * P2 (-23) := by rw [← P2_nat 23, ← P2_add]; exact P2_zero.symm
          rw [e23] at o2
          grind)
        rw [v3, qb] at qc
        -- the square
        have tle : single.V t ≤ single.rv 1065353215 := by rw [vt]; exact single.rv_mono (by omega)
        have tt : single.V t * single.V t ≤ single.rv 1065353215 := by
          have := Rat.mul_le_mul_of_nonneg_left h1 h0
          grind
        obtain ⟨r, hr, hn⟩ := ra
        have hsx : (single.sgn t ^^ single.sgn t) = false := by rw [st]; rfl
        rw [hsx] at hr hn
        have hn' : single.Near (single.V t * single.V t) r := by simpa [sg] using hn
        have rle := hn'.le_of tt
        have off := hn'.off.2
        have rp := single.rplace_mono rle
        rw [show single.rplace 1065353215 = -24 from by decide] at rp
        have pm := P2_mono rp
        have rinf : r < single.infRung := by rw [single_inf]; omega
        have va : single.V (ease1 t) = single.rv r := by
          unfold ease1; rw [hr, single.V_word rinf]; simp [sg]
        have A : 2 * single.V (ease1 t) ≤ 2 * (single.V t * single.V t) + P2 (-24) := by rw [va]; grind
        have hc : single.V (ease3 t) = 3 - 2 * single.V t := qc
        rw [hc, e23]
        have cpos : 0 ≤ 3 - 2 * single.V t := by grind
        have B := Rat.mul_le_mul_of_nonneg_right A cpos
        have p24 := P2_pos (-24)
        have D0 : 0 < 1 - single.V t := by grind
        have D1 : 1 - single.V t < 1 / 2 := by grind
        have DD := Rat.mul_pos D0 D0
        have DDD := Rat.mul_lt_mul_of_pos_left D1 DD
        have hp : P2 (-24) * (3 - 2 * single.V t) ≤ P2 (-24) * 2 := Rat.mul_le_mul_of_nonneg_left (by grind) (Rat.le_of_lt p24)
        generalize single.V t = T at *
        have ex : (2 * (T * T) + P2 (-24)) * (3 - 2 * T) = 2 - 6 * ((1 - T) * (1 - T)) + 4 * ((1 - T) * (1 - T) * (1 - T)) + P2 (-24) * (3 - 2 * T) := by grind
        rw [ex] at B
        grind
  have prod0 : 0 ≤ single.V (ease1 t) * single.V (ease3 t) := Rat.mul_nonneg a0 c0
  obtain ⟨r, hr, hn⟩ := rd
  have hn0 := hn
  have hcase : r ≤ 1065353216 := by
    have hnn : 2 * (sg (single.sgn (mulF t t) ^^ single.sgn (subF 1077936128 (mulF 1073741824 t))) * (single.V (mulF t t) * single.V (subF 1077936128 (mulF 1073741824 t)))) < single.rv 1065353216 + single.rv (1065353216 + 1) := by
      have e1 : single.rv 1065353216 = 1 := by
        have := V_pos_word s1
        rw [v1, show single.rung 1065353216 = 1065353216 from by decide] at this
        exact this.symm
      rw [single.rv_succ 1065353216, e1, show single.rplace 1065353216 = -23 from by decide]
      have p23 := P2_pos (-23)
      have hz := hn.2.2
      unfold ease1 ease3 ease2 at key prod0
      generalize single.V (mulF t t) * single.V (subF 1077936128 (mulF 1073741824 t)) = x at *
      rcases Bool.eq_false_or_eq_true (single.sgn (mulF t t) ^^ single.sgn (subF 1077936128 (mulF 1073741824 t))) with hs | hs <;> rw [hs] <;> simp [sg] <;> rcases key with key | key <;> grind
    exact hn.lt_of hnn
  have rinf : r < single.infRung := by rw [single_inf]; omega
  have fd : single.fin (easeF t) := by
    unfold easeF ease1 ease3 ease2; rw [hr]; exact (single.fin_word_iff _ r).2 rinf
  refine ⟨fd, ?_, ?_⟩
  · exact (mulF_spec fa fc).2.nonneg fd prod0
  · unfold easeF ease1 ease3 ease2
    rw [hr, single.V_word rinf]
    have m := single.rv_mono hcase
    have e1 : single.rv 1065353216 = 1 := by
      have := V_pos_word s1
      rw [v1, show single.rung 1065353216 = 1065353216 from by decide] at this
      exact this.symm
    have p := single.rv_nonneg r
    rcases Bool.eq_false_or_eq_true (single.sgn (mulF t t) ^^ single.sgn (subF 1077936128 (mulF 1073741824 t))) with hs | hs <;> rw [hs] <;> simp [sg] <;> grind

end Format
end Ieee

namespace Ieee
namespace Format
open Go

theorem mag_gt' (f : Format) (hb : f.binade ≤ f.infRung) {x c : Nat} (hx : f.sgn x = false) (hn : f.rung x ≤ f.infRung) (fc : f.fin c) (hc : f.sgn c = false) : (f.order x c == some .gt) = decide (f.rung c < f.rung x) := by
  by_cases fx : f.fin x
  · rw [f.order_gt fx fc, Bool.eq_iff_iff, decide_eq_true_iff, decide_eq_true_iff]
    unfold V; rw [hx, hc]
    simp only [sg, Bool.false_eq_true, if_false, Rat.one_mul]
    exact f.rv_lt_iff
  · have fx' : ¬ f.rung x < f.infRung := fx
    have fc' : f.rung c < f.infRung := fc
    rw [f.order_inf_left hb (by omega) fc, hx]
    simp; omega

/-- the magnitude's word of a double -/
def dmag (X : Nat) : Nat := double.rung X
theorem dmag_parts (X : Nat) : double.sgn (dmag X) = false ∧ double.rung (dmag X) = double.rung X := by
  have h : double.rung X < double.signWeight := Nat.mod_lt _ double.signWeight_pos
  have e : dmag X = double.word false (double.rung X) := by unfold dmag word; rfl
  rw [e]
  exact ⟨double.sgn_word false h, double.rung_word false h⟩
theorem dinf_test (X : Nat) (hn : double.rung X ≤ double.infRung) : (double.order (dmag X) 9218868437227405311 == some .gt) = decide (double.rung X = double.infRung) := by
  obtain ⟨a, b⟩ := dmag_parts X
  rw [mag_gt' double double_bi a (by rw [b]; exact hn) (c := 9218868437227405311) (by unfold fin rung; decide) (by decide), b]
  have e : double.rung 9218868437227405311 = double.infRung - 1 := by decide
  rw [e, Bool.eq_iff_iff, decide_eq_true_iff, decide_eq_true_iff]
  have : 0 < double.infRung := by decide
  omega

/-- the double of a single that is no NaN: infinite where the single is -/
theorem widen_any {x : Nat} (h : x % 2147483648 ≤ 2139095040) : ∃ X, floatToFloatBits .f32 x .f64 = some X ∧ X < 2 ^ 64 ∧ double.rung X ≤ double.infRung ∧ (double.rung X = double.infRung ↔ ¬ single.fin x) := by
  by_cases fx : single.fin x
  · obtain ⟨X, a, b, _, _⟩ := widen fx
    refine ⟨X, a, ?_, Nat.le_of_lt b, ?_⟩
    · have := floatToFloatBits_some_lt a
      exact this
    · have b' : double.rung X < double.infRung := b
      constructor
      · intro e; omega
      · intro c; exact absurd fx c
  · have e : single.rung x = single.infRung := by
      rw [fin_lit] at fx; rw [rung_lit, single_inf]; omega
    have hd : FloatKind.decode .f32 x = .infinity (single.sgn x) := single.read_inf single_bi e
    have r : double.rung (double.word (single.sgn x) double.infRung) = double.infRung := double.rung_word _ double.infRung_lt
    refine ⟨double.word (single.sgn x) double.infRung, ?_, ?_, by rw [r]; exact Nat.le_refl _, by rw [r]; simp [fx]⟩
    · unfold floatToFloatBits
      rw [if_neg (by decide), hd]; rfl
    · exact double.word_lt _ double.infRung_lt
where
  floatToFloatBits_some_lt {x X : Nat} (h : floatToFloatBits .f32 x .f64 = some X) : X < 2 ^ 64 := by
    unfold floatToFloatBits at h
    rw [if_neg (by decide)] at h
    split at h
    · cases h
    · cases h; exact double.write_lt _
    · split at h
      · cases h
      · cases h; exact double.write_lt _

def allFin (l : List Nat) : Bool := l.all fun x => decide (fin Ieee.single x)
def allHt (l : List Nat) : Bool := l.all fun x => decide (x % 2147483648 ≤ 1233125376)
theorem all_true {p : Nat → Prop} [DecidablePred p] {l : List Nat} (h : ∀ j, j < l.length → p (l.getD j 0)) : (l.all fun x => decide (p x)) = true := by
  rw [List.all_eq_true]
  intro x hx
  obtain ⟨i, hi, rfl⟩ := List.mem_iff_getElem.1 hx
  have := h i hi
  rw [List.getD_eq_getElem?_getD, List.getElem?_eq_getElem hi] at this
  exact decide_eq_true this
theorem all_false {p : Nat → Prop} [DecidablePred p] {l : List Nat} {j : Nat} (hj : j < l.length) (h : ¬ p (l.getD j 0)) : (l.all fun x => decide (p x)) = false := by
  rw [List.all_eq_false]
  refine ⟨l[j], List.getElem_mem hj, ?_⟩
  rw [List.getD_eq_getElem?_getD, List.getElem?_eq_getElem hj] at h
  simpa using h
/-- the error of singles that should be finite; that should be heights -/
def finE (l : List Nat) : Int := if allFin l then 0 else 2
def htE (l : List Nat) : Int := if allFin l then (if allHt l then 0 else 3) else 2
theorem finE_ok {l : List Nat} (h : allFin l = true) : finE l = 0 := by unfold finE; rw [h]; rfl
theorem finE_bad {l : List Nat} (h : allFin l = false) : finE l = 2 := by unfold finE; rw [h]; rfl
theorem htE_ok {l : List Nat} (h : allFin l = true) (h2 : allHt l = true) : htE l = 0 := by unfold htE; rw [h, h2]; rfl
theorem htE_far {l : List Nat} (h : allFin l = true) (h2 : allHt l = false) : htE l = 3 := by unfold htE; rw [h, h2]; rfl
theorem htE_bad {l : List Nat} (h : allFin l = false) : htE l = 2 := by unfold htE; rw [h]; rfl
end Format
end Ieee

namespace Ieee
namespace Format
open Go

theorem const_20 : single.fin 1233125376 ∧ single.V 1233125376 = P2 20 ∧ single.sgn 1233125376 = false := by
  have := V_const false 146 8388608 (.inr (by decide)) (by decide) (by decide)
  rw [show single.word false (146 * 8388608 + 8388608) = 1233125376 from by decide] at this
  refine ⟨this.1, ?_, this.2.2⟩
  rw [this.2.1, show ((8388608 : Nat) : Rat) = P2 23 from (P2_nat 23).symm, ← P2_add]
  simp [sg]
theorem const_40 : single.fin 1400897536 ∧ single.V 1400897536 = P2 40 ∧ single.sgn 1400897536 = false := by
  have := V_const false 166 8388608 (.inr (by decide)) (by decide) (by decide)
  rw [show single.word false (166 * 8388608 + 8388608) = 1400897536 from by decide] at this
  refine ⟨this.1, ?_, this.2.2⟩
  rw [this.2.1, show ((8388608 : Nat) : Rat) = P2 23 from (P2_nat 23).symm, ← P2_add]
  simp [sg]
theorem const_60 : single.fin 1568669696 ∧ single.V 1568669696 = P2 60 ∧ single.sgn 1568669696 = false := by
  have := V_const false 186 8388608 (.inr (by decide)) (by decide) (by decide)
  rw [show single.word false (186 * 8388608 + 8388608) = 1568669696 from by decide] at this
  refine ⟨this.1, ?_, this.2.2⟩
  rw [this.2.1, show ((8388608 : Nat) : Rat) = P2 23 from (P2_nat 23).symm, ← P2_add]
  simp [sg]

/-- a height -/
def Ht (x : Nat) : Prop := x % 2147483648 ≤ 1233125376
instance (x : Nat) : Decidable (Ht x) := inferInstanceAs (Decidable (_ ≤ _))
theorem Ht.fin {x : Nat} (h : Ht x) : single.fin x := by unfold Ht at h; rw [fin_lit]; omega
theorem Ht.V {x : Nat} (h : Ht x) : -P2 20 ≤ single.V x ∧ single.V x ≤ P2 20 := by
  have := (V_rung_iff (x := x) const_20.2.2).2 (by rw [rung_lit, show single.rung 1233125376 = 1233125376 from by decide]; exact h)
  rw [const_20.2.1] at this
  exact this
theorem Ht.of {x : Nat} (h : -P2 20 ≤ single.V x ∧ single.V x ≤ P2 20) : Ht x := by
  rw [← const_20.2.1] at h
  have := (V_rung_iff (x := x) const_20.2.2).1 h
  rw [rung_lit, show single.rung 1233125376 = 1233125376 from by decide] at this
  exact this

theorem mul_bound {a b A B : Rat} (ha : -A ≤ a ∧ a ≤ A) (hb : -B ≤ b ∧ b ≤ B) : -(A * B) ≤ a * b ∧ a * b ≤ A * B := by
  have A0 : 0 ≤ A := by grind
  have B0 : 0 ≤ B := by grind
  have p1 := Rat.mul_nonneg (show 0 ≤ A - a by grind) (show 0 ≤ B - b by grind)
  have p2 := Rat.mul_nonneg (show 0 ≤ A + a by grind) (show 0 ≤ B + b by grind)
  have p3 := Rat.mul_nonneg (show 0 ≤ A - a by grind) (show 0 ≤ B + b by grind)
  have p4 := Rat.mul_nonneg (show 0 ≤ A + a by grind) (show 0 ≤ B - b by grind)
  constructor <;> grind

theorem mul_ht {x y : Nat} (hx : Ht x) (hy : Ht y) : single.fin (mulF x y) ∧ -P2 40 ≤ single.V (mulF x y) ∧ single.V (mulF x y) ≤ P2 40 := by
  obtain ⟨c1, c2, c3⟩ := const_40
  have r := (mulF_spec hx.fin hy.fin).2
  have b := mul_bound hx.V hy.V
  rw [← P2_add, show (20 + 20 : Int) = 40 from by decide, ← c2] at b
  obtain ⟨f, u, v, _, _⟩ := r.bound c1 c3 b.2 b.1
  rw [c2] at u v
  exact ⟨f, v, u⟩

/-- a sum of two numbers below 2 ^ 40 is finite -/
theorem add_fin {x y : Nat} (fx : single.fin x) (fy : single.fin y) (hx : -P2 40 ≤ single.V x ∧ single.V x ≤ P2 40) (hy : -P2 40 ≤ single.V y ∧ single.V y ≤ P2 40) : single.fin (addF x y) := by
  obtain ⟨c1, c2, c3⟩ := const_60
  have r := (addF_spec fx fy).2
  have e := P2_succ 40
  have m := P2_mono (show (41 : Int) ≤ 60 by decide)
  rw [show (40 + 1 : Int) = 41 from by decide] at e
  exact (r.bound c1 c3 (by rw [c2]; grind) (by rw [c2]; grind)).1
theorem ht40 {x : Nat} (h : Ht x) : -P2 40 ≤ single.V x ∧ single.V x ≤ P2 40 := by
  have := h.V
  have m := P2_mono (show (20 : Int) ≤ 40 by decide)
  constructor <;> grind

theorem some_lt {o : Option Nat} (h : ∀ r, o = some r → r < 4294967296) : o.getD 0 < 4294967296 := by
  cases o with
  | none => exact (by decide)
  | some r => exact h r rfl
theorem mulF_lt (x y : Nat) : mulF x y < 4294967296 := some_lt fun _ h => single.mul_lt h
theorem addF_lt (x y : Nat) : addF x y < 4294967296 := some_lt fun _ h => single.add_lt h
theorem subF_lt (x y : Nat) : subF x y < 4294967296 := some_lt fun _ h => single.sub_lt h

/-- 'Scale' at a value -/
def scaleF (a b x : Nat) : Nat := addF (mulF x a) b
theorem scale_fin {a b x : Nat} (ha : Ht a) (hb : Ht b) (hx : Ht x) : single.fin (mulF x a) ∧ single.fin (scaleF a b x) := by
  obtain ⟨f, u, v⟩ := mul_ht hx ha
  exact ⟨f, add_fin f hb.fin ⟨u, v⟩ (ht40 hb)⟩

/-! ### lists of heights -/
theorem allHt_iff {l : List Nat} : allHt l = true ↔ ∀ x ∈ l, Ht x := by
  unfold allHt Ht; rw [List.all_eq_true]; simp
theorem allFin_of_ht {l : List Nat} (h : allHt l = true) : allFin l = true := by
  unfold allFin
  rw [List.all_eq_true]
  intro x hx
  exact decide_eq_true (allHt_iff.1 h x hx).fin
theorem htE_of_ht {l : List Nat} (h : allHt l = true) : htE l = 0 := htE_ok (allFin_of_ht h) h
theorem htE_ne {l : List Nat} (h : allHt l = false) : htE l ≠ 0 := by
  unfold htE; rw [h]
  split <;> decide
theorem htE_zero {l : List Nat} (h : htE l = 0) : allHt l = true := by
  cases hh : allHt l
  · exact absurd h (htE_ne hh)
  · rfl
end Format
end Ieee

namespace Ieee
namespace Format
open Go

theorem const_pow (k : Nat) (hk : k ≤ 100) : ∃ c, single.fin c ∧ single.V c = P2 k ∧ single.sgn c = false := by
  have h := V_const false (126 + k) 8388608 (.inr (by decide)) (by decide) (by rw [single_inf]; omega)
  refine ⟨_, h.1, ?_, h.2.2⟩
  rw [h.2.1, show ((8388608 : Nat) : Rat) = P2 23 from (P2_nat 23).symm, ← P2_add, show (23 : Int) + (((126 + k : Nat) : Int) - 149) = k from by omega]
  simp [sg]

/-- finite, and of a magnitude of at most 2 ^ k -/
def Bd (k : Nat) (x : Nat) : Prop := single.fin x ∧ -P2 k ≤ single.V x ∧ single.V x ≤ P2 k
theorem Bd.mono {k j x : Nat} (h : Bd k x) (hj : k ≤ j) : Bd j x := by
  have := P2_mono (show (k : Int) ≤ j by omega)
  obtain ⟨a, b, c⟩ := h
  exact ⟨a, by grind, by grind⟩
theorem Ht.bd {x : Nat} (h : Ht x) : Bd 20 x := ⟨h.fin, h.V.1, h.V.2⟩
theorem Rounds.bd {x : Rat} {s : Bool} {w k : Nat} (h : single.Rounds x s w) (hk : k ≤ 100) (h1 : x ≤ P2 k) (h2 : -P2 k ≤ x) : Bd k w := by
  obtain ⟨c, c1, c2, c3⟩ := const_pow k hk
  rw [← c2] at h1 h2
  have := h.bound c1 c3 h1 h2
  exact ⟨this.1, by rw [← c2]; exact this.2.2.1, by rw [← c2]; exact this.2.1⟩
theorem Bd.add {k x y : Nat} (hx : Bd k x) (hy : Bd k y) (hk : k ≤ 90) : Bd (k + 1) (addF x y) := by
  have r := (addF_spec hx.1 hy.1).2
  have e := P2_succ k
  obtain ⟨_, x1, x2⟩ := hx
  obtain ⟨_, y1, y2⟩ := hy
  exact r.bd (by omega) (by rw [show ((k + 1 : Nat) : Int) = (k : Int) + 1 from by omega]; grind) (by rw [show ((k + 1 : Nat) : Int) = (k : Int) + 1 from by omega]; grind)
theorem Bd.sub {k x y : Nat} (hx : Bd k x) (hy : Bd k y) (hk : k ≤ 90) : Bd (k + 1) (subF x y) := by
  have r := (subF_spec hx.1 hy.1).2
  have e := P2_succ k
  obtain ⟨_, x1, x2⟩ := hx
  obtain ⟨_, y1, y2⟩ := hy
  exact r.bd (by omega) (by rw [show ((k + 1 : Nat) : Int) = (k : Int) + 1 from by omega]; grind) (by rw [show ((k + 1 : Nat) : Int) = (k : Int) + 1 from by omega]; grind)
theorem Bd.mul {k j x y : Nat} (hx : Bd k x) (hy : Bd j y) (hk : k + j ≤ 100) : Bd (k + j) (mulF x y) := by
  have r := (mulF_spec hx.1 hy.1).2
  have b := mul_bound hx.2 hy.2
  rw [← P2_add, show (k : Int) + j = ((k + j : Nat) : Int) from by omega] at b
  exact r.bd hk b.2 b.1
/-- times a constant of at most 2 ^ -j -/
theorem Bd.less {k j x y : Nat} (hx : Bd (k + j) x) (fy : single.fin y) (hy : -P2 (-(j : Int)) ≤ single.V y ∧ single.V y ≤ P2 (-(j : Int))) (hk : k ≤ 100) : Bd k (mulF x y) := by
  have r := (mulF_spec hx.1 fy).2
  have b := mul_bound hx.2 hy
  rw [← P2_add, show ((k + j : Nat) : Int) + -(j : Int) = (k : Int) from by omega] at b
  exact r.bd hk b.2 b.1

theorem const_eighth : single.fin 1040187392 ∧ single.V 1040187392 = P2 (-3) ∧ single.sgn 1040187392 = false := by
  have := V_const false 123 8388608 (.inr (by decide)) (by decide) (by decide)
  rw [show single.word false (123 * 8388608 + 8388608) = 1040187392 from by decide] at this
  refine ⟨this.1, ?_, this.2.2⟩
  rw [this.2.1, show ((8388608 : Nat) : Rat) = P2 23 from (P2_nat 23).symm, ← P2_add]
  simp [sg]
theorem const_2nd : single.fin 1056964608 ∧ single.V 1056964608 = P2 (-1) ∧ single.sgn 1056964608 = false := by
  have := V_const false 125 8388608 (.inr (by decide)) (by decide) (by decide)
  rw [show single.word false (125 * 8388608 + 8388608) = 1056964608 from by decide] at this
  refine ⟨this.1, ?_, this.2.2⟩
  rw [this.2.1, show ((8388608 : Nat) : Rat) = P2 23 from (P2_nat 23).symm, ← P2_add]
  simp [sg]

/-- what 'Smooth' makes of a cell and its neighbours -/
def smooth1 (n w : Nat) : Nat := addF n w
def smooth2 (n s e w : Nat) : Nat := mulF (addF (addF n w) (addF e s)) 1040187392
def smoothF (n s e w v : Nat) : Nat := subF (addF v (smooth2 n s e w)) (mulF v 1056964608)

theorem smooth_bd {k n s e w v : Nat} (hn : Bd k n) (hs : Bd k s) (he : Bd k e) (hw : Bd k w) (hv : Bd k v) (hk : k ≤ 80) :
    Bd (k + 1) (addF n w) ∧ Bd (k + 1) (addF e s) ∧ Bd (k + 2) (addF (addF n w) (addF e s)) ∧ Bd k (smooth2 n s e w) ∧ Bd (k + 1) (addF v (smooth2 n s e w)) ∧ Bd k (mulF v 1056964608) ∧ Bd (k + 2) (smoothF n s e w v) := by
  have a1 := hn.add hw (by omega)
  have a2 := he.add hs (by omega)
  have a3 := a1.add a2 (by omega)
  obtain ⟨c1, c2, _⟩ := const_eighth
  obtain ⟨d1, d2, _⟩ := const_2nd
  have p1 := P2_pos (-3)
  have p2 := P2_pos (-1)
  have m1 := P2_mono (show (-3 : Int) ≤ -2 by decide)
  have m2 := P2_mono (show (-1 : Int) ≤ 0 by decide)
  have a4 : Bd k (mulF (addF (addF n w) (addF e s)) 1040187392) := Bd.less (j := 2) a3 c1 (by rw [c2]; constructor <;> simp only [Int.cast_ofNat_Int] <;> grind) (by omega)
  have a5 := hv.add a4 (by omega)
  have a6 : Bd k (mulF v 1056964608) := Bd.less (j := 0) hv d1 (by rw [d2]; constructor <;> simp only [Int.cast_ofNat_Int, Int.neg_zero] <;> grind) (by omega)
  exact ⟨a1, a2, a3, a4, a5, a6, a5.sub (a6.mono (by omega)) (by omega)⟩
end Format
end Ieee

namespace Ieee
namespace Format
open Go

/-- the quotient of two small whole numbers -/
def shareF (m d : Nat) : Nat := (floatBits .quo .f32 (floatOfInt .f32 (m : Int)) (floatOfInt .f32 (d : Int))).getD 0
def roadDiv (x y : Nat) : Option Nat :=
  match floatToFloatBits .f32 x .f64, floatToFloatBits .f32 y .f64 with
  | some X, some Y => match floatBits .quo .f64 X Y with
    | some Z => floatToFloatBits .f64 Z .f32
    | none => none
  | _, _ => none
theorem roadDiv_some {x y r : Nat} (h : roadDiv x y = some r) : ∃ X Y Z, floatToFloatBits .f32 x .f64 = some X ∧ floatToFloatBits .f32 y .f64 = some Y ∧ floatBits .quo .f64 X Y = some Z ∧ floatToFloatBits .f64 Z .f32 = some r := by
  unfold roadDiv at h
  split at h
  · rename_i X Y hx hy
    split at h
    · rename_i Z hz
      exact ⟨X, Y, Z, hx, hy, hz, h⟩
    · cases h
  · cases h
def shareOk (m d : Nat) : Bool :=
  decide (floatBits .quo .f32 (floatOfInt .f32 (m : Int)) (floatOfInt .f32 (d : Int)) = some (shareF m d)) &&
  decide (roadDiv (floatOfInt .f32 (m : Int)) (floatOfInt .f32 (d : Int)) = some (shareF m d)) &&
  decide (shareF m d ≤ 1065353216) && (single.order (shareF m d) 0 == some .eq) == decide (m = 0)
theorem shares_all : (List.range 4096).all (fun k => if k % 64 < k / 64 + 1 then shareOk (k % 64) (k / 64 + 1) else true) = true := by decide +kernel
theorem share_ok {m d : Nat} (h : m < d) (hd : d ≤ 64) : shareOk m d = true := by
  have := List.all_eq_true.1 shares_all ((d - 1) * 64 + m) (List.mem_range.2 (by omega))
  rw [show ((d - 1) * 64 + m) % 64 = m from by omega, show ((d - 1) * 64 + m) / 64 + 1 = d from by omega, if_pos h] at this
  exact this
theorem share_facts {m d : Nat} (h : m < d) (hd : d ≤ 64) :
    floatBits .quo .f32 (floatOfInt .f32 (m : Int)) (floatOfInt .f32 (d : Int)) = some (shareF m d) ∧
    (∃ X Y Z, floatToFloatBits .f32 (floatOfInt .f32 (m : Int)) .f64 = some X ∧ floatToFloatBits .f32 (floatOfInt .f32 (d : Int)) .f64 = some Y ∧ floatBits .quo .f64 X Y = some Z ∧ floatToFloatBits .f64 Z .f32 = some (shareF m d)) ∧
    shareF m d ≤ 1065353216 ∧ (single.order (shareF m d) 0 == some .eq) = decide (m = 0) := by
  have := share_ok h hd
  unfold shareOk at this
  rw [Bool.and_eq_true, Bool.and_eq_true, Bool.and_eq_true] at this
  obtain ⟨⟨⟨a, b⟩, c⟩, e⟩ := this
  exact ⟨of_decide_eq_true a, roadDiv_some (of_decide_eq_true b), of_decide_eq_true c, by simpa using e⟩
theorem const_one : single.fin 1065353216 ∧ single.V 1065353216 = P2 0 ∧ single.sgn 1065353216 = false := by
  have := V_const false 126 8388608 (.inr (by decide)) (by decide) (by decide)
  rw [show single.word false (126 * 8388608 + 8388608) = 1065353216 from by decide] at this
  refine ⟨this.1, ?_, this.2.2⟩
  rw [this.2.1, show ((8388608 : Nat) : Rat) = P2 23 from (P2_nat 23).symm, ← P2_add]
  simp [sg]
/-- a word of at most that of 1 -/
theorem one_bd {s : Nat} (h : s % 2147483648 ≤ 1065353216) : Bd 0 s := by
  have := (V_rung_iff (x := s) const_one.2.2).2 (by rw [rung_lit, show single.rung 1065353216 = 1065353216 from by decide]; exact h)
  rw [const_one.2.1] at this
  exact ⟨by rw [fin_lit]; omega, this.1, this.2⟩

/-- a + (b - a) * s -/
def mixF (a b s : Nat) : Nat := addF a (mulF (subF b a) s)
theorem mix_bd {k a b s : Nat} (ha : Bd k a) (hb : Bd k b) (hs : Bd 0 s) (hk : k ≤ 80) : Bd (k + 1) (subF b a) ∧ Bd (k + 1) (mulF (subF b a) s) ∧ Bd (k + 2) (mixF a b s) := by
  have h1 := hb.sub ha (by omega)
  have h2 := h1.mul hs (by omega)
  exact ⟨h1, h2, (ha.mono (by omega)).add h2 (by omega)⟩
theorem mixF_lt (a b s : Nat) : mixF a b s < 4294967296 := addF_lt _ _
end Format
end Ieee
