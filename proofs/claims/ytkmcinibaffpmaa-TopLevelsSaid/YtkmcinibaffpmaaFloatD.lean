import Derived.Test.YtkmcinibaffpmaaFloatR
namespace Ieee
namespace Format
open Go

/-! ### twice a number, exactly -/
theorem rv_dbl (r : Nat) : ∃ r2, single.rv r2 = 2 * single.rv r ∧ r ≤ r2 := by
  have e1 : single.binade = 8388608 := by decide
  rcases Nat.lt_or_ge r 8388608 with h | h
  · refine ⟨2 * r, ?_, by omega⟩
    have a := single.rv_at 0 r (.inl rfl) (by rw [e1]; omega)
    have b := single.rv_at 0 (2 * r) (.inl rfl) (by rw [e1]; omega)
    rw [Nat.zero_mul, Nat.zero_add] at a b
    rw [a, b, Rat.natCast_mul]
    have : ((2 : Nat) : Rat) = 2 := rfl
    rw [this]; grind
  · obtain ⟨l, k, hr, hk, hk2⟩ : ∃ l k : Nat, r = l * 8388608 + k ∧ 8388608 ≤ k ∧ k ≤ 2 * 8388608 := ⟨r / 8388608 - 1, r - (r / 8388608 - 1) * 8388608, by omega, by omega, by omega⟩
    refine ⟨r + 8388608, ?_, by omega⟩
    have a := single.rv_at l k (.inr (by rw [e1]; omega)) (by rw [e1]; omega)
    have b := single.rv_at (l + 1) k (.inr (by rw [e1]; omega)) (by rw [e1]; omega)
    rw [e1] at a b
    rw [hr, show l * 8388608 + k + 8388608 = (l + 1) * 8388608 + k from by omega, a, b]
    have d : P2 (single.leastPlace + ((l + 1 : Nat) : Int)) = 2 * P2 (single.leastPlace + (l : Int)) := by
      have := P2_double (single.leastPlace + ((l + 1 : Nat) : Int))
      rw [this]
      congr 2
      omega
    rw [d]; grind
theorem word_dbl {x : Nat} (fx : single.fin x) (hx : single.sgn x = false) (hb : single.V x ≤ P2 100) : ∃ c, single.fin c ∧ single.sgn c = false ∧ single.V c = 2 * single.V x := by
  obtain ⟨r2, h, _⟩ := rv_dbl (single.rung x)
  rw [V_pos_word hx] at hb ⊢
  have lt : r2 < single.infRung := by
    refine (single.rv_lt_iff).1 ?_
    rw [h, rv_inf]
    have p := P2_lt (show (101 : Int) < 128 by omega)
    have d : P2 101 = 2 * P2 100 := P2_double 101
    grind
  refine ⟨single.word false (min r2 single.infRung), (single.fin_word_iff false r2).2 lt, single.sgn_word false (single.min_lt_sw r2), ?_⟩
  rw [single.V_word lt, h]
  simp [sg]
theorem add_dbl {a b m : Nat} (fa : single.fin a) (fb : single.fin b) (fm : single.fin m) (sm : single.sgn m = false) (hm : single.V m ≤ P2 100) (a1 : single.V a ≤ single.V m) (a2 : -single.V m ≤ single.V a) (b1 : single.V b ≤ single.V m) (b2 : -single.V m ≤ single.V b) :
    single.fin (addF a b) ∧ single.V (addF a b) ≤ 2 * single.V m ∧ -(2 * single.V m) ≤ single.V (addF a b) := by
  obtain ⟨c, fc, sc, vc⟩ := word_dbl fm sm hm
  have h := (addF_spec fa fb).2.bound fc sc (by rw [vc]; grind) (by rw [vc]; grind)
  rw [vc] at h
  exact ⟨h.1, h.2.1, h.2.2.1⟩
theorem sub_dbl {a b m : Nat} (fa : single.fin a) (fb : single.fin b) (fm : single.fin m) (sm : single.sgn m = false) (hm : single.V m ≤ P2 100) (a1 : single.V a ≤ single.V m) (a2 : -single.V m ≤ single.V a) (b1 : single.V b ≤ single.V m) (b2 : -single.V m ≤ single.V b) :
    single.fin (subF a b) ∧ single.V (subF a b) ≤ 2 * single.V m ∧ -(2 * single.V m) ≤ single.V (subF a b) := by
  obtain ⟨c, fc, sc, vc⟩ := word_dbl fm sm hm
  have h := (subF_spec fa fb).2.bound fc sc (by rw [vc]; grind) (by rw [vc]; grind)
  rw [vc] at h
  exact ⟨h.1, h.2.1, h.2.2.1⟩
theorem const_qtr : single.fin 1048576000 ∧ single.V 1048576000 = 1 / 4 ∧ single.sgn 1048576000 = false := by
  have := V_const false 124 8388608 (.inr (by decide)) (by decide) (by decide)
  rw [show single.word false (124 * 8388608 + 8388608) = 1048576000 from by decide] at this
  refine ⟨this.1, ?_, this.2.2⟩
  rw [this.2.1, show ((124 : Nat) : Int) - 149 = -25 from rfl, show ((8388608 : Nat) : Rat) = P2 23 from (P2_nat 23).symm, ← P2_add]
  simp [sg]
  have d : P2 0 = 2 * P2 (-1) := P2_double 0
  have d2 : P2 (-1) = 2 * P2 (-2) := P2_double (-1)
  rw [P2_zero] at d
  have : P2 (23 + -25) = P2 (-2) := rfl
  grind
/-- a quarter of four numbers -/
def downF (a b c d : Nat) : Nat := mulF (addF (addF a b) (addF c d)) 1048576000
theorem down_bd {a b c d m : Nat} (fa : single.fin a) (fb : single.fin b) (fc : single.fin c) (fd : single.fin d) (fm : single.fin m) (sm : single.sgn m = false) (hm : single.V m ≤ P2 99) (a1 : single.V a ≤ single.V m) (a2 : -single.V m ≤ single.V a) (b1 : single.V b ≤ single.V m) (b2 : -single.V m ≤ single.V b)
    (c1 : single.V c ≤ single.V m) (c2 : -single.V m ≤ single.V c) (d1 : single.V d ≤ single.V m) (d2 : -single.V m ≤ single.V d) :
    single.fin (addF a b) ∧ single.fin (addF c d) ∧ single.fin (addF (addF a b) (addF c d)) ∧ single.fin (downF a b c d) ∧ single.V (downF a b c d) ≤ single.V m ∧ -single.V m ≤ single.V (downF a b c d) := by
  have p : P2 100 = 2 * P2 99 := P2_double 100
  have p0 := P2_pos 99
  obtain ⟨f1, x1, x2⟩ := add_dbl fa fb fm sm (by grind) a1 a2 b1 b2
  obtain ⟨f2, y1, y2⟩ := add_dbl fc fd fm sm (by grind) c1 c2 d1 d2
  obtain ⟨m2, fm2, sm2, vm2⟩ := word_dbl fm sm (by grind)
  obtain ⟨f3, z1, z2⟩ := add_dbl f1 f2 fm2 sm2 (by rw [vm2]; grind) (by rw [vm2]; exact x1) (by rw [vm2]; exact x2) (by rw [vm2]; exact y1) (by rw [vm2]; exact y2)
  rw [vm2] at z1 z2
  have h := (mulF_spec f3 const_qtr.1).2.bound fm sm (by rw [const_qtr.2.1]; grind) (by rw [const_qtr.2.1]; grind)
  exact ⟨f1, f2, f3, h.1, h.2.1, h.2.2.1⟩
theorem mul_two {m : Nat} (fm : single.fin m) (sm : single.sgn m = false) (hm : single.V m ≤ P2 100) : single.fin (mulF 1073741824 m) ∧ single.V (mulF 1073741824 m) = 2 * single.V m := by
  obtain ⟨c, fc, sc, vc⟩ := word_dbl fm sm hm
  have h := (mulF_spec const_2.1 fm).2
  rw [const_2.2.1, ← vc, const_2.2.2, sm] at h
  have e : mulF 1073741824 m = single.word false (single.rung c) ∨ single.fin (mulF 1073741824 m) ∧ single.V (mulF 1073741824 m) = single.V c := by
    right
    have b := h.bound fc sc (Rat.le_refl) (by have := single.rv_nonneg (single.rung c); rw [V_pos_word sc]; grind)
    refine ⟨b.1, ?_⟩
    obtain ⟨r, hw, hn⟩ := h
    simp only [Bool.false_eq_true, sg, if_false] at hn
    have hc : single.Near (single.V c) (single.rung c) := by rw [V_pos_word sc]; exact single.near_rv _
    have hr : r = single.rung c := Near.unique (by simpa [sg] using hn) hc
    rw [hw, hr, single.V_word ((by
      have := fc
      exact this) : single.rung c < single.infRung), V_pos_word sc]
    simp [sg]
  rcases e with e | e
  · have hb := h.bound fc sc (Rat.le_refl) (by have := single.rv_nonneg (single.rung c); rw [V_pos_word sc]; grind)
    have lt : single.rung c < single.infRung := fc
    refine ⟨hb.1, ?_⟩
    rw [e, show single.rung c = min (single.rung c) single.infRung from by omega, single.V_word lt]
    have : single.V c = single.rv (single.rung c) := V_pos_word sc
    simp [sg]
    rw [← this, vc]
  · exact ⟨e.1, by rw [e.2, vc]⟩
end Format
end Ieee
