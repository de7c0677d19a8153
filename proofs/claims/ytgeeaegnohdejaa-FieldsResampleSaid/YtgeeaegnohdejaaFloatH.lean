import Derived.Test.YtgeeaegnohdejaaFloatG
namespace Ieee
namespace Format
open Go

theorem const_20 : single.fin 1233125376 ∧ single.V 1233125376 = P2 20 ∧ single.sgn 1233125376 = false := by
  have := V_const false 146 8388608 (.inr (by decide)) (by decide) (by decide)
  rw [show single.word false (146 * 8388608 + 8388608) = 1233125376 from by decide] at this
  refine ⟨this.1, ?_, this.2.2⟩
  rw [this.2.1, show ((8388608 : Nat) : Rat) = P2 23 from (P2_nat 23).symm, ← P2_add]
  simp [sg]
theorem const_40 : single.fin 1400897536 ∧ single.V 1400897536 = P2 40 ∧ single.sgn 1400897536 = false := by
  have := V_const false 166 8388608 (.inr (by decide)) (by decide) (by decide)
  rw [show single.word false (166 * 8388608 + 8388608) = 1400897536 from by decide] at this
  refine ⟨this.1, ?_, this.2.2⟩
  rw [this.2.1, show ((8388608 : Nat) : Rat) = P2 23 from (P2_nat 23).symm, ← P2_add]
  simp [sg]
theorem const_60 : single.fin 1568669696 ∧ single.V 1568669696 = P2 60 ∧ single.sgn 1568669696 = false := by
  have := V_const false 186 8388608 (.inr (by decide)) (by decide) (by decide)
  rw [show single.word false (186 * 8388608 + 8388608) = 1568669696 from by decide] at this
  refine ⟨this.1, ?_, this.2.2⟩
  rw [this.2.1, show ((8388608 : Nat) : Rat) = P2 23 from (P2_nat 23).symm, ← P2_add]
  simp [sg]

/-- a height -/
def Ht (x : Nat) : Prop := x % 2147483648 ≤ 1233125376
instance (x : Nat) : Decidable (Ht x) := inferInstanceAs (Decidable (_ ≤ _))
theorem Ht.fin {x : Nat} (h : Ht x) : single.fin x := by unfold Ht at h; rw [fin_lit]; omega
theorem Ht.V {x : Nat} (h : Ht x) : -P2 20 ≤ single.V x ∧ single.V x ≤ P2 20 := by
  have := (V_rung_iff (x := x) const_20.2.2).2 (by rw [rung_lit, show single.rung 1233125376 = 1233125376 from by decide]; exact h)
  rw [const_20.2.1] at this
  exact this
theorem Ht.of {x : Nat} (h : -P2 20 ≤ single.V x ∧ single.V x ≤ P2 20) : Ht x := by
  rw [← const_20.2.1] at h
  have := (V_rung_iff (x := x) const_20.2.2).1 h
  rw [rung_lit, show single.rung 1233125376 = 1233125376 from by decide] at this
  exact this

theorem mul_bound {a b A B : Rat} (ha : -A ≤ a ∧ a ≤ A) (hb : -B ≤ b ∧ b ≤ B) : -(A * B) ≤ a * b ∧ a * b ≤ A * B := by
  have A0 : 0 ≤ A := by grind
  have B0 : 0 ≤ B := by grind
  have p1 := Rat.mul_nonneg (show 0 ≤ A - a by grind) (show 0 ≤ B - b by grind)
  have p2 := Rat.mul_nonneg (show 0 ≤ A + a by grind) (show 0 ≤ B + b by grind)
  have p3 := Rat.mul_nonneg (show 0 ≤ A - a by grind) (show 0 ≤ B + b by grind)
  have p4 := Rat.mul_nonneg (show 0 ≤ A + a by grind) (show 0 ≤ B - b by grind)
  constructor <;> grind

theorem mul_ht {x y : Nat} (hx : Ht x) (hy : Ht y) : single.fin (mulF x y) ∧ -P2 40 ≤ single.V (mulF x y) ∧ single.V (mulF x y) ≤ P2 40 := by
  obtain ⟨c1, c2, c3⟩ := const_40
  have r := (mulF_spec hx.fin hy.fin).2
  have b := mul_bound hx.V hy.V
  rw [← P2_add, show (20 + 20 : Int) = 40 from by decide, ← c2] at b
  obtain ⟨f, u, v, _, _⟩ := r.bound c1 c3 b.2 b.1
  rw [c2] at u v
  exact ⟨f, v, u⟩

/-- a sum of two numbers below 2 ^ 40 is finite -/
theorem add_fin {x y : Nat} (fx : single.fin x) (fy : single.fin y) (hx : -P2 40 ≤ single.V x ∧ single.V x ≤ P2 40) (hy : -P2 40 ≤ single.V y ∧ single.V y ≤ P2 40) : single.fin (addF x y) := by
  obtain ⟨c1, c2, c3⟩ := const_60
  have r := (addF_spec fx fy).2
  have e := P2_succ 40
  have m := P2_mono (show (41 : Int) ≤ 60 by decide)
  rw [show (40 + 1 : Int) = 41 from by decide] at e
  exact (r.bound c1 c3 (by rw [c2]; grind) (by rw [c2]; grind)).1
theorem ht40 {x : Nat} (h : Ht x) : -P2 40 ≤ single.V x ∧ single.V x ≤ P2 40 := by
  have := h.V
  have m := P2_mono (show (20 : Int) ≤ 40 by decide)
  constructor <;> grind

theorem some_lt {o : Option Nat} (h : ∀ r, o = some r → r < 4294967296) : o.getD 0 < 4294967296 := by
  cases o with
  | none => exact (by decide)
  | some r => exact h r rfl
theorem mulF_lt (x y : Nat) : mulF x y < 4294967296 := some_lt fun _ h => single.mul_lt h
theorem addF_lt (x y : Nat) : addF x y < 4294967296 := some_lt fun _ h => single.add_lt h
theorem subF_lt (x y : Nat) : subF x y < 4294967296 := some_lt fun _ h => single.sub_lt h

/-- 'Scale' at a value -/
def scaleF (a b x : Nat) : Nat := addF (mulF x a) b
theorem scale_fin {a b x : Nat} (ha : Ht a) (hb : Ht b) (hx : Ht x) : single.fin (mulF x a) ∧ single.fin (scaleF a b x) := by
  obtain ⟨f, u, v⟩ := mul_ht hx ha
  exact ⟨f, add_fin f hb.fin ⟨u, v⟩ (ht40 hb)⟩

/-! ### lists of heights -/
theorem allHt_iff {l : List Nat} : allHt l = true ↔ ∀ x ∈ l, Ht x := by
  unfold allHt Ht; rw [List.all_eq_true]; simp
theorem allFin_of_ht {l : List Nat} (h : allHt l = true) : allFin l = true := by
  unfold allFin
  rw [List.all_eq_true]
  intro x hx
  exact decide_eq_true (allHt_iff.1 h x hx).fin
theorem htE_of_ht {l : List Nat} (h : allHt l = true) : htE l = 0 := htE_ok (allFin_of_ht h) h
theorem htE_ne {l : List Nat} (h : allHt l = false) : htE l ≠ 0 := by
  unfold htE; rw [h]
  split <;> decide
theorem htE_zero {l : List Nat} (h : htE l = 0) : allHt l = true := by
  cases hh : allHt l
  · exact absurd h (htE_ne hh)
  · rfl
end Format
end Ieee
