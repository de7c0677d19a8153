import Derived.Test.YtgeeaegnohdejaaFloatH
namespace Ieee
namespace Format
open Go

theorem const_pow (k : Nat) (hk : k ≤ 100) : ∃ c, single.fin c ∧ single.V c = P2 k ∧ single.sgn c = false := by
  have h := V_const false (126 + k) 8388608 (.inr (by decide)) (by decide) (by rw [single_inf]; omega)
  refine ⟨_, h.1, ?_, h.2.2⟩
  rw [h.2.1, show ((8388608 : Nat) : Rat) = P2 23 from (P2_nat 23).symm, ← P2_add, show (23 : Int) + (((126 + k : Nat) : Int) - 149) = k from by omega]
  simp [sg]

/-- finite, and of a magnitude of at most 2 ^ k -/
def Bd (k : Nat) (x : Nat) : Prop := single.fin x ∧ -P2 k ≤ single.V x ∧ single.V x ≤ P2 k
theorem Bd.mono {k j x : Nat} (h : Bd k x) (hj : k ≤ j) : Bd j x := by
  have := P2_mono (show (k : Int) ≤ j by omega)
  obtain ⟨a, b, c⟩ := h
  exact ⟨a, by grind, by grind⟩
theorem Ht.bd {x : Nat} (h : Ht x) : Bd 20 x := ⟨h.fin, h.V.1, h.V.2⟩
theorem Rounds.bd {x : Rat} {s : Bool} {w k : Nat} (h : single.Rounds x s w) (hk : k ≤ 100) (h1 : x ≤ P2 k) (h2 : -P2 k ≤ x) : Bd k w := by
  obtain ⟨c, c1, c2, c3⟩ := const_pow k hk
  rw [← c2] at h1 h2
  have := h.bound c1 c3 h1 h2
  exact ⟨this.1, by rw [← c2]; exact this.2.2.1, by rw [← c2]; exact this.2.1⟩
theorem Bd.add {k x y : Nat} (hx : Bd k x) (hy : Bd k y) (hk : k ≤ 90) : Bd (k + 1) (addF x y) := by
  have r := (addF_spec hx.1 hy.1).2
  have e := P2_succ k
  obtain ⟨_, x1, x2⟩ := hx
  obtain ⟨_, y1, y2⟩ := hy
  exact r.bd (by omega) (by rw [show ((k + 1 : Nat) : Int) = (k : Int) + 1 from by omega]; grind) (by rw [show ((k + 1 : Nat) : Int) = (k : Int) + 1 from by omega]; grind)
theorem Bd.sub {k x y : Nat} (hx : Bd k x) (hy : Bd k y) (hk : k ≤ 90) : Bd (k + 1) (subF x y) := by
  have r := (subF_spec hx.1 hy.1).2
  have e := P2_succ k
  obtain ⟨_, x1, x2⟩ := hx
  obtain ⟨_, y1, y2⟩ := hy
  exact r.bd (by omega) (by rw [show ((k + 1 : Nat) : Int) = (k : Int) + 1 from by omega]; grind) (by rw [show ((k + 1 : Nat) : Int) = (k : Int) + 1 from by omega]; grind)
theorem Bd.mul {k j x y : Nat} (hx : Bd k x) (hy : Bd j y) (hk : k + j ≤ 100) : Bd (k + j) (mulF x y) := by
  have r := (mulF_spec hx.1 hy.1).2
  have b := mul_bound hx.2 hy.2
  rw [← P2_add, show (k : Int) + j = ((k + j : Nat) : Int) from by omega] at b
  exact r.bd hk b.2 b.1
/-- times a constant of at most 2 ^ -j -/
theorem Bd.less {k j x y : Nat} (hx : Bd (k + j) x) (fy : single.fin y) (hy : -P2 (-(j : Int)) ≤ single.V y ∧ single.V y ≤ P2 (-(j : Int))) (hk : k ≤ 100) : Bd k (mulF x y) := by
  have r := (mulF_spec hx.1 fy).2
  have b := mul_bound hx.2 hy
  rw [← P2_add, show ((k + j : Nat) : Int) + -(j : Int) = (k : Int) from by omega] at b
  exact r.bd hk b.2 b.1

theorem const_eighth : single.fin 1040187392 ∧ single.V 1040187392 = P2 (-3) ∧ single.sgn 1040187392 = false := by
  have := V_const false 123 8388608 (.inr (by decide)) (by decide) (by decide)
  rw [show single.word false (123 * 8388608 + 8388608) = 1040187392 from by decide] at this
  refine ⟨this.1, ?_, this.2.2⟩
  rw [this.2.1, show ((8388608 : Nat) : Rat) = P2 23 from (P2_nat 23).symm, ← P2_add]
  simp [sg]
theorem const_2nd : single.fin 1056964608 ∧ single.V 1056964608 = P2 (-1) ∧ single.sgn 1056964608 = false := by
  have := V_const false 125 8388608 (.inr (by decide)) (by decide) (by decide)
  rw [show single.word false (125 * 8388608 + 8388608) = 1056964608 from by decide] at this
  refine ⟨this.1, ?_, this.2.2⟩
  rw [this.2.1, show ((8388608 : Nat) : Rat) = P2 23 from (P2_nat 23).symm, ← P2_add]
  simp [sg]

/-- what 'Smooth' makes of a cell and its neighbours -/
def smooth1 (n w : Nat) : Nat := addF n w
def smooth2 (n s e w : Nat) : Nat := mulF (addF (addF n w) (addF e s)) 1040187392
def smoothF (n s e w v : Nat) : Nat := subF (addF v (smooth2 n s e w)) (mulF v 1056964608)

theorem smooth_bd {k n s e w v : Nat} (hn : Bd k n) (hs : Bd k s) (he : Bd k e) (hw : Bd k w) (hv : Bd k v) (hk : k ≤ 80) :
    Bd (k + 1) (addF n w) ∧ Bd (k + 1) (addF e s) ∧ Bd (k + 2) (addF (addF n w) (addF e s)) ∧ Bd k (smooth2 n s e w) ∧ Bd (k + 1) (addF v (smooth2 n s e w)) ∧ Bd k (mulF v 1056964608) ∧ Bd (k + 2) (smoothF n s e w v) := by
  have a1 := hn.add hw (by omega)
  have a2 := he.add hs (by omega)
  have a3 := a1.add a2 (by omega)
  obtain ⟨c1, c2, _⟩ := const_eighth
  obtain ⟨d1, d2, _⟩ := const_2nd
  have p1 := P2_pos (-3)
  have p2 := P2_pos (-1)
  have m1 := P2_mono (show (-3 : Int) ≤ -2 by decide)
  have m2 := P2_mono (show (-1 : Int) ≤ 0 by decide)
  have a4 : Bd k (mulF (addF (addF n w) (addF e s)) 1040187392) := Bd.less (j := 2) a3 c1 (by rw [c2]; constructor <;> simp only [Int.cast_ofNat_Int] <;> grind) (by omega)
  have a5 := hv.add a4 (by omega)
  have a6 : Bd k (mulF v 1056964608) := Bd.less (j := 0) hv d1 (by rw [d2]; constructor <;> simp only [Int.cast_ofNat_Int, Int.neg_zero] <;> grind) (by omega)
  exact ⟨a1, a2, a3, a4, a5, a6, a5.sub (a6.mono (by omega)) (by omega)⟩
end Format
end Ieee
