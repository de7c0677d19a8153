import Derived.Test.YtgeeaegnohdejaaFloatI
import Derived.Laws.FloatArith
namespace Ieee
namespace Format
open Go

/-- the quotient of two small whole numbers -/
def shareF (m d : Nat) : Nat := (floatBits .quo .f32 (floatOfInt .f32 (m : Int)) (floatOfInt .f32 (d : Int))).getD 0
def roadDiv (x y : Nat) : Option Nat :=
  match floatToFloatBits .f32 x .f64, floatToFloatBits .f32 y .f64 with
  | some X, some Y => match floatBits .quo .f64 X Y with
    | some Z => floatToFloatBits .f64 Z .f32
    | none => none
  | _, _ => none
theorem roadDiv_some {x y r : Nat} (h : roadDiv x y = some r) : ∃ X Y Z, floatToFloatBits .f32 x .f64 = some X ∧ floatToFloatBits .f32 y .f64 = some Y ∧ floatBits .quo .f64 X Y = some Z ∧ floatToFloatBits .f64 Z .f32 = some r := by
  unfold roadDiv at h
  split at h
  · rename_i X Y hx hy
    split at h
    · rename_i Z hz
      exact ⟨X, Y, Z, hx, hy, hz, h⟩
    · cases h
  · cases h
def shareOk (m d : Nat) : Bool :=
  decide (floatBits .quo .f32 (floatOfInt .f32 (m : Int)) (floatOfInt .f32 (d : Int)) = some (shareF m d)) &&
  decide (roadDiv (floatOfInt .f32 (m : Int)) (floatOfInt .f32 (d : Int)) = some (shareF m d)) &&
  decide (shareF m d ≤ 1065353216) && (single.order (shareF m d) 0 == some .eq) == decide (m = 0)
theorem shares_all : (List.range 4096).all (fun k => if k % 64 < k / 64 + 1 then shareOk (k % 64) (k / 64 + 1) else true) = true := by decide +kernel
theorem share_ok {m d : Nat} (h : m < d) (hd : d ≤ 64) : shareOk m d = true := by
  have := List.all_eq_true.1 shares_all ((d - 1) * 64 + m) (List.mem_range.2 (by omega))
  rw [show ((d - 1) * 64 + m) % 64 = m from by omega, show ((d - 1) * 64 + m) / 64 + 1 = d from by omega, if_pos h] at this
  exact this
theorem share_facts {m d : Nat} (h : m < d) (hd : d ≤ 64) :
    floatBits .quo .f32 (floatOfInt .f32 (m : Int)) (floatOfInt .f32 (d : Int)) = some (shareF m d) ∧
    (∃ X Y Z, floatToFloatBits .f32 (floatOfInt .f32 (m : Int)) .f64 = some X ∧ floatToFloatBits .f32 (floatOfInt .f32 (d : Int)) .f64 = some Y ∧ floatBits .quo .f64 X Y = some Z ∧ floatToFloatBits .f64 Z .f32 = some (shareF m d)) ∧
    shareF m d ≤ 1065353216 ∧ (single.order (shareF m d) 0 == some .eq) = decide (m = 0) := by
  have := share_ok h hd
  unfold shareOk at this
  rw [Bool.and_eq_true, Bool.and_eq_true, Bool.and_eq_true] at this
  obtain ⟨⟨⟨a, b⟩, c⟩, e⟩ := this
  exact ⟨of_decide_eq_true a, roadDiv_some (of_decide_eq_true b), of_decide_eq_true c, by simpa using e⟩
theorem const_one : single.fin 1065353216 ∧ single.V 1065353216 = P2 0 ∧ single.sgn 1065353216 = false := by
  have := V_const false 126 8388608 (.inr (by decide)) (by decide) (by decide)
  rw [show single.word false (126 * 8388608 + 8388608) = 1065353216 from by decide] at this
  refine ⟨this.1, ?_, this.2.2⟩
  rw [this.2.1, show ((8388608 : Nat) : Rat) = P2 23 from (P2_nat 23).symm, ← P2_add]
  simp [sg]
/-- a word of at most that of 1 -/
theorem one_bd {s : Nat} (h : s % 2147483648 ≤ 1065353216) : Bd 0 s := by
  have := (V_rung_iff (x := s) const_one.2.2).2 (by rw [rung_lit, show single.rung 1065353216 = 1065353216 from by decide]; exact h)
  rw [const_one.2.1] at this
  exact ⟨by rw [fin_lit]; omega, this.1, this.2⟩

/-- a + (b - a) * s -/
def mixF (a b s : Nat) : Nat := addF a (mulF (subF b a) s)
theorem mix_bd {k a b s : Nat} (ha : Bd k a) (hb : Bd k b) (hs : Bd 0 s) (hk : k ≤ 80) : Bd (k + 1) (subF b a) ∧ Bd (k + 1) (mulF (subF b a) s) ∧ Bd (k + 2) (mixF a b s) := by
  have h1 := hb.sub ha (by omega)
  have h2 := h1.mul hs (by omega)
  exact ⟨h1, h2, (ha.mono (by omega)).add h2 (by omega)⟩
theorem mixF_lt (a b s : Nat) : mixF a b s < 4294967296 := addF_lt _ _
end Format
end Ieee
