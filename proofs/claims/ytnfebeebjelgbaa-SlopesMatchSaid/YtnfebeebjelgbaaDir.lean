import Derived.Test.YtnfebeebjelgbaaRefBil
import Derived.Test.YtnfebeebjelgbaaCurveOp
namespace Go.Proofs.Ytnfebeebjelgbaa
open Go.ChangeShapes Go.WideShapes Go.ChangeAt Go.RowKit
open Ieee.Format (fin finE htE allFin allHt all_true all_false mulF subF addF Ht Bd divF rootF floorF easeF mixF)
set_option linter.unusedVariables false
open Ieee.Format (widen widen_any dmag dmag_parts narrow_of Rounds.self)

theorem dmag_V {D x : Nat} (hD : fin Ieee.double D) (hV : Ieee.double.V D = Ieee.single.V x) (hs : Ieee.double.sgn D = Ieee.single.sgn x) :
    fin Ieee.double (dmag D) ∧ Ieee.double.V (dmag D) = Ieee.single.V (mag x) ∧ Ieee.double.sgn (dmag D) = Ieee.single.sgn (mag x) := by
  obtain ⟨p, q⟩ := dmag_parts D
  obtain ⟨r, s⟩ := mag_parts x
  refine ⟨by unfold fin at *; rw [q]; exact hD, ?_, by rw [p, s]⟩
  unfold Ieee.Format.V at *
  rw [p, q, r, s]
  rw [hs] at hV
  cases hx : Ieee.single.sgn x
  · rw [hx] at hV; exact hV
  · rw [hx] at hV; simp only [Ieee.sg, if_true] at hV; simp only [Ieee.sg]; grind
theorem mag_lt (x : Nat) : mag x < 4294967296 := by have := Nat.mod_lt x (show 0 < 2147483648 by decide); unfold mag; omega
theorem mag_wide {x : Nat} (hx : fin Ieee.single x) : ∃ D, floatToFloatBits .f32 x .f64 = some D ∧ D < 2 ^ 64 ∧ floatToFloatBits .f64 (dmag D) .f32 = some (mag x) := by
  obtain ⟨D, a, b, c, d⟩ := widen hx
  obtain ⟨E, a', b', _, _⟩ := widen_any (x := x) (by
    have h : Ieee.single.rung x < Ieee.single.infRung := hx
    rw [Ieee.Format.rung_lit] at h
    have : Ieee.single.infRung = 2139095040 := by decide
    omega)
  have e : D = E := Option.some.inj (a.symm.trans a')
  obtain ⟨f, g, h⟩ := dmag_V b c d
  refine ⟨D, a, by rw [e]; exact b', narrow_of f ?_ (mag_fin hx)⟩
  rw [g, h]
  exact Rounds.self (mag_fin hx) (mag_lt x)

theorem magnitude_any (x : Nat) (hx : fin Ieee.single x) (w : World) : Calls Try.prog 218 #[.float .f32 x] w fun e w' => e = .returned (.float .f32 (mag x)) ∧ w = w' := by
  obtain ⟨D, a, b, c⟩ := mag_wide hx
  have ka := fun w => run_convert_float_float (P := Try.prog) w 37 114 .f32 .f64 x D (by kernel_rfl) Try.underlying114 a
  have kc := fun w => run_convert_float_float (P := Try.prog) w 114 37 .f64 .f32 (dmag D) (mag x) (by kernel_rfl) Try.underlying37 c
  have KS := Lib.hid (fun w => mathabs_any D b w)
  generalize mag x = r at *
  generalize dmag D = E at *
  clear a b c hx
  go_enter Try.func218, Try.ntmps218
  go_wp2_with fail
  refine (KS.out _).mono ?_
  rintro e w' ⟨rfl, rfl⟩
  go_wp2_with fail
  go_ret
  exact ⟨rfl, rfl⟩

/-! ### which way a vector points -/
def leF (x y : Nat) : Bool := FloatKind.f32.format.order x y == some .lt || FloatKind.f32.format.order x y == some .eq
def eqF (x y : Nat) : Bool := FloatKind.f32.format.order x y == some .eq
def bigF (u v : Nat) : Bool := leF (mulF (mag u) 1075838976) (mag v)
def dirF (a b : Nat) : Int :=
  if eqF a 0 = true ∧ eqF b 0 = true then -1
  else if bigF b a = true then (if gtr a 0 = true then 0 else 4)
  else if bigF a b = true then (if gtr b 0 = true then 2 else 6)
  else if gtr b 0 = true then (if gtr a 0 = true then 1 else 3)
  else (if gtr a 0 = true then 7 else 5)

theorem const_25 : fin Ieee.single 1075838976 ∧ -Ieee.P2 2 ≤ Ieee.single.V 1075838976 ∧ Ieee.single.V 1075838976 ≤ Ieee.P2 2 := by
  have h := Ieee.Format.V_const false 127 (8388608 + 2097152) (.inr (by decide)) (by decide) (by decide)
  rw [show Ieee.single.word false (127 * 8388608 + (8388608 + 2097152)) = 1075838976 from by decide] at h
  refine ⟨h.1, ?_⟩
  rw [h.2.1]
  have p := Ieee.P2_pos (-22)
  have q := Ieee.P2_pos 2
  have e : Ieee.P2 2 = ((16777216 : Nat) : Rat) * Ieee.P2 (-22) := by
    rw [show ((16777216 : Nat) : Rat) = Ieee.P2 24 from (Ieee.P2_nat 24).symm, ← Ieee.P2_add]; rfl
  have e2 : ((127 : Nat) : Int) - 149 = -22 := rfl
  rw [e2, e]
  have a1 : ((8388608 + 2097152 : Nat) : Rat) ≤ ((16777216 : Nat) : Rat) := Rat.natCast_le_natCast.2 (by decide)
  have a2 : (0 : Rat) ≤ ((8388608 + 2097152 : Nat) : Rat) := by decide
  have m1 := Rat.mul_le_mul_of_nonneg_right a1 (Rat.le_of_lt p)
  have m2 := Rat.mul_nonneg a2 (Rat.le_of_lt p)
  simp only [Ieee.sg]
  constructor <;> grind
theorem leF_V {x y : Nat} (hx : fin Ieee.single x) (hy : fin Ieee.single y) : leF x y = decide (Ieee.single.V x ≤ Ieee.single.V y) := by
  unfold leF
  rw [show (FloatKind.f32.format.order x y == some .lt) = decide (Ieee.single.V x < Ieee.single.V y) from Ieee.single.order_lt hx hy,
    show (FloatKind.f32.format.order x y == some .eq) = decide (Ieee.single.V x = Ieee.single.V y) from Ieee.single.order_eq hx hy, ← Bool.decide_or]
  congr 1
  apply propext
  constructor
  · rintro (h | h) <;> grind
  · intro h; by_cases e : Ieee.single.V x = Ieee.single.V y; exact .inr e; left; grind
theorem mag_Bd {k x : Nat} (h : Bd k x) : Bd k (mag x) := by
  obtain ⟨h1, h2, h3⟩ := h
  have m := mag_V x
  have p := Ieee.P2_pos k
  refine ⟨mag_fin h1, ?_, ?_⟩ <;> rcases m.2 with e | e <;> rw [e] <;> grind
theorem big_bd {x : Nat} (h : Bd 20 x) : Bd 22 (mulF (mag x) 1075838976) := (mag_Bd h).mul (j := 2) const_25 (by omega)
theorem not_zero {a b : Nat} (ha : Bd 20 a) (hb : Bd 20 b) (h : bigF a b = false) : lss a 0 = !gtr a 0 := by
  rw [lss_V ha.1 Ieee.Format.const_0.1, gtr_V ha.1 Ieee.Format.const_0.1, Ieee.Format.const_0.2.1]
  have hn : Ieee.single.V a ≠ 0 := by
    intro e
    have hm : Ieee.single.V (mag a) = 0 := by rcases (mag_V a).2 with f | f <;> rw [f, e] <;> decide
    have hs := (Ieee.Format.mulF_spec (mag_fin ha.1) const_25.1).2
    rw [hm, Rat.zero_mul] at hs
    obtain ⟨f1, f2, f3⟩ := hs.bound (c := 0) Ieee.Format.const_0.1 (by decide) (by rw [Ieee.Format.const_0.2.1]; decide) (by rw [Ieee.Format.const_0.2.1]; decide)
    rw [Ieee.Format.const_0.2.1] at f2 f3
    have : bigF a b = true := by
      unfold bigF
      rw [leF_V (big_bd ha).1 (mag_fin hb.1)]
      have := (mag_V b).1
      simp; grind
    rw [h] at this
    exact absurd this (by decide)
  by_cases hl : Ieee.single.V a < 0
  · have : ¬ (0 < Ieee.single.V a) := by grind
    simp [hl, this]
  · have : 0 < Ieee.single.V a := by grind
    simp [hl, this]
end Go.Proofs.Ytnfebeebjelgbaa
