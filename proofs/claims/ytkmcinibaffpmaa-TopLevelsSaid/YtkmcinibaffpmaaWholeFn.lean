import Derived.Test.YtkmcinibaffpmaaFloatO
import Derived.Test.YtkmcinibaffpmaaM8
import Derived.Test.YtkmcinibaffpmaaThermOp
import Derived.Deep.RegionHeld3
import Derived.WalkLawsBesides
namespace Go.Proofs.Ytkmcinibaffpmaa
open Go.ChangeShapes Go.WideShapes Go.ChangeAt Go.RowKit
open Ieee.Format (fin finE htE allFin allHt all_true all_false mulF subF addF Ht Bd divF rootF floorF easeF mixF)
set_option linter.unusedVariables false
open Ieee.Format (floor_spec whole_int frac_bd frac_zero const_40)

theorem run_floor64 (X : Nat) (s : Bool) (m : Nat) (i : Int) (hd : FloatKind.decode .f64 X = .number s m i) (w : World) : (callFunc 283 #[.float .f64 X]).run Try.prog w = .ok (.value (.float .f64 (FloatKind.encode .f64 (Ieee.Datum.integral .down (.number s m i))))) w := by
  rw [run_callFunc_extern Try.func283 (by kernel_rfl) (by kernel_rfl) (by kernel_rfl) (show _ = some (Extern.MathFloor.toIntegral "math.archFloor" .down) by kernel_rfl)]
  have e : Extern.MathFloor.toIntegral "math.archFloor" .down #[.float .f64 X] = pure (.float .f64 (FloatKind.encode .f64 (Ieee.Datum.integral .down (.number s m i)))) := by
    change (match FloatKind.f64.decode X with | .nan s t => _ | d => (pure (.float .f64 (FloatKind.encode .f64 (Ieee.Datum.integral .down d))) : Sem Value)) = _
    rw [hd]
  rw [e]; rfl
theorem mathfloor_any (X : Nat) (s : Bool) (m : Nat) (i : Int) (hd : FloatKind.decode .f64 X = .number s m i) (w : World) : Calls Try.prog 233 #[.float .f64 X] w fun e w' => e = .returned (.float .f64 (FloatKind.encode .f64 (Ieee.Datum.integral .down (.number s m i)))) ∧ w = w' := by
  have K := run_floor64 X s m i hd
  clear hd
  generalize FloatKind.encode .f64 (Ieee.Datum.integral .down (.number s m i)) = Z at *
  go_enter Try.func233, Try.ntmps233
  go_wp2
  go_ret
  exact ⟨rfl, rfl⟩

theorem reffloor_any (x : Nat) (hx : fin Ieee.single x) (hl : x < 4294967296) (w : World) : Calls Try.prog 152 #[.float .f32 x] w fun e w' => e = .returned (.float .f32 (floorF x)) ∧ w = w' := by
  obtain ⟨X, s, m, i, a, b, c, _⟩ := floor_spec hx hl
  have ka := fun w => run_convert_float_float (P := Try.prog) w 29 44 .f32 .f64 x X (by kernel_rfl) Try.underlying44 a
  have kc := fun w => run_convert_float_float (P := Try.prog) w 44 29 .f64 .f32 _ (floorF x) (by kernel_rfl) Try.underlying29 c
  have KS := Lib.hid (fun w => mathfloor_any X s m i b w)
  generalize FloatKind.encode .f64 (Ieee.Datum.integral .down (.number s m i)) = Z at *
  generalize floorF x = r at *
  clear a b c hx hl
  go_enter Try.func152, Try.ntmps152
  go_wp2_with fail
  refine (KS.out _).mono ?_
  rintro e w' ⟨rfl, rfl⟩
  go_wp2_with fail
  go_ret
  exact ⟨rfl, rfl⟩

theorem const_n40 : fin Ieee.single 3548381184 ∧ Ieee.single.V 3548381184 = -Ieee.P2 40 := by
  refine ⟨by decide, ?_⟩
  rw [← const_40.2.1]
  exact Ieee.Format.V_neg_word (by decide) const_40.2.2 (by decide)
theorem const_23 : fin Ieee.single 1258291200 ∧ Ieee.single.V 1258291200 = Ieee.P2 23 ∧ Ieee.single.sgn 1258291200 = false := by
  have := Ieee.Format.V_const false 149 8388608 (.inr (by decide)) (by decide) (by decide)
  rw [show Ieee.single.word false (149 * 8388608 + 8388608) = 1258291200 from by decide] at this
  refine ⟨this.1, ?_, this.2.2⟩
  rw [this.2.1, show ((149 : Nat) : Int) - 149 = 0 from rfl, Ieee.P2_zero]
  have e : Ieee.P2 23 = ((8388608 : Nat) : Rat) := Ieee.P2_nat 23
  rw [e]; simp [Ieee.sg]

def floorZ (x : Nat) : Int := (floatToIntVal .f32 (floorF x) .i64).getD 0
theorem floorZ_spec {x : Nat} (hx : fin Ieee.single x) (hl : x < 4294967296) (h1 : -Ieee.P2 40 ≤ Ieee.single.V x) (h2 : Ieee.single.V x ≤ Ieee.P2 40) :
    floatToIntVal .f32 (floorF x) .i64 = some (floorZ x) ∧ Ieee.single.V (floorF x) = (floorZ x : Rat) ∧ (floorZ x : Rat) ≤ Ieee.single.V x ∧ Ieee.single.V x < (floorZ x : Rat) + 1 ∧ -1099511627776 ≤ floorZ x ∧ floorZ x ≤ 1099511627776 := by
  obtain ⟨X, s, m, i, _, _, _, hf, _, z, g1, g2, g3⟩ := floor_spec hx hl
  have e40 : Ieee.P2 40 = ((1099511627776 : Int) : Rat) := Ieee.P2_nat 40
  have b1 : z ≤ 1099511627776 := by
    have : (z : Rat) ≤ ((1099511627776 : Int) : Rat) := by rw [← e40]; grind
    exact Rat.intCast_le_intCast.1 this
  have b2 : -1099511627776 < z + 1 := by
    have : ((-1099511627776 : Int) : Rat) < ((z + 1 : Int) : Rat) := by
      rw [Rat.intCast_add, show (-1099511627776 : Int) = -(1099511627776 : Int) from rfl, Rat.intCast_neg, ← e40]
      have : ((1 : Int) : Rat) = 1 := rfl
      grind
    exact Rat.intCast_lt_intCast.1 this
  have hw := whole_int hf g1 (by omega) (by omega)
  have e : floorZ x = z := by unfold floorZ; rw [hw]; rfl
  rw [e]
  exact ⟨hw, g1, g2, g3, by omega, b1⟩

def wholeF (x : Nat) : Int := if lss x 3548381184 = true then -1099511627776 else if gtr x 1400897536 = true then 1099511627776 else floorZ x
theorem wholeF_bd {x : Nat} (hx : fin Ieee.single x) (hl : x < 4294967296) : -1099511627776 ≤ wholeF x ∧ wholeF x ≤ 1099511627776 := by
  unfold wholeF
  split
  · omega
  · split
    · omega
    · rename_i h1 h2
      rw [lss_V hx const_n40.1, const_n40.2] at h1
      rw [gtr_V hx const_40.1, const_40.2.1] at h2
      simp only [decide_eq_true_eq] at h1 h2
      have := floorZ_spec hx hl (by grind) (by grind)
      omega

/-- the value between the cells -/
def betR (X Y : Int) (Wn Hn : Nat) (l : List Nat) (x y : Nat) : Option Nat := bilV X Y Wn Hn l (wholeF x) (wholeF y) (subF x (floorF x)) (subF y (floorF y))

end Go.Proofs.Ytkmcinibaffpmaa
