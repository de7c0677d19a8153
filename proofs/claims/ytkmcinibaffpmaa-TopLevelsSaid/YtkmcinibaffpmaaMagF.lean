import Derived.Test.YtkmcinibaffpmaaRefBil
namespace Go.Proofs.Ytkmcinibaffpmaa
open Go.ChangeShapes Go.WideShapes Go.ChangeAt Go.RowKit
open Ieee.Format (fin finE htE allFin allHt all_true all_false mulF subF addF Ht Bd divF rootF floorF easeF mixF)
set_option linter.unusedVariables false
open Ieee.Format (widen widen_any dmag dmag_parts narrow_of Rounds.self)

theorem dmag_V {D x : Nat} (hD : fin Ieee.double D) (hV : Ieee.double.V D = Ieee.single.V x) (hs : Ieee.double.sgn D = Ieee.single.sgn x) :
    fin Ieee.double (dmag D) ∧ Ieee.double.V (dmag D) = Ieee.single.V (mag x) ∧ Ieee.double.sgn (dmag D) = Ieee.single.sgn (mag x) := by
  obtain ⟨p, q⟩ := dmag_parts D
  obtain ⟨r, s⟩ := mag_parts x
  refine ⟨by unfold fin at *; rw [q]; exact hD, ?_, by rw [p, s]⟩
  unfold Ieee.Format.V at *
  rw [p, q, r, s]
  rw [hs] at hV
  cases hx : Ieee.single.sgn x
  · rw [hx] at hV; exact hV
  · rw [hx] at hV; simp only [Ieee.sg, if_true] at hV; simp only [Ieee.sg]; grind
theorem mag_lt (x : Nat) : mag x < 4294967296 := by have := Nat.mod_lt x (show 0 < 2147483648 by decide); unfold mag; omega
theorem mag_wide {x : Nat} (hx : fin Ieee.single x) : ∃ D, floatToFloatBits .f32 x .f64 = some D ∧ D < 2 ^ 64 ∧ floatToFloatBits .f64 (dmag D) .f32 = some (mag x) := by
  obtain ⟨D, a, b, c, d⟩ := widen hx
  obtain ⟨E, a', b', _, _⟩ := widen_any (x := x) (by
    have h : Ieee.single.rung x < Ieee.single.infRung := hx
    rw [Ieee.Format.rung_lit] at h
    have : Ieee.single.infRung = 2139095040 := by decide
    omega)
  have e : D = E := Option.some.inj (a.symm.trans a')
  obtain ⟨f, g, h⟩ := dmag_V b c d
  refine ⟨D, a, by rw [e]; exact b', narrow_of f ?_ (mag_fin hx)⟩
  rw [g, h]
  exact Rounds.self (mag_fin hx) (mag_lt x)

theorem magnitude_any (x : Nat) (hx : fin Ieee.single x) (w : World) : Calls Try.prog 124 #[.float .f32 x] w fun e w' => e = .returned (.float .f32 (mag x)) ∧ w = w' := by
  obtain ⟨D, a, b, c⟩ := mag_wide hx
  have ka := fun w => run_convert_float_float (P := Try.prog) w 29 44 .f32 .f64 x D (by kernel_rfl) Try.underlying44 a
  have kc := fun w => run_convert_float_float (P := Try.prog) w 44 29 .f64 .f32 (dmag D) (mag x) (by kernel_rfl) Try.underlying29 c
  have KS := Lib.hid (fun w => mathabs_any D b w)
  generalize mag x = r at *
  generalize dmag D = E at *
  clear a b c hx
  go_enter Try.func124, Try.ntmps124
  go_wp2_with fail
  refine (KS.out _).mono ?_
  rintro e w' ⟨rfl, rfl⟩
  go_wp2_with fail
  go_ret
  exact ⟨rfl, rfl⟩
end Go.Proofs.Ytkmcinibaffpmaa
