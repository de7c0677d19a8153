import Derived.Test.YtfmbekdfigbfiaaJO
import Derived.Test.YtfmbekdfigbfiaaJA
import Derived.Test.YtfmbekdfigbfiaaEase
import Derived.Test.YtfmbekdfigbfiaaKLatt
import Derived.Test.YtfmbekdfigbfiaaStream
import Derived.Test.YtfmbekdfigbfiaaJC
namespace Go.Proofs.Ytfmbekdfigbfiaa
open Go.ChangeShapes Go.WideShapes Go.ChangeAt Go.RowKit
open Ieee.Format (fin finE htE allFin allHt all_true all_false mulF subF addF Ht Bd divF rootF floorF easeF mixF)
set_option linter.unusedVariables false
open Ieee.Format (Wi const_0 const_1 const_n1 conv_exact divF_lt div_bound div_nonneg subF_spec)

/-! ### noise on a lattice, in plain Lean -/
def latS (m c : Int) : Nat := divF (floatOfInt .f32 m) (floatOfInt .f32 c)
theorem lat_conv {c : Int} (h1 : 0 ≤ c) (h2 : c ≤ 4096) : fin Ieee.single (floatOfInt .f32 c) ∧ Ieee.single.V (floatOfInt .f32 c) = (c : Rat) ∧ Ieee.single.sgn (floatOfInt .f32 c) = false := by
  obtain ⟨a, b, d⟩ := conv_exact c (by omega) (by omega)
  exact ⟨a, b, by rw [d]; exact decide_eq_false (by omega)⟩
theorem lat_share {m c : Int} (h0 : 0 ≤ m) (h1 : m < c) (h2 : c ≤ 4096) : Share (latS m c) ∧ fin Ieee.single (floatOfInt .f32 m) ∧ fin Ieee.single (floatOfInt .f32 c) ∧ Ieee.single.V (floatOfInt .f32 c) ≠ 0 := by
  obtain ⟨a1, a2, a3⟩ := lat_conv h0 (by omega)
  obtain ⟨b1, b2, b3⟩ := lat_conv (show 0 ≤ c by omega) h2
  have hc : (0 : Rat) < (c : Rat) := by exact_mod_cast (show (0 : Int) < c by omega)
  have hm : (0 : Rat) ≤ (m : Rat) := by exact_mod_cast h0
  have hmc : (m : Rat) ≤ (c : Rat) := by exact_mod_cast (show m ≤ c by omega)
  have p : 0 < Ieee.single.V (floatOfInt .f32 c) := by rw [b2]; exact hc
  have r1 := div_bound a1 b1 p const_1.1 const_1.2.2 (by rw [const_1.2.1, a2, b2]; grind) (by rw [const_1.2.1, a2, b2]; grind)
  rw [const_1.2.1] at r1
  have r2 := div_nonneg a1 b1 p r1.1 (by rw [a2]; exact hm)
  exact ⟨⟨r1.1, r2, r1.2.1⟩, a1, b1, by grind⟩
theorem sub_one {s : Nat} (h : Share s) : fin Ieee.single (subF s 1065353216) ∧ -1 ≤ Ieee.single.V (subF s 1065353216) ∧ Ieee.single.V (subF s 1065353216) ≤ 1 := by
  obtain ⟨f, a, b⟩ := h
  have := (subF_spec f const_1.1).2.bound const_1.1 const_1.2.2 (by rw [const_1.2.1]; grind) (by rw [const_1.2.1]; grind)
  rw [const_1.2.1] at this
  exact ⟨this.1, this.2.2.1, this.2.1⟩
/-- the value at a place, made of those of the four corners around it -/
def latF (ψ : Int → Int → Nat → Nat → Nat) (x y c : Int) : Nat :=
  mixF (mixF (ψ (x / c) (y / c) (latS (x % c) c) (latS (y % c) c)) (ψ (x / c + 1) (y / c) (subF (latS (x % c) c) 1065353216) (latS (y % c) c)) (easeF (latS (x % c) c)))
    (mixF (ψ (x / c) (y / c + 1) (latS (x % c) c) (subF (latS (y % c) c) 1065353216)) (ψ (x / c + 1) (y / c + 1) (subF (latS (x % c) c) 1065353216) (subF (latS (y % c) c) 1065353216)) (easeF (latS (x % c) c)))
    (easeF (latS (y % c) c))
end Go.Proofs.Ytfmbekdfigbfiaa

namespace Go.Proofs.Ytfmbekdfigbfiaa
open Go.ChangeShapes Go.WideShapes Go.ChangeAt Go.RowKit
open Ieee.Format (fin finE htE allFin allHt all_true all_false mulF subF addF Ht Bd divF rootF floorF easeF mixF)
set_option linter.unusedVariables false
open Ieee.Format (const_1 bits_sub bits_div subF_lt divF_lt)

/-- how far from a corner -/
def Dx (d : Nat) : Prop := fin Ieee.single d ∧ -1 ≤ Ieee.single.V d ∧ Ieee.single.V d ≤ 1 ∧ d < 4294967296
theorem Share.dx {s : Nat} (h : Share s) (hl : s < 4294967296) : Dx s := ⟨h.1, by have := h.2.1; grind, h.2.2, hl⟩
theorem Share.dx1 {s : Nat} (h : Share s) : Dx (subF s 1065353216) := ⟨(sub_one h).1, (sub_one h).2.1, (sub_one h).2.2, subF_lt _ _⟩
theorem Share.bd {s : Nat} (h : Share s) : Bd 0 (easeF s) := by
  obtain ⟨_, _, _, f, a, b⟩ := Ieee.Format.ease_ok h.1 h.2.1 h.2.2
  exact ⟨f, by rw [show Ieee.P2 ((0 : Nat) : Int) = 1 from Ieee.P2_zero]; grind, by rw [show Ieee.P2 ((0 : Nat) : Int) = 1 from Ieee.P2_zero]; exact b⟩

end Go.Proofs.Ytfmbekdfigbfiaa

namespace Go.Proofs.Ytfmbekdfigbfiaa
open Go.ChangeShapes Go.WideShapes Go.ChangeAt Go.RowKit
open Ieee.Format (fin finE htE allFin allHt all_true all_false mulF subF addF Ht Bd divF rootF floorF easeF mixF)
set_option linter.unusedVariables false
open Ieee.Format (const_1 bits_sub bits_div subF_lt divF_lt)

theorem ref_dv_ok (x y : Nat) (w : World) (hx : fin Ieee.single x) (hy : fin Ieee.single y) (h0 : Ieee.single.V y ≠ 0) (hr : fin Ieee.single (divF x y)) :
    Calls Try.prog 197 #[.float .f32 x, .float .f32 y] w fun e w' => e = .returned (.float .f32 (divF x y)) ∧ w = w' := by
  obtain ⟨X, Y, Z, a, b, c, d⟩ := Ieee.Format.road_div hx hy h0 hr
  generalize divF x y = r at *
  have ka := fun w => run_convert_float_float (P := Try.prog) w 27 86 .f32 .f64 x X (by kernel_rfl) Try.underlying86 a
  have kb := fun w => run_convert_float_float (P := Try.prog) w 27 86 .f32 .f64 y Y (by kernel_rfl) Try.underlying86 b
  have kc := fun w => run_float_arith (P := Try.prog) w .quo 86 .f64 X Y Z c
  have kd := fun w => run_convert_float_float (P := Try.prog) w 86 27 .f64 .f32 Z r (by kernel_rfl) Try.underlying27 d
  clear a b c d
  go_enter Try.func197, Try.ntmps197
  go_wp2
  go_ret
  exact ⟨rfl, rfl⟩
end Go.Proofs.Ytfmbekdfigbfiaa

namespace Go.Proofs.Ytfmbekdfigbfiaa
open Go.ChangeShapes Go.WideShapes Go.ChangeAt Go.RowKit
open Ieee.Format (fin finE htE allFin allHt all_true all_false mulF subF addF Ht Bd divF rootF floorF easeF mixF)
set_option linter.unusedVariables false

/-! ### noise of values -/
def cvF (seed : Int) (k l : Int) (_ _ : Nat) : Nat := Ieee.Format.signedF (hashTo seed k l 0 3)
theorem cvF_wi (seed k l : Int) (dx dy : Nat) : Ieee.Format.Wi 1 (cvF seed k l dx dy) := by
  obtain ⟨h0, h1⟩ := hash_bounds seed k l 0
  obtain ⟨_, f, _⟩ := Ieee.Format.signed_ok _ h0 h1
  obtain ⟨_, _, a, b⟩ := Ieee.Format.unit_bounds _ h0 h1
  exact ⟨f, a, Rat.le_of_lt b⟩
theorem cvF_bd (seed k l : Int) (dx dy : Nat) : Bd 1 (cvF seed k l dx dy) := by
  obtain ⟨f, a, b⟩ := cvF_wi seed k l dx dy
  have e : Ieee.P2 ((1 : Nat) : Int) = 2 := Ieee.Format.P2_one
  exact ⟨f, by rw [e]; grind, by rw [e]; grind⟩
/-- the noise of values at a place -/
def valF (seed x y c : Int) : Nat := latF (cvF seed) x y c
end Go.Proofs.Ytfmbekdfigbfiaa
