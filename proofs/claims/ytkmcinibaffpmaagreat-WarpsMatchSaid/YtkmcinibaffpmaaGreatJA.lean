import Derived.Test.YtkmcinibaffpmaaGreatFloatR
import Derived.Test.YtkmcinibaffpmaaGreatFloatM
import Derived.Test.YtkmcinibaffpmaaGreatEase
import Derived.Test.YtkmcinibaffpmaaGreatLatt
import Derived.Test.YtkmcinibaffpmaaGreatStream
import Derived.Test.YtkmcinibaffpmaaGreatThermFn
import Derived.BigQuiet
namespace Go.Proofs.YtkmcinibaffpmaaGreat
open Go.ChangeShapes Go.WideShapes Go.ChangeAt Go.RowKit
open Ieee.Format (fin finE htE allFin allHt all_true all_false mulF subF addF Ht Bd divF rootF floorF easeF mixF)
set_option linter.unusedVariables false
open Ieee.Format (Wi const_0 const_1 const_n1 conv_exact divF_lt div_bound div_nonneg subF_spec)

/-! ### noise on a lattice, in plain Lean -/
def latS (m c : Int) : Nat := divF (floatOfInt .f32 m) (floatOfInt .f32 c)
theorem lat_conv {c : Int} (h1 : 0 ≤ c) (h2 : c ≤ 4096) : fin Ieee.single (floatOfInt .f32 c) ∧ Ieee.single.V (floatOfInt .f32 c) = (c : Rat) ∧ Ieee.single.sgn (floatOfInt .f32 c) = false := by
  obtain ⟨a, b, d⟩ := conv_exact c (by omega) (by omega)
  exact ⟨a, b, by rw [d]; exact decide_eq_false (by omega)⟩
theorem lat_share {m c : Int} (h0 : 0 ≤ m) (h1 : m < c) (h2 : c ≤ 4096) : Share (latS m c) ∧ fin Ieee.single (floatOfInt .f32 m) ∧ fin Ieee.single (floatOfInt .f32 c) ∧ Ieee.single.V (floatOfInt .f32 c) ≠ 0 := by
  obtain ⟨a1, a2, a3⟩ := lat_conv h0 (by omega)
  obtain ⟨b1, b2, b3⟩ := lat_conv (show 0 ≤ c by omega) h2
  have hc : (0 : Rat) < (c : Rat) := by exact_mod_cast (show (0 : Int) < c by omega)
  have hm : (0 : Rat) ≤ (m : Rat) := by exact_mod_cast h0
  have hmc : (m : Rat) ≤ (c : Rat) := by exact_mod_cast (show m ≤ c by omega)
  have p : 0 < Ieee.single.V (floatOfInt .f32 c) := by rw [b2]; exact hc
  have r1 := div_bound a1 b1 p const_1.1 const_1.2.2 (by rw [const_1.2.1, a2, b2]; grind) (by rw [const_1.2.1, a2, b2]; grind)
  rw [const_1.2.1] at r1
  have r2 := div_nonneg a1 b1 p r1.1 (by rw [a2]; exact hm)
  exact ⟨⟨r1.1, r2, r1.2.1⟩, a1, b1, by grind⟩
theorem sub_one {s : Nat} (h : Share s) : fin Ieee.single (subF s 1065353216) ∧ -1 ≤ Ieee.single.V (subF s 1065353216) ∧ Ieee.single.V (subF s 1065353216) ≤ 1 := by
  obtain ⟨f, a, b⟩ := h
  have := (subF_spec f const_1.1).2.bound const_1.1 const_1.2.2 (by rw [const_1.2.1]; grind) (by rw [const_1.2.1]; grind)
  rw [const_1.2.1] at this
  exact ⟨this.1, this.2.2.1, this.2.1⟩
/-- the value at a place, made of those of the four corners around it -/
def latF (ψ : Int → Int → Nat → Nat → Nat) (x y c : Int) : Nat :=
  mixF (mixF (ψ (x / c) (y / c) (latS (x % c) c) (latS (y % c) c)) (ψ (x / c + 1) (y / c) (subF (latS (x % c) c) 1065353216) (latS (y % c) c)) (easeF (latS (x % c) c)))
    (mixF (ψ (x / c) (y / c + 1) (latS (x % c) c) (subF (latS (y % c) c) 1065353216)) (ψ (x / c + 1) (y / c + 1) (subF (latS (x % c) c) 1065353216) (subF (latS (y % c) c) 1065353216)) (easeF (latS (x % c) c)))
    (easeF (latS (y % c) c))
end Go.Proofs.YtkmcinibaffpmaaGreat

namespace Go.Proofs.YtkmcinibaffpmaaGreat
open Go.ChangeShapes Go.WideShapes Go.ChangeAt Go.RowKit
open Ieee.Format (fin finE htE allFin allHt all_true all_false mulF subF addF Ht Bd divF rootF floorF easeF mixF)
set_option linter.unusedVariables false
open Ieee.Format (const_1 bits_sub bits_div subF_lt divF_lt)

/-- how far from a corner -/
def Dx (d : Nat) : Prop := fin Ieee.single d ∧ -1 ≤ Ieee.single.V d ∧ Ieee.single.V d ≤ 1 ∧ d < 4294967296
theorem Share.dx {s : Nat} (h : Share s) (hl : s < 4294967296) : Dx s := ⟨h.1, by have := h.2.1; grind, h.2.2, hl⟩
theorem Share.dx1 {s : Nat} (h : Share s) : Dx (subF s 1065353216) := ⟨(sub_one h).1, (sub_one h).2.1, (sub_one h).2.2, subF_lt _ _⟩
theorem Share.bd {s : Nat} (h : Share s) : Bd 0 (easeF s) := by
  obtain ⟨_, _, _, f, a, b⟩ := Ieee.Format.ease_ok h.1 h.2.1 h.2.2
  exact ⟨f, by rw [show Ieee.P2 ((0 : Nat) : Int) = 1 from Ieee.P2_zero]; grind, by rw [show Ieee.P2 ((0 : Nat) : Int) = 1 from Ieee.P2_zero]; exact b⟩

set_option maxRecDepth 100000 in
set_option maxHeartbeats 2000000 in
theorem corners_any (gn : Nat) (caps : Array Value) (ψ : Int → Int → Nat → Nat → Nat) (x y c : Int) (w : World) (hx : -8388608 ≤ x) (hx2 : x ≤ 8388608) (hy : -8388608 ≤ y) (hy2 : y ≤ 8388608) (h1 : 1 ≤ c) (h2 : c ≤ 4096)
    (eg : ∀ args w, (callFunc gn args).run Tryz.prog w = .ok (.enter gn args) w)
    (hf : ∀ k l dx dy, Dx dx → Dx dy → ∀ W', Below w.heap.size w W' → Calls Tryz.prog gn (#[.int .i64 k, .int .i64 l, .float .f32 dx, .float .f32 dy] ++ caps) W' fun e w' => e = .returned (.float .f32 (ψ k l dx dy)) ∧ Below W'.heap.size W' w')
    (hψ : ∀ k l dx dy, Dx dx → Dx dy → Bd 1 (ψ k l dx dy)) :
    Calls Tryz.prog 94 #[.int .i64 x, .int .i64 y, .int .i64 c, .func (.func gn) #[] caps] w fun e w' => e = .returned (.float .f32 (latF ψ x y c)) ∧ Below w.heap.size w w' := by
  have KX := Lib.hid (fun w => lat_any x c w (by omega) (by omega) (by omega) (by omega))
  have KY := Lib.hid (fun w => lat_any y c w (by omega) (by omega) (by omega) (by omega))
  have bx := ediv_small x c 8388608 (by omega) (by omega) (by omega) (by omega)
  have by' := ediv_small y c 8388608 (by omega) (by omega) (by omega) (by omega)
  obtain ⟨sh, f1, f2, f3⟩ := lat_share (m := x % c) (c := c) (Int.emod_nonneg _ (by omega)) (Int.emod_lt_of_pos _ (by omega)) h2
  obtain ⟨th, f4, _, _⟩ := lat_share (m := y % c) (c := c) (Int.emod_nonneg _ (by omega)) (Int.emod_lt_of_pos _ (by omega)) h2
  have k1 := fun w' => run_float_arith (P := Tryz.prog) w' .quo 23 .f32 (floatOfInt .f32 (x % c)) (floatOfInt .f32 c) (latS (x % c) c) (bits_div f1 f2 f3)
  have k2 := fun w' => run_float_arith (P := Tryz.prog) w' .quo 23 .f32 (floatOfInt .f32 (y % c)) (floatOfInt .f32 c) (latS (y % c) c) (bits_div f4 f2 f3)
  have k3 := fun w' => run_float_arith (P := Tryz.prog) w' .sub 23 .f32 (latS (x % c) c) 1065353216 (subF (latS (x % c) c) 1065353216) (bits_sub sh.1 const_1.1)
  have k4 := fun w' => run_float_arith (P := Tryz.prog) w' .sub 23 .f32 (latS (y % c) c) 1065353216 (subF (latS (y % c) c) 1065353216) (bits_sub th.1 const_1.1)
  have dS := Share.dx sh (divF_lt _ _)
  have dT := Share.dx th (divF_lt _ _)
  have dS1 := Share.dx1 sh
  have dT1 := Share.dx1 th
  have KU := Lib.hid (fun w => ease_any (latS (x % c) c) sh w)
  have KV := Lib.hid (fun w => ease_any (latS (y % c) c) th w)
  have HC1 := Lib.hid (hf (x / c) (y / c) _ _ dS dT)
  have HC2 := Lib.hid (hf (x / c + 1) (y / c) _ _ dS1 dT)
  have HC3 := Lib.hid (hf (x / c) (y / c + 1) _ _ dS dT1)
  have HC4 := Lib.hid (hf (x / c + 1) (y / c + 1) _ _ dS1 dT1)
  have m1 := Ieee.Format.mix_bd (hψ (x / c) (y / c) _ _ dS dT) (hψ (x / c + 1) (y / c) _ _ dS1 dT) (Share.bd sh) (by decide)
  have m2 := Ieee.Format.mix_bd (hψ (x / c) (y / c + 1) _ _ dS dT1) (hψ (x / c + 1) (y / c + 1) _ _ dS1 dT1) (Share.bd sh) (by decide)
  have KM1 := Lib.hid (fun w => mix_any 1 _ _ _ w (hψ (x / c) (y / c) _ _ dS dT) (hψ (x / c + 1) (y / c) _ _ dS1 dT) (Share.bd sh) (by decide))
  have KM2 := Lib.hid (fun w => mix_any 1 _ _ _ w (hψ (x / c) (y / c + 1) _ _ dS dT1) (hψ (x / c + 1) (y / c + 1) _ _ dS1 dT1) (Share.bd sh) (by decide))
  have KM3 := Lib.hid (fun w => mix_any 3 _ _ _ w m1.2.2 m2.2.2 (Share.bd th) (by decide))
  unfold latF
  clear hf hψ sh th f1 f2 f3 f4 dS dT dS1 dT1 m1 m2
  generalize hzc : floatOfInt .f32 c = zc at *
  generalize hzm : floatOfInt .f32 (x % c) = zm at *
  generalize hzn : floatOfInt .f32 (y % c) = zn at *
  generalize ψ (x / c) (y / c) (latS (x % c) c) (latS (y % c) c) = p1 at *
  generalize ψ (x / c + 1) (y / c) (subF (latS (x % c) c) 1065353216) (latS (y % c) c) = p2 at *
  generalize ψ (x / c) (y / c + 1) (latS (x % c) c) (subF (latS (y % c) c) 1065353216) = p3 at *
  generalize ψ (x / c + 1) (y / c + 1) (subF (latS (x % c) c) 1065353216) (subF (latS (y % c) c) 1065353216) = p4 at *
  generalize subF (latS (x % c) c) 1065353216 = s1 at *
  generalize subF (latS (y % c) c) 1065353216 = t1 at *
  generalize easeF (latS (x % c) c) = u at *
  generalize easeF (latS (y % c) c) = v at *
  generalize latS (x % c) c = s at *
  generalize latS (y % c) c = t at *
  generalize mixF (mixF p1 p2 u) (mixF p3 p4 u) v = r at *
  generalize mixF p1 p2 u = q1 at *
  generalize mixF p3 p4 u = q2 at *
  generalize x / c = i at *
  generalize y / c = j at *
  generalize x % c = m at *
  generalize y % c = n at *
  go_enter Tryz.func94, Tryz.ntmps94
  go_wp2_with fail
  refine (KX.out _).mono ?_
  rintro e w1 ⟨rfl, b1⟩
  have HB1 := Lib.hid b1
  clear b1
  go_wp2_with fail
  refine (KY.out _).mono ?_
  rintro e w2 ⟨rfl, b2⟩
  have HB2 := Lib.hid (HB1.out.trans (b2.mono HB1.out.size))
  clear b2
  go_wp2_with fail
  refine (KU.out _).mono ?_
  rintro e w3 ⟨rfl, rfl⟩
  go_wp2_with fail
  refine (KV.out _).mono ?_
  rintro e w3 ⟨rfl, rfl⟩
  go_wp2_with fail
  refine (HC1.out _ HB2.out).mono ?_
  rintro e w4 ⟨rfl, b4⟩
  have HB4 := Lib.hid (HB2.out.trans (b4.mono HB2.out.size))
  clear b4
  go_wp2_with fail
  refine (HC2.out _ HB4.out).mono ?_
  rintro e w5 ⟨rfl, b5⟩
  have HB5 := Lib.hid (HB4.out.trans (b5.mono HB4.out.size))
  clear b5
  go_wp2_with fail
  refine (KM1.out _).mono ?_
  rintro e w6 ⟨rfl, rfl⟩
  go_wp2_with fail
  refine (HC3.out _ HB5.out).mono ?_
  rintro e w7 ⟨rfl, b7⟩
  have HB7 := Lib.hid (HB5.out.trans (b7.mono HB5.out.size))
  clear b7
  go_wp2_with fail
  refine (HC4.out _ HB7.out).mono ?_
  rintro e w8 ⟨rfl, b8⟩
  have HB8 := Lib.hid (HB7.out.trans (b8.mono HB7.out.size))
  clear b8
  go_wp2_with fail
  refine (KM2.out _).mono ?_
  rintro e w9 ⟨rfl, rfl⟩
  go_wp2_with fail
  refine (KM3.out _).mono ?_
  rintro e w9 ⟨rfl, rfl⟩
  go_wp2_with fail
  go_ret
  exact ⟨rfl, HB8.out⟩
end Go.Proofs.YtkmcinibaffpmaaGreat

namespace Go.Proofs.YtkmcinibaffpmaaGreat
open Go.ChangeShapes Go.WideShapes Go.ChangeAt Go.RowKit
open Ieee.Format (fin finE htE allFin allHt all_true all_false mulF subF addF Ht Bd divF rootF floorF easeF mixF)
set_option linter.unusedVariables false
open Ieee.Format (const_1 bits_sub bits_div subF_lt divF_lt)

theorem ref_dv_ok (x y : Nat) (w : World) (hx : fin Ieee.single x) (hy : fin Ieee.single y) (h0 : Ieee.single.V y ≠ 0) (hr : fin Ieee.single (divF x y)) :
    Calls Tryz.prog 88 #[.float .f32 x, .float .f32 y] w fun e w' => e = .returned (.float .f32 (divF x y)) ∧ w = w' := by
  obtain ⟨X, Y, Z, a, b, c, d⟩ := Ieee.Format.road_div hx hy h0 hr
  generalize divF x y = r at *
  have ka := fun w => run_convert_float_float (P := Tryz.prog) w 23 74 .f32 .f64 x X (by kernel_rfl) Tryz.underlying74 a
  have kb := fun w => run_convert_float_float (P := Tryz.prog) w 23 74 .f32 .f64 y Y (by kernel_rfl) Tryz.underlying74 b
  have kc := fun w => run_float_arith (P := Tryz.prog) w .quo 74 .f64 X Y Z c
  have kd := fun w => run_convert_float_float (P := Tryz.prog) w 74 23 .f64 .f32 Z r (by kernel_rfl) Tryz.underlying23 d
  clear a b c d
  go_enter Tryz.func88, Tryz.ntmps88
  go_wp2
  go_ret
  exact ⟨rfl, rfl⟩
theorem cellof_any (x c : Int) (w : World) (hx : -8388608 ≤ x) (hx2 : x ≤ 8388608) (h1 : 1 ≤ c) (h2 : c ≤ 4096) :
    Calls Tryz.prog 81 #[.int .i64 x, .int .i64 c] w fun e w' => e = .returned (.tuple #[.int .i64 (x / c), .float .f32 (latS (x % c) c)]) ∧ Below w.heap.size w w' := by
  have KX := Lib.hid (fun w => quo_any x c w (by omega) (by omega) (by omega) (by omega))
  obtain ⟨sh, f1, f2, f3⟩ := lat_share (m := x % c) (c := c) (Int.emod_nonneg _ (by omega)) (Int.emod_lt_of_pos _ (by omega)) h2
  have K1 := Lib.hid (fun w => ref_conv_ok (x % c) w)
  have K2 := Lib.hid (fun w => ref_conv_ok c w)
  have K3 := Lib.hid (fun w => ref_dv_ok (floatOfInt .f32 (x % c)) (floatOfInt .f32 c) w f1 f2 f3 sh.1)
  change Hid (∀ w, Calls Tryz.prog 88 #[.float .f32 (floatOfInt .f32 (x % c)), .float .f32 (floatOfInt .f32 c)] w fun e w' => e = .returned (.float .f32 (latS (x % c) c)) ∧ w = w') at K3
  clear sh f1 f2 f3
  generalize latS (x % c) c = s at *
  generalize floatOfInt .f32 (x % c) = zm at *
  generalize floatOfInt .f32 c = zc at *
  generalize x / c = i at *
  generalize x % c = m at *
  go_enter Tryz.func81, Tryz.ntmps81
  go_wp2_with fail
  refine (KX.out _).mono ?_
  rintro e w1 ⟨rfl, b1⟩
  have HB1 := Lib.hid b1
  clear b1
  go_wp2_with fail
  refine (K1.out _).mono ?_
  rintro e w2 ⟨rfl, rfl⟩
  go_wp2_with fail
  refine (K2.out _).mono ?_
  rintro e w2 ⟨rfl, rfl⟩
  go_wp2_with fail
  refine (K3.out _).mono ?_
  rintro e w2 ⟨rfl, rfl⟩
  go_wp2_with fail
  go_ret2
  exact ⟨rfl, HB1.out⟩

set_option maxRecDepth 100000 in
set_option maxHeartbeats 2000000 in
theorem reflattice_any (gn : Nat) (caps : Array Value) (ψ : Int → Int → Nat → Nat → Nat) (x y c : Int) (w : World) (hx : -8388608 ≤ x) (hx2 : x ≤ 8388608) (hy : -8388608 ≤ y) (hy2 : y ≤ 8388608) (h1 : 1 ≤ c) (h2 : c ≤ 4096)
    (eg : ∀ args w, (callFunc gn args).run Tryz.prog w = .ok (.enter gn args) w)
    (hf : ∀ k l dx dy, Dx dx → Dx dy → ∀ W', Below w.heap.size w W' → Calls Tryz.prog gn (#[.int .i64 k, .int .i64 l, .float .f32 dx, .float .f32 dy] ++ caps) W' fun e w' => e = .returned (.float .f32 (ψ k l dx dy)) ∧ Below W'.heap.size W' w')
    (hψ : ∀ k l dx dy, Dx dx → Dx dy → Bd 1 (ψ k l dx dy)) :
    Calls Tryz.prog 76 #[.int .i64 x, .int .i64 y, .int .i64 c, .func (.func gn) #[] caps] w fun e w' => e = .returned (.float .f32 (latF ψ x y c)) ∧ Below w.heap.size w w' := by
  have KX := Lib.hid (fun w => cellof_any x c w hx hx2 h1 h2)
  have KY := Lib.hid (fun w => cellof_any y c w hy hy2 h1 h2)
  have bx := ediv_small x c 8388608 (by omega) (by omega) (by omega) (by omega)
  have by' := ediv_small y c 8388608 (by omega) (by omega) (by omega) (by omega)
  obtain ⟨sh, f1, f2, f3⟩ := lat_share (m := x % c) (c := c) (Int.emod_nonneg _ (by omega)) (Int.emod_lt_of_pos _ (by omega)) h2
  obtain ⟨th, f4, _, _⟩ := lat_share (m := y % c) (c := c) (Int.emod_nonneg _ (by omega)) (Int.emod_lt_of_pos _ (by omega)) h2
  have k3 := Lib.hid (fun w => ref_sub_ok (latS (x % c) c) 1065353216 w sh.1 const_1.1 (sub_one sh).1)
  have k4 := Lib.hid (fun w => ref_sub_ok (latS (y % c) c) 1065353216 w th.1 const_1.1 (sub_one th).1)
  have dS := Share.dx sh (divF_lt _ _)
  have dT := Share.dx th (divF_lt _ _)
  have dS1 := Share.dx1 sh
  have dT1 := Share.dx1 th
  have KU := Lib.hid (fun w => refease_any (latS (x % c) c) sh w)
  have KV := Lib.hid (fun w => refease_any (latS (y % c) c) th w)
  have HC1 := Lib.hid (hf (x / c) (y / c) _ _ dS dT)
  have HC2 := Lib.hid (hf (x / c + 1) (y / c) _ _ dS1 dT)
  have HC3 := Lib.hid (hf (x / c) (y / c + 1) _ _ dS dT1)
  have HC4 := Lib.hid (hf (x / c + 1) (y / c + 1) _ _ dS1 dT1)
  have m1 := Ieee.Format.mix_bd (hψ (x / c) (y / c) _ _ dS dT) (hψ (x / c + 1) (y / c) _ _ dS1 dT) (Share.bd sh) (by decide)
  have m2 := Ieee.Format.mix_bd (hψ (x / c) (y / c + 1) _ _ dS dT1) (hψ (x / c + 1) (y / c + 1) _ _ dS1 dT1) (Share.bd sh) (by decide)
  have KM1 := Lib.hid (fun w => lerp_any 1 _ _ _ w (hψ (x / c) (y / c) _ _ dS dT) (hψ (x / c + 1) (y / c) _ _ dS1 dT) (Share.bd sh) (by decide))
  have KM2 := Lib.hid (fun w => lerp_any 1 _ _ _ w (hψ (x / c) (y / c + 1) _ _ dS dT1) (hψ (x / c + 1) (y / c + 1) _ _ dS1 dT1) (Share.bd sh) (by decide))
  have KM3 := Lib.hid (fun w => lerp_any 3 _ _ _ w m1.2.2 m2.2.2 (Share.bd th) (by decide))
  unfold latF
  clear hf hψ sh th f1 f2 f3 f4 dS dT dS1 dT1 m1 m2
  generalize ψ (x / c) (y / c) (latS (x % c) c) (latS (y % c) c) = p1 at *
  generalize ψ (x / c + 1) (y / c) (subF (latS (x % c) c) 1065353216) (latS (y % c) c) = p2 at *
  generalize ψ (x / c) (y / c + 1) (latS (x % c) c) (subF (latS (y % c) c) 1065353216) = p3 at *
  generalize ψ (x / c + 1) (y / c + 1) (subF (latS (x % c) c) 1065353216) (subF (latS (y % c) c) 1065353216) = p4 at *
  generalize subF (latS (x % c) c) 1065353216 = s1 at *
  generalize subF (latS (y % c) c) 1065353216 = t1 at *
  generalize easeF (latS (x % c) c) = u at *
  generalize easeF (latS (y % c) c) = v at *
  generalize latS (x % c) c = s at *
  generalize latS (y % c) c = t at *
  generalize mixF (mixF p1 p2 u) (mixF p3 p4 u) v = r at *
  generalize mixF p1 p2 u = q1 at *
  generalize mixF p3 p4 u = q2 at *
  generalize x / c = i at *
  generalize y / c = j at *
  generalize x % c = m at *
  generalize y % c = n at *
  go_enter Tryz.func76, Tryz.ntmps76
  go_wp2_with fail
  refine (KX.out _).mono ?_
  rintro e w1 ⟨rfl, b1⟩
  have HB1 := Lib.hid b1
  clear b1
  go_wp2_with fail
  refine (KY.out _).mono ?_
  rintro e w2 ⟨rfl, b2⟩
  have HB2 := Lib.hid (HB1.out.trans (b2.mono HB1.out.size))
  clear b2
  go_wp2_with fail
  refine (KU.out _).mono ?_
  rintro e w3 ⟨rfl, rfl⟩
  go_wp2_with fail
  refine (KV.out _).mono ?_
  rintro e w3 ⟨rfl, rfl⟩
  go_wp2_with fail
  refine (HC1.out _ HB2.out).mono ?_
  rintro e w4 ⟨rfl, b4⟩
  have HB4 := Lib.hid (HB2.out.trans (b4.mono HB2.out.size))
  clear b4
  go_wp2_with fail
  refine (k3.out _).mono ?_
  rintro e w5 ⟨rfl, rfl⟩
  go_wp2_with fail
  refine (HC2.out _ HB4.out).mono ?_
  rintro e w5 ⟨rfl, b5⟩
  have HB5 := Lib.hid (HB4.out.trans (b5.mono HB4.out.size))
  clear b5
  go_wp2_with fail
  refine (k4.out _).mono ?_
  rintro e w6 ⟨rfl, rfl⟩
  go_wp2_with fail
  refine (HC3.out _ HB5.out).mono ?_
  rintro e w7 ⟨rfl, b7⟩
  have HB7 := Lib.hid (HB5.out.trans (b7.mono HB5.out.size))
  clear b7
  go_wp2_with fail
  refine (k3.out _).mono ?_
  rintro e w8 ⟨rfl, rfl⟩
  go_wp2_with fail
  refine (k4.out _).mono ?_
  rintro e w8 ⟨rfl, rfl⟩
  go_wp2_with fail
  refine (HC4.out _ HB7.out).mono ?_
  rintro e w8 ⟨rfl, b8⟩
  have HB8 := Lib.hid (HB7.out.trans (b8.mono HB7.out.size))
  clear b8
  go_wp2_with fail
  refine (KM1.out _).mono ?_
  rintro e w9 ⟨rfl, rfl⟩
  go_wp2_with fail
  refine (KM2.out _).mono ?_
  rintro e w9 ⟨rfl, rfl⟩
  go_wp2_with fail
  refine (KM3.out _).mono ?_
  rintro e w9 ⟨rfl, rfl⟩
  go_wp2_with fail
  go_ret
  exact ⟨rfl, HB8.out⟩
end Go.Proofs.YtkmcinibaffpmaaGreat

namespace Go.Proofs.YtkmcinibaffpmaaGreat
open Go.ChangeShapes Go.WideShapes Go.ChangeAt Go.RowKit
open Ieee.Format (fin finE htE allFin allHt all_true all_false mulF subF addF Ht Bd divF rootF floorF easeF mixF)
set_option linter.unusedVariables false

/-! ### noise of values -/
def cvF (seed : Int) (k l : Int) (_ _ : Nat) : Nat := Ieee.Format.signedF (hashTo seed k l 0 3)
theorem cvF_wi (seed k l : Int) (dx dy : Nat) : Ieee.Format.Wi 1 (cvF seed k l dx dy) := by
  obtain ⟨h0, h1⟩ := hash_bounds seed k l 0
  obtain ⟨_, f, _⟩ := Ieee.Format.signed_ok _ h0 h1
  obtain ⟨_, _, a, b⟩ := Ieee.Format.unit_bounds _ h0 h1
  exact ⟨f, a, Rat.le_of_lt b⟩
theorem cvF_bd (seed k l : Int) (dx dy : Nat) : Bd 1 (cvF seed k l dx dy) := by
  obtain ⟨f, a, b⟩ := cvF_wi seed k l dx dy
  have e : Ieee.P2 ((1 : Nat) : Int) = 2 := Ieee.Format.P2_one
  exact ⟨f, by rw [e]; grind, by rw [e]; grind⟩
theorem valuefn_any (seed k l : Int) (dx dy : Nat) (p : Nat) (w : World) (hp : Blk w p #[.int .u32 seed] 22) :
    Calls Tryz.prog 95 #[.int .i64 k, .int .i64 l, .float .f32 dx, .float .f32 dy, .pointer (some ⟨p, 0, none⟩)] w fun e w' => e = .returned (.float .f32 (cvF seed k l dx dy)) ∧ Below w.heap.size w w' := by
  obtain ⟨h0, h1⟩ := hash_bounds seed k l 0
  have KH := Lib.hid (fun w => hash1 seed k l 0 w)
  have KS := Lib.hid (fun w => signed_any (hashTo seed k l 0 3) w h0 h1)
  have c0 : w.cell? ⟨p, 0, none⟩ = some (.int .u32 seed) := hp.cell 0
  have l0 := hp.lt
  unfold cvF
  clear hp h0 h1
  generalize Ieee.Format.signedF (hashTo seed k l 0 3) = v at *
  generalize hashTo seed k l 0 3 = h at *
  go_enter Tryz.func95, Tryz.ntmps95
  go_wp2_with fail
  refine (KH.out _).mono ?_
  rintro e w1 ⟨rfl, rfl⟩
  go_wp2_with fail
  refine (KS.out _).mono ?_
  rintro e w1 ⟨rfl, rfl⟩
  go_wp2_with fail
  go_ret
  exact ⟨rfl, (by repeat (first | with_reducible exact Below.refl _ _ | with_reducible apply Below.drew | with_reducible refine below_drewN ?_ _ | (with_reducible refine Below.setCell ?_ ?_ _; rotate_left; focus (first | omega | (simp <;> omega))) | (with_reducible refine Below.alloc ?_ ?_ _; rotate_left; focus (first | omega | (simp <;> omega)))))⟩
theorem refvaluefn_any (seed k l : Int) (dx dy : Nat) (p : Nat) (w : World) (hp : Blk w p #[.int .u32 seed] 22) :
    Calls Tryz.prog 77 #[.int .i64 k, .int .i64 l, .float .f32 dx, .float .f32 dy, .pointer (some ⟨p, 0, none⟩)] w fun e w' => e = .returned (.float .f32 (cvF seed k l dx dy)) ∧ Below w.heap.size w w' := by
  obtain ⟨h0, h1⟩ := hash_bounds seed k l 0
  have KH := Lib.hid (fun w => hash2_bel seed k l 0 w)
  have KS := Lib.hid (fun w => refsigned_any (hashTo seed k l 0 3) w h0 h1)
  have c0 : w.cell? ⟨p, 0, none⟩ = some (.int .u32 seed) := hp.cell 0
  have l0 := hp.lt
  unfold cvF
  clear hp h0 h1
  generalize Ieee.Format.signedF (hashTo seed k l 0 3) = v at *
  generalize hashTo seed k l 0 3 = h at *
  go_enter Tryz.func77, Tryz.ntmps77
  go_wp2_with fail
  refine (KH.out _).mono ?_
  rintro e w1 ⟨rfl, b1⟩
  have HB1 := Lib.hid b1
  clear b1
  go_wp2_with fail
  refine (KS.out _).mono ?_
  rintro e w2 ⟨rfl, rfl⟩
  go_wp2_with fail
  go_ret
  exact ⟨rfl, HB1.out⟩
/-- the noise of values at a place -/
def valF (seed x y c : Int) : Nat := latF (cvF seed) x y c
theorem nvalue_any (seed x y c : Int) (w : World) (hx : -8388608 ≤ x) (hx2 : x ≤ 8388608) (hy : -8388608 ≤ y) (hy2 : y ≤ 8388608) (h1 : 1 ≤ c) (h2 : c ≤ 4096) :
    Calls Tryz.prog 72 #[.int .u32 seed, .int .i64 x, .int .i64 y, .int .i64 c] w fun e w' => e = .returned (.float .f32 (valF seed x y c)) ∧ Below w.heap.size w w' := by
  have KC := Lib.hid (fun p w (hp : Blk w p #[.int .u32 seed] 22) => corners_any 95 #[.pointer (some ⟨p, 0, none⟩)] (cvF seed) x y c w hx hx2 hy hy2 h1 h2 (enters_of Tryz.func95 (by kernel_rfl) rfl)
    (fun k l dx dy _ _ W' hb => valuefn_any seed k l dx dy p W' (hp.below hb hp.lt)) (fun k l dx dy _ _ => cvF_bd seed k l dx dy))
  unfold valF
  generalize latF (cvF seed) x y c = r at *
  have P0 := Blk.new w #[.int .u32 seed] 22
  have B0 : Below w.heap.size w (w.alloc (.cells #[.int .u32 seed] 22)) := (by repeat (first | with_reducible exact Below.refl _ _ | with_reducible apply Below.drew | with_reducible refine below_drewN ?_ _ | (with_reducible refine Below.setCell ?_ ?_ _; rotate_left; focus (first | omega | (simp <;> omega))) | (with_reducible refine Below.alloc ?_ ?_ _; rotate_left; focus (first | omega | (simp <;> omega)))))
  go_enter Tryz.func72, Tryz.ntmps72
  go_wp2_with fail
  refine (KC.out _ _ P0).mono ?_
  rintro e w1 ⟨rfl, b1⟩
  have HB := Lib.hid (B0.trans (b1.mono B0.size))
  clear b1 B0 P0
  go_wp2_with fail
  go_ret
  exact ⟨rfl, HB.out⟩
theorem refvalue_any (seed x y c : Int) (w : World) (hx : -8388608 ≤ x) (hx2 : x ≤ 8388608) (hy : -8388608 ≤ y) (hy2 : y ≤ 8388608) (h1 : 1 ≤ c) (h2 : c ≤ 4096) :
    Calls Tryz.prog 63 #[.int .u32 seed, .int .i64 x, .int .i64 y, .int .i64 c] w fun e w' => e = .returned (.float .f32 (valF seed x y c)) ∧ Below w.heap.size w w' := by
  have KC := Lib.hid (fun p w (hp : Blk w p #[.int .u32 seed] 22) => reflattice_any 77 #[.pointer (some ⟨p, 0, none⟩)] (cvF seed) x y c w hx hx2 hy hy2 h1 h2 (enters_of Tryz.func77 (by kernel_rfl) rfl)
    (fun k l dx dy _ _ W' hb => refvaluefn_any seed k l dx dy p W' (hp.below hb hp.lt)) (fun k l dx dy _ _ => cvF_bd seed k l dx dy))
  unfold valF
  generalize latF (cvF seed) x y c = r at *
  have P0 := Blk.new w #[.int .u32 seed] 22
  have B0 : Below w.heap.size w (w.alloc (.cells #[.int .u32 seed] 22)) := (by repeat (first | with_reducible exact Below.refl _ _ | with_reducible apply Below.drew | with_reducible refine below_drewN ?_ _ | (with_reducible refine Below.setCell ?_ ?_ _; rotate_left; focus (first | omega | (simp <;> omega))) | (with_reducible refine Below.alloc ?_ ?_ _; rotate_left; focus (first | omega | (simp <;> omega)))))
  go_enter Tryz.func63, Tryz.ntmps63
  go_wp2_with fail
  refine (KC.out _ _ P0).mono ?_
  rintro e w1 ⟨rfl, b1⟩
  have HB := Lib.hid (B0.trans (b1.mono B0.size))
  clear b1 B0 P0
  go_wp2_with fail
  go_ret
  exact ⟨rfl, HB.out⟩
end Go.Proofs.YtkmcinibaffpmaaGreat

namespace Go.Proofs.YtkmcinibaffpmaaGreat
open Go.ChangeShapes Go.WideShapes Go.ChangeAt Go.RowKit
open Ieee.Format (fin finE htE allFin allHt all_true all_false mulF subF addF Ht Bd divF rootF floorF easeF mixF)
set_option linter.unusedVariables false
open Ieee.Format (Wi const_0 const_1 const_n1 mulF_spec addF_spec bits_mul bits_add mulF_lt addF_lt conv_exact)

/-! ### noise of directions -/
def gX (k : Nat) : Int := [1, 1, 0, -1, -1, -1, 0, 1].getD k 0
def gY (k : Nat) : Int := [0, 1, 1, 1, 0, -1, -1, -1].getD k 0
theorem gX_le (k : Nat) : -1 ≤ gX k ∧ gX k ≤ 1 := by
  match k with
  | 0 | 1 | 2 | 3 | 4 | 5 | 6 | 7 => decide
  | k + 8 => simp [gX]
theorem gY_le (k : Nat) : -1 ≤ gY k ∧ gY k ≤ 1 := by
  match k with
  | 0 | 1 | 2 | 3 | 4 | 5 | 6 | 7 => decide
  | k + 8 => simp [gY]
/-- the share of a direction -/
def dotF (k : Nat) (dx dy : Nat) : Nat := addF (mulF (floatOfInt .f32 (gX k)) dx) (mulF (floatOfInt .f32 (gY k)) dy)
def cgF (seed : Int) (k l : Int) (dx dy : Nat) : Nat := dotF (hashTo seed k l 1 3 % 8).toNat dx dy
theorem unit_mul {z : Int} {d : Nat} (h1 : -1 ≤ z) (h2 : z ≤ 1) (hd : Dx d) : fin Ieee.single (floatOfInt .f32 z) ∧ Wi 1 (mulF (floatOfInt .f32 z) d) := by
  obtain ⟨fd, d1, d2, _⟩ := hd
  obtain ⟨fz, vz, _⟩ := conv_exact z (by omega) (by omega)
  have hb : (z : Rat) * Ieee.single.V d ≤ 1 ∧ -1 ≤ (z : Rat) * Ieee.single.V d := by
    rcases (by omega : z = -1 ∨ z = 0 ∨ z = 1) with rfl | rfl | rfl <;> simp <;> grind
  have := (mulF_spec fz fd).2.bound const_1.1 const_1.2.2 (by rw [const_1.2.1, vz]; exact hb.1) (by rw [const_1.2.1, vz]; exact hb.2)
  rw [const_1.2.1] at this
  exact ⟨fz, this.1, this.2.2.1, this.2.1⟩
theorem dot_wi (k : Nat) {dx dy : Nat} (hx : Dx dx) (hy : Dx dy) : Wi 2 (dotF k dx dy) := by
  obtain ⟨_, fa, a1, a2⟩ := unit_mul (gX_le k).1 (gX_le k).2 hx
  obtain ⟨_, fb, b1, b2⟩ := unit_mul (gY_le k).1 (gY_le k).2 hy
  have := (addF_spec fa fb).2.bound Ieee.Format.const_2.1 Ieee.Format.const_2.2.2 (by rw [Ieee.Format.const_2.2.1]; grind) (by rw [Ieee.Format.const_2.2.1]; grind)
  rw [Ieee.Format.const_2.2.1] at this
  exact ⟨this.1, this.2.2.1, this.2.1⟩
theorem Bd.of_wi {x : Nat} (h : Wi 2 x) : Bd 1 x := by
  obtain ⟨f, a, b⟩ := h
  have e : Ieee.P2 ((1 : Nat) : Int) = 2 := Ieee.Format.P2_one
  exact ⟨f, by rw [e]; grind, by rw [e]; grind⟩
/-- the eight directions in memory -/
def dirs : Array Value := #[.float .f32 1065353216, .float .f32 0, .float .f32 1065353216, .float .f32 1065353216, .float .f32 0, .float .f32 1065353216, .float .f32 3212836864, .float .f32 1065353216, .float .f32 3212836864, .float .f32 0, .float .f32 3212836864, .float .f32 3212836864, .float .f32 0, .float .f32 3212836864, .float .f32 1065353216, .float .f32 3212836864]
theorem dirs_x (k : Nat) (h : k < 8) : dirs[2 * k]? = some (.float .f32 (floatOfInt .f32 (gX k))) := by
  match k, h with
  | 0, _ | 1, _ | 2, _ | 3, _ | 4, _ | 5, _ | 6, _ | 7, _ => rfl
theorem dirs_y (k : Nat) (h : k < 8) : dirs[2 * k + 1]? = some (.float .f32 (floatOfInt .f32 (gY k))) := by
  match k, h with
  | 0, _ | 1, _ | 2, _ | 3, _ | 4, _ | 5, _ | 6, _ | 7, _ => rfl
theorem dir_at (p k : Nat) (h : k < 8) (w : World) : (Instr.indexAt 110 (.pointer (some ⟨p, 0, none⟩)) (.int .u32 (k : Int))).run Tryz.prog w = .ok (.pointer (some ⟨p, 2 * k, none⟩)) w := by
  rcases (by omega : k = 0 ∨ k = 1 ∨ k = 2 ∨ k = 3 ∨ k = 4 ∨ k = 5 ∨ k = 6 ∨ k = 7) with rfl | rfl | rfl | rfl | rfl | rfl | rfl | rfl <;> kernel_rfl
def dirInts : Value := .agg #[.int .i64 1, .int .i64 0, .int .i64 1, .int .i64 1, .int .i64 0, .int .i64 1, .int .i64 (-1), .int .i64 1, .int .i64 (-1), .int .i64 0, .int .i64 (-1), .int .i64 (-1), .int .i64 0, .int .i64 (-1), .int .i64 1, .int .i64 (-1)]
theorem dir_of (k : Nat) (h : k < 8) (w : World) : (Instr.index 94 dirInts (.int .u32 (k : Int))).run Tryz.prog w = .ok (.agg #[.int .i64 (gX k), .int .i64 (gY k)]) w := by
  rcases (by omega : k = 0 ∨ k = 1 ∨ k = 2 ∨ k = 3 ∨ k = 4 ∨ k = 5 ∨ k = 6 ∨ k = 7) with rfl | rfl | rfl | rfl | rfl | rfl | rfl | rfl <;> kernel_rfl
theorem gradfn_any (seed k l : Int) (dx dy : Nat) (hx : Dx dx) (hy : Dx dy) (p q : Nat) (w : World) (hp : Blk w p #[.int .u32 seed] 22) (hq : Blk w q dirs 110) :
    Calls Tryz.prog 97 #[.int .i64 k, .int .i64 l, .float .f32 dx, .float .f32 dy, .pointer (some ⟨q, 0, none⟩), .pointer (some ⟨p, 0, none⟩)] w fun e w' => e = .returned (.float .f32 (cgF seed k l dx dy)) ∧ Below w.heap.size w w' := by
  obtain ⟨h0, h1⟩ := hash_bounds seed k l 1
  have KH := Lib.hid (fun w => hash1 seed k l 1 w)
  have c0 : w.cell? ⟨p, 0, none⟩ = some (.int .u32 seed) := hp.cell 0
  have l0 := hp.lt
  have l1 := hq.lt
  unfold cgF dotF
  obtain ⟨n, hn⟩ : ∃ n : Nat, (hashTo seed k l 1 3 % 8) = (n : Int) := ⟨(hashTo seed k l 1 3 % 8).toNat, by omega⟩
  have hn8 : n < 8 := by omega
  rw [hn, Int.toNat_natCast]
  have cx : w.cell? ⟨q, 2 * n, none⟩ = some (.float .f32 (floatOfInt .f32 (gX n))) := (hq.cell _).trans (dirs_x n hn8)
  have cy : w.cell? ⟨q, 2 * n + 1, none⟩ = some (.float .f32 (floatOfInt .f32 (gY n))) := (hq.cell _).trans (dirs_y n hn8)
  obtain ⟨f1, f2, _⟩ := unit_mul (gX_le n).1 (gX_le n).2 hx
  obtain ⟨f3, f4, _⟩ := unit_mul (gY_le n).1 (gY_le n).2 hy
  have k1 := fun w' => run_float_arith (P := Tryz.prog) w' .mul 23 .f32 (floatOfInt .f32 (gX n)) dx (mulF (floatOfInt .f32 (gX n)) dx) (bits_mul f1 hx.1)
  have k2 := fun w' => run_float_arith (P := Tryz.prog) w' .mul 23 .f32 (floatOfInt .f32 (gY n)) dy (mulF (floatOfInt .f32 (gY n)) dy) (bits_mul f3 hy.1)
  have k3 := fun w' => run_float_arith (P := Tryz.prog) w' .add 23 .f32 _ _ _ (bits_add f2 f4)
  have kd := dir_at q n hn8
  clear hp hq f1 f2 f3 f4 hx hy
  generalize addF (mulF (floatOfInt .f32 (gX n)) dx) (mulF (floatOfInt .f32 (gY n)) dy) = r at *
  generalize mulF (floatOfInt .f32 (gX n)) dx = r1 at *
  generalize mulF (floatOfInt .f32 (gY n)) dy = r2 at *
  generalize floatOfInt .f32 (gX n) = g1 at *
  generalize floatOfInt .f32 (gY n) = g2 at *
  generalize hashTo seed k l 1 3 = h at *
  go_enter Tryz.func97, Tryz.ntmps97
  go_wp2_with fail
  refine (KH.out _).mono ?_
  rintro e w1 ⟨rfl, rfl⟩
  have hm : (h % 8 : Int) = (n : Int) := hn
  go_wp2_with fail
  go_ret
  exact ⟨rfl, (by repeat (first | with_reducible exact Below.refl _ _ | with_reducible apply Below.drew | with_reducible refine below_drewN ?_ _ | (with_reducible refine Below.setCell ?_ ?_ _; rotate_left; focus (first | omega | (simp <;> omega))) | (with_reducible refine Below.alloc ?_ ?_ _; rotate_left; focus (first | omega | (simp <;> omega)))))⟩
/-- the directions' noise at a place -/
def gradF (seed x y c : Int) : Nat := latF (cgF seed) x y c
theorem cgF_bd (seed k l : Int) (dx dy : Nat) (hx : Dx dx) (hy : Dx dy) : Bd 1 (cgF seed k l dx dy) := Bd.of_wi (dot_wi _ hx hy)
theorem grad_new (w : World) (seed : Int) : ∀ W0, W0 = (w.alloc (.cells #[.int .u32 seed] 22)).alloc (.cells dirs 110) →
    Blk W0 w.heap.size #[.int .u32 seed] 22 ∧ Blk W0 (w.heap.size + 1) dirs 110 ∧ Below w.heap.size w W0 := by
  rintro _ rfl
  generalize dirs = d
  refine ⟨(Blk.new w #[.int .u32 seed] 22).alloc _, ?_, (by repeat (first | with_reducible exact Below.refl _ _ | with_reducible apply Below.drew | with_reducible refine below_drewN ?_ _ | (with_reducible refine Below.setCell ?_ ?_ _; rotate_left; focus (first | omega | (simp <;> omega))) | (with_reducible refine Below.alloc ?_ ?_ _; rotate_left; focus (first | omega | (simp <;> omega)))))⟩
  have := Blk.new (w.alloc (.cells #[.int .u32 seed] 22)) d 110
  simpa using this
set_option maxRecDepth 100000 in
set_option maxHeartbeats 1000000 in
theorem gradient_any (seed x y c : Int) (w : World) (hx : -8388608 ≤ x) (hx2 : x ≤ 8388608) (hy : -8388608 ≤ y) (hy2 : y ≤ 8388608) (h1 : 1 ≤ c) (h2 : c ≤ 4096) :
    Calls Tryz.prog 73 #[.int .u32 seed, .int .i64 x, .int .i64 y, .int .i64 c] w fun e w' => e = .returned (.float .f32 (gradF seed x y c)) ∧ Below w.heap.size w w' := by
  have KC := Lib.hid (fun p q w (hp : Blk w p #[.int .u32 seed] 22) (hq : Blk w q dirs 110) => corners_any 97 #[.pointer (some ⟨q, 0, none⟩), .pointer (some ⟨p, 0, none⟩)] (cgF seed) x y c w hx hx2 hy hy2 h1 h2 (enters_of Tryz.func97 (by kernel_rfl) rfl)
    (fun k l dx dy ex ey W' hb => (by have h := gradfn_any seed k l dx dy ex ey p q W' (hp.below hb hp.lt) (hq.below hb hq.lt); exact h)) (fun k l dx dy ex ey => cgF_bd seed k l dx dy ex ey))
  unfold gradF
  generalize latF (cgF seed) x y c = r at *
  obtain ⟨W0, hW0⟩ : ∃ W0, W0 = (w.alloc (.cells #[.int .u32 seed] 22)).alloc (.cells dirs 110) := ⟨_, rfl⟩
  obtain ⟨P0, Q0, B0⟩ := grad_new w seed W0 hW0
  unfold dirs at hW0
  have HW0 := Lib.hid hW0
  have HC := Lib.hid (KC.out _ _ _ P0 Q0)
  have HB0 := Lib.hid B0
  clear KC P0 Q0 B0 hW0
  go_enter Tryz.func73, Tryz.ntmps73
  go_wp2_with fail
  rw [← HW0.out]
  refine HC.out.mono ?_
  rintro e w1 ⟨rfl, b1⟩
  have HB := Lib.hid (HB0.out.trans (b1.mono HB0.out.size))
  clear b1
  go_wp2_with fail
  go_ret
  exact ⟨rfl, HB.out⟩

set_option maxRecDepth 100000 in
theorem refgradfn_any (seed k l : Int) (dx dy : Nat) (hx : Dx dx) (hy : Dx dy) (p : Nat) (w : World) (hp : Blk w p #[.int .u32 seed] 22) :
    Calls Tryz.prog 79 #[.int .i64 k, .int .i64 l, .float .f32 dx, .float .f32 dy, .pointer (some ⟨p, 0, none⟩)] w fun e w' => e = .returned (.float .f32 (cgF seed k l dx dy)) ∧ Below w.heap.size w w' := by
  obtain ⟨h0, h1⟩ := hash_bounds seed k l 1
  have KH := Lib.hid (fun w => hash2_bel seed k l 1 w)
  have c0 : w.cell? ⟨p, 0, none⟩ = some (.int .u32 seed) := hp.cell 0
  have l0 := hp.lt
  unfold cgF dotF
  obtain ⟨n, hn⟩ : ∃ n : Nat, (hashTo seed k l 1 3 % 8) = (n : Int) := ⟨(hashTo seed k l 1 3 % 8).toNat, by omega⟩
  have hn8 : n < 8 := by omega
  rw [hn, Int.toNat_natCast]
  obtain ⟨f1, f2, f2'⟩ := unit_mul (gX_le n).1 (gX_le n).2 hx
  obtain ⟨f3, f4, f4'⟩ := unit_mul (gY_le n).1 (gY_le n).2 hy
  have f5 := (dot_wi n hx hy).1
  change fin Ieee.single (addF (mulF (floatOfInt .f32 (gX n)) dx) (mulF (floatOfInt .f32 (gY n)) dy)) at f5
  have K1 := Lib.hid (fun w => ref_conv_ok (gX n) w)
  have K2 := Lib.hid (fun w => ref_conv_ok (gY n) w)
  have K3 := Lib.hid (fun w => ref_mul_ok (floatOfInt .f32 (gX n)) dx w f1 hx.1 f2)
  have K4 := Lib.hid (fun w => ref_mul_ok (floatOfInt .f32 (gY n)) dy w f3 hy.1 f4)
  have K5 := Lib.hid (fun w => ref_add_ok _ _ w f2 f4 f5)
  have kd := dir_of n hn8
  unfold dirInts at kd
  clear hp f1 f2 f3 f4 f2' f4' f5 hx hy
  generalize addF (mulF (floatOfInt .f32 (gX n)) dx) (mulF (floatOfInt .f32 (gY n)) dy) = r at *
  generalize mulF (floatOfInt .f32 (gX n)) dx = r1 at *
  generalize mulF (floatOfInt .f32 (gY n)) dy = r2 at *
  generalize floatOfInt .f32 (gX n) = g1 at *
  generalize floatOfInt .f32 (gY n) = g2 at *
  generalize gX n = i1 at *
  generalize gY n = i2 at *
  generalize hashTo seed k l 1 3 = h at *
  go_enter Tryz.func79, Tryz.ntmps79
  go_wp2_with fail
  refine (KH.out _).mono ?_
  rintro e w1 ⟨rfl, b1⟩
  have hm : (h % 8 : Int) = (n : Int) := hn
  have HB1 := Lib.hid b1
  clear b1
  go_wp2_with fail
  generalize hW1 : w1.alloc (.cells #[.int .i64 i1, .int .i64 i2] 93) = W1 at *
  have HK1 : Hid (Blk W1 w1.heap.size #[.int .i64 i1, .int .i64 i2] 93) := by subst hW1; exact Blk.new _ _ _
  have HB2 : Hid (Below w.heap.size w W1) := Lib.hid (by subst hW1; have h := HB1.out; exact (by have hszz := h.size; repeat (first | with_reducible exact h | with_reducible apply Below.drew | with_reducible refine below_drewN ?_ _ | (with_reducible refine Below.setCell ?_ ?_ _; rotate_left; focus (first | omega | (simp <;> omega))) | (with_reducible refine Below.alloc ?_ ?_ _; rotate_left; focus (first | omega | (simp <;> omega))))))
  clear hW1
  have t0 : W1.cell? ⟨w1.heap.size, 0, none⟩ = some (.int .i64 i1) := HK1.out.cell 0
  have t1 : W1.cell? ⟨w1.heap.size, 1, none⟩ = some (.int .i64 i2) := HK1.out.cell 1
  have l1 : w1.heap.size < W1.heap.size := HK1.out.lt
  go_quiet ((first
    | (go_at_call 80; first | with_reducible exact Calls.quiet_of_same ((K1.out _).mono fun _ _ h => ⟨h.1, h.2.symm⟩) | with_reducible exact Calls.quiet_of_same ((K2.out _).mono fun _ _ h => ⟨h.1, h.2.symm⟩))
    | (go_at_call 32; first | with_reducible exact Calls.quiet_of_same ((K3.out _).mono fun _ _ h => ⟨h.1, h.2.symm⟩) | with_reducible exact Calls.quiet_of_same ((K4.out _).mono fun _ _ h => ⟨h.1, h.2.symm⟩))
    | (go_at_call 47; with_reducible exact Calls.quiet_of_same ((K5.out _).mono fun _ _ h => ⟨h.1, h.2.symm⟩))))
  go_wp2_with fail
  go_ret
  exact ⟨rfl, (by have h := HB2.out; exact (by have hszz := h.size; repeat (first | with_reducible exact h | with_reducible apply Below.drew | with_reducible refine below_drewN ?_ _ | (with_reducible refine Below.setCell ?_ ?_ _; rotate_left; focus (first | omega | (simp <;> omega))) | (with_reducible refine Below.alloc ?_ ?_ _; rotate_left; focus (first | omega | (simp <;> omega))))))⟩
theorem refgradient_any (seed x y c : Int) (w : World) (hx : -8388608 ≤ x) (hx2 : x ≤ 8388608) (hy : -8388608 ≤ y) (hy2 : y ≤ 8388608) (h1 : 1 ≤ c) (h2 : c ≤ 4096) :
    Calls Tryz.prog 64 #[.int .u32 seed, .int .i64 x, .int .i64 y, .int .i64 c] w fun e w' => e = .returned (.float .f32 (gradF seed x y c)) ∧ Below w.heap.size w w' := by
  have KC := Lib.hid (fun p w (hp : Blk w p #[.int .u32 seed] 22) => reflattice_any 79 #[.pointer (some ⟨p, 0, none⟩)] (cgF seed) x y c w hx hx2 hy hy2 h1 h2 (enters_of Tryz.func79 (by kernel_rfl) rfl)
    (fun k l dx dy ex ey W' hb => refgradfn_any seed k l dx dy ex ey p W' (hp.below hb hp.lt)) (fun k l dx dy ex ey => cgF_bd seed k l dx dy ex ey))
  unfold gradF
  generalize latF (cgF seed) x y c = r at *
  have P0 := Blk.new w #[.int .u32 seed] 22
  have B0 : Below w.heap.size w (w.alloc (.cells #[.int .u32 seed] 22)) := (by repeat (first | with_reducible exact Below.refl _ _ | with_reducible apply Below.drew | with_reducible refine below_drewN ?_ _ | (with_reducible refine Below.setCell ?_ ?_ _; rotate_left; focus (first | omega | (simp <;> omega))) | (with_reducible refine Below.alloc ?_ ?_ _; rotate_left; focus (first | omega | (simp <;> omega)))))
  go_enter Tryz.func64, Tryz.ntmps64
  go_wp2_with fail
  refine (KC.out _ _ P0).mono ?_
  rintro e w1 ⟨rfl, b1⟩
  have HB := Lib.hid (B0.trans (b1.mono B0.size))
  clear b1 B0 P0
  go_wp2_with fail
  go_ret
  exact ⟨rfl, HB.out⟩
end Go.Proofs.YtkmcinibaffpmaaGreat
