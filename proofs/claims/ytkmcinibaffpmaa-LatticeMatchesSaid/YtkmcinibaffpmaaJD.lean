import Derived.Test.YtkmcinibaffpmaaJC
import Derived.Test.YtkmcinibaffpmaaFloatR
import Derived.Test.YtkmcinibaffpmaaThermLaw
import Derived.BigQuiet
import Derived.Deep.DeepCutAuto
import Derived.Deep.CutBlock
namespace Go.Proofs.Ytkmcinibaffpmaa
open Go.ChangeShapes Go.WideShapes Go.ChangeAt Go.RowKit
open Ieee.Format (fin finE htE allFin allHt all_true all_false mulF subF addF Ht Bd divF rootF floorF easeF mixF)
set_option linter.unusedVariables false
open Wide
open Ieee.Format (Wi const_0 const_1 value_wi grad_wi mix_wi near_4 near_8 mulF_spec addF_spec)

theorem ease_unit {s : Nat} (h : Share s) : fin Ieee.single (easeF s) ∧ 0 ≤ Ieee.single.V (easeF s) ∧ Ieee.single.V (easeF s) ≤ 1 := by
  obtain ⟨_, _, _, f, a, b⟩ := Ieee.Format.ease_ok h.1 h.2.1 h.2.2
  exact ⟨f, a, b⟩
theorem lat_s {x c : Int} (h1 : 1 ≤ c) (h2 : c ≤ 4096) : Share (latS (x % c) c) := (lat_share (Int.emod_nonneg _ (by omega)) (Int.emod_lt_of_pos _ (by omega)) h2).1
theorem latS_lt (m c : Int) : latS m c < 4294967296 := Ieee.Format.divF_lt _ _
theorem valF_wi (seed x y c : Int) (h1 : 1 ≤ c) (h2 : c ≤ 4096) : Wi (1 + 8 * Ieee.P2 (-24)) (valF seed x y c) := by
  obtain ⟨a, b, d⟩ := ease_unit (lat_s (x := x) h1 h2)
  obtain ⟨a', b', d'⟩ := ease_unit (lat_s (x := y) h1 h2)
  unfold valF latF
  exact value_wi (cvF_wi ..) (cvF_wi ..) (cvF_wi ..) (cvF_wi ..) a b d a' b' d'
theorem gradF_wi (seed x y c : Int) (h1 : 1 ≤ c) (h2 : c ≤ 4096) : Wi (2 + 16 * Ieee.P2 (-24)) (gradF seed x y c) := by
  have sx := lat_s (x := x) h1 h2
  have sy := lat_s (x := y) h1 h2
  obtain ⟨a, b, d⟩ := ease_unit sx
  obtain ⟨a', b', d'⟩ := ease_unit sy
  have X := sx.dx (latS_lt _ _)
  have Y := sy.dx (latS_lt _ _)
  unfold gradF latF cgF
  exact grad_wi (dot_wi _ X Y) (dot_wi _ sx.dx1 Y) (dot_wi _ X sy.dx1) (dot_wi _ sx.dx1 sy.dx1) a b d a' b' d'
end Go.Proofs.Ytkmcinibaffpmaa

namespace Go.Proofs.Ytkmcinibaffpmaa
open Go.ChangeShapes Go.WideShapes Go.ChangeAt Go.RowKit
open Ieee.Format (fin finE htE allFin allHt all_true all_false mulF subF addF Ht Bd divF rootF floorF easeF mixF)
set_option linter.unusedVariables false
open Wide
open Ieee.Format (Wi const_0 const_1 mix_wi near_4 near_8 near_2 mulF_spec addF_spec conv_exact)

theorem zero_mul {a b : Nat} (fa : fin Ieee.single a) (fb : fin Ieee.single b) (h : Ieee.single.V b = 0) : fin Ieee.single (mulF a b) ∧ Ieee.single.V (mulF a b) = 0 := by
  have := (mulF_spec fa fb).2.bound const_0.1 const_0.2.2 (by rw [const_0.2.1, h]; grind) (by rw [const_0.2.1, h]; grind)
  rw [const_0.2.1] at this
  obtain ⟨f, k1, k2, _⟩ := this
  exact ⟨f, by grind⟩
theorem zero_add {a b : Nat} (fa : fin Ieee.single a) (fb : fin Ieee.single b) (h1 : Ieee.single.V a = 0) (h : Ieee.single.V b = 0) : fin Ieee.single (addF a b) ∧ Ieee.single.V (addF a b) = 0 := by
  have := (addF_spec fa fb).2.bound const_0.1 const_0.2.2 (by rw [const_0.2.1, h, h1]; grind) (by rw [const_0.2.1, h, h1]; grind)
  rw [const_0.2.1] at this
  obtain ⟨f, k1, k2, _⟩ := this
  exact ⟨f, by grind⟩
theorem p2_small : 0 < Ieee.P2 (-22) ∧ 1048576 * Ieee.P2 (-22) ≤ 1 ∧ Ieee.P2 (-22) = 2 * Ieee.P2 (-23) := by
  have p := Ieee.P2_pos (-22)
  have q2 : Ieee.P2 (-22) = 2 * Ieee.P2 (-23) := Ieee.Format.P2_double (-22)
  have q : Ieee.P2 (-23) = 2 * Ieee.P2 (-24) := Ieee.Format.P2_double (-23)
  have r : 16777216 * Ieee.P2 (-24) = 1 := by
    have := Ieee.P2_add 24 (-24)
    rw [show Ieee.P2 24 = ((2 ^ 24 : Nat) : Rat) from Ieee.P2_nat 24] at this
    rw [show (24 : Int) + -24 = 0 from rfl, Ieee.P2_zero] at this
    rw [this]; rfl
  exact ⟨p, by grind, q2⟩
theorem mix_zero {a b : Nat} {c : Rat} (hc0 : 0 ≤ c) (hc : c ≤ 3) (ha : Wi c a) (hb : Wi c b) (h : Ieee.single.V a = 0) : fin Ieee.single (mixF a b 0) ∧ Ieee.single.V (mixF a b 0) = 0 := by
  obtain ⟨p, p2, p3⟩ := p2_small
  have k := mix_wi (u := 0) near_8 near_8 ha hb const_0.1 (by rw [const_0.2.1]; grind) (by rw [const_0.2.1]; grind) (by grind) (by grind) (by grind) (by grind)
  obtain ⟨f, v⟩ := zero_mul k.1 const_0.1 const_0.2.1
  exact zero_add ha.1 f h v
theorem dot_zero (k : Nat) : Ieee.single.V (dotF k 0 0) = 0 := by
  obtain ⟨fa, _⟩ := conv_exact (gX k) (by have := gX_le k; omega) (by have := gX_le k; omega)
  obtain ⟨fb, _⟩ := conv_exact (gY k) (by have := gY_le k; omega) (by have := gY_le k; omega)
  obtain ⟨f1, v1⟩ := zero_mul fa const_0.1 const_0.2.1
  obtain ⟨f2, v2⟩ := zero_mul fb const_0.1 const_0.2.1
  exact (zero_add f1 f2 v1 v2).2
theorem latS_one (x : Int) : latS (x % 1) 1 = 0 := by
  rw [show x % 1 = 0 from by omega]
  decide
theorem easeF_zero : easeF 0 = 0 := by decide
theorem grad_one (seed x y : Int) : Ieee.single.V (gradF seed x y 1) = 0 := by
  have sx := lat_s (x := x) (c := 1) (by omega) (by omega)
  rw [latS_one] at sx
  have X := sx.dx (by omega)
  unfold gradF latF cgF
  rw [latS_one, latS_one, easeF_zero]
  obtain ⟨p, p2, p3⟩ := p2_small
  have w0 : Ieee.single.V 0 = 0 := const_0.2.1
  obtain ⟨f, v⟩ := mix_zero (by grind) (by grind) (dot_wi (hashTo seed (x / 1) (y / 1) 1 3 % 8).toNat X X) (dot_wi (hashTo seed (x / 1 + 1) (y / 1) 1 3 % 8).toNat sx.dx1 X) (dot_zero _)
  have r := (mix_wi (u := 0) near_4 near_4 (dot_wi (hashTo seed (x / 1) (y / 1 + 1) 1 3 % 8).toNat X sx.dx1) (dot_wi (hashTo seed (x / 1 + 1) (y / 1 + 1) 1 3 % 8).toNat sx.dx1 sx.dx1) const_0.1 (by grind) (by grind) (by grind) (by grind) (by grind) (by grind)).2.2
  exact (mix_zero (c := 3) (by grind) (by grind) ⟨f, by grind, by grind⟩ ⟨r.1, by have := r.2.1; grind, by have := r.2.2; grind⟩ v).2
end Go.Proofs.Ytkmcinibaffpmaa

namespace Go.Proofs.Ytkmcinibaffpmaa
open Go.ChangeShapes Go.WideShapes Go.ChangeAt Go.RowKit
open Ieee.Format (fin finE htE allFin allHt all_true all_false mulF subF addF Ht Bd divF rootF floorF easeF mixF)
set_option linter.unusedVariables false
open Wide
open Ieee.Format (Wi const_0)

theorem p24_one : 16777216 * Ieee.P2 (-24) = 1 ∧ Ieee.P2 (-23) = 2 * Ieee.P2 (-24) ∧ Ieee.P2 (-22) = 4 * Ieee.P2 (-24) := by
  have q2 : Ieee.P2 (-22) = 2 * Ieee.P2 (-23) := Ieee.Format.P2_double (-22)
  have q : Ieee.P2 (-23) = 2 * Ieee.P2 (-24) := Ieee.Format.P2_double (-23)
  have := Ieee.P2_add 24 (-24)
  rw [show Ieee.P2 24 = ((2 ^ 24 : Nat) : Rat) from Ieee.P2_nat 24] at this
  rw [show (24 : Int) + -24 = 0 from rfl, Ieee.P2_zero] at this
  have r : 16777216 * Ieee.P2 (-24) = 1 := by rw [this]; rfl
  exact ⟨r, q, by grind⟩
theorem big_p : fin Ieee.single 1065353224 ∧ Ieee.single.V 1065353224 = 1 + 16 * Ieee.P2 (-24) := by
  obtain ⟨r, q, q2⟩ := p24_one
  have := Ieee.Format.V_const false 126 8388616 (.inr (by decide)) (by decide) (by decide)
  rw [show Ieee.single.word false (126 * 8388608 + 8388616) = 1065353224 from by decide] at this
  refine ⟨this.1, ?_⟩
  rw [this.2.1, show ((126 : Nat) : Int) - 149 = -23 from rfl, show ((8388616 : Nat) : Rat) = 8388616 from rfl]
  simp [Ieee.sg]
  grind
theorem big_np : fin Ieee.single 3212836872 ∧ Ieee.single.V 3212836872 = -(1 + 16 * Ieee.P2 (-24)) := by
  obtain ⟨r, q, q2⟩ := p24_one
  have := Ieee.Format.V_const true 126 8388616 (.inr (by decide)) (by decide) (by decide)
  rw [show Ieee.single.word true (126 * 8388608 + 8388616) = 3212836872 from by decide] at this
  refine ⟨this.1, ?_⟩
  rw [this.2.1, show ((126 : Nat) : Int) - 149 = -23 from rfl, show ((8388616 : Nat) : Rat) = 8388616 from rfl]
  simp [Ieee.sg]
  grind
theorem big_q : fin Ieee.single 1073741832 ∧ Ieee.single.V 1073741832 = 2 + 32 * Ieee.P2 (-24) := by
  obtain ⟨r, q, q2⟩ := p24_one
  have := Ieee.Format.V_const false 127 8388616 (.inr (by decide)) (by decide) (by decide)
  rw [show Ieee.single.word false (127 * 8388608 + 8388616) = 1073741832 from by decide] at this
  refine ⟨this.1, ?_⟩
  rw [this.2.1, show ((127 : Nat) : Int) - 149 = -22 from rfl, show ((8388616 : Nat) : Rat) = 8388616 from rfl]
  simp [Ieee.sg]
  grind
theorem big_nq : fin Ieee.single 3221225480 ∧ Ieee.single.V 3221225480 = -(2 + 32 * Ieee.P2 (-24)) := by
  obtain ⟨r, q, q2⟩ := p24_one
  have := Ieee.Format.V_const true 127 8388616 (.inr (by decide)) (by decide) (by decide)
  rw [show Ieee.single.word true (127 * 8388608 + 8388616) = 3221225480 from by decide] at this
  refine ⟨this.1, ?_⟩
  rw [this.2.1, show ((127 : Nat) : Int) - 149 = -22 from rfl, show ((8388616 : Nat) : Rat) = 8388616 from rfl]
  simp [Ieee.sg]
  grind
theorem lat_tests {v g : Nat} (hv : Wi (1 + 8 * Ieee.P2 (-24)) v) (hg : Wi (2 + 16 * Ieee.P2 (-24)) g) :
    (FloatKind.f32.format.order v 3212836872 == some .lt) = false ∧ (FloatKind.f32.format.order v 1065353224 == some .gt) = false ∧ (FloatKind.f32.format.order g 3221225480 == some .lt) = false ∧ (FloatKind.f32.format.order g 1073741832 == some .gt) = false := by
  have p := Ieee.P2_pos (-24)
  obtain ⟨f, a, b⟩ := hv
  obtain ⟨f', a', b'⟩ := hg
  refine ⟨(Ieee.single.order_lt f big_np.1).trans (decide_eq_false ?_), (Ieee.single.order_gt f big_p.1).trans (decide_eq_false ?_), (Ieee.single.order_lt f' big_nq.1).trans (decide_eq_false ?_), (Ieee.single.order_gt f' big_q.1).trans (decide_eq_false ?_)⟩
  · rw [big_np.2]; grind
  · rw [big_p.2]; grind
  · rw [big_nq.2]; grind
  · rw [big_q.2]; grind
theorem zero_wi {c : Rat} (h : 0 ≤ c) : Wi c 0 := ⟨const_0.1, by rw [const_0.2.1]; grind, by rw [const_0.2.1]; grind⟩
theorem eq_zero {g : Nat} (f : fin Ieee.single g) (h : Ieee.single.V g = 0) : (FloatKind.f32.format.order g 0 == some .eq) = true :=
  (Ieee.single.order_eq f const_0.1).trans (decide_eq_true (by rw [const_0.2.1]; exact h))
end Go.Proofs.Ytkmcinibaffpmaa

namespace Go.Proofs.Ytkmcinibaffpmaa
open Go.ChangeShapes Go.WideShapes Go.ChangeAt Go.RowKit
open Ieee.Format (fin finE htE allFin allHt all_true all_false mulF subF addF Ht Bd divF rootF floorF easeF mixF)
set_option linter.unusedVariables false
open Wide

set_option maxRecDepth 100000 in
set_option maxHeartbeats 4000000 in
theorem lattice_walk (seed x y c : Int) (w : World) (v g n m : Nat) (px py z : Int)
    (KV : Hid (∀ w, Calls Try.prog 64 #[.int .u32 seed, .int .i64 x, .int .i64 y, .int .i64 c] w fun e w' => e = .returned (.tuple #[.float .f32 v, .int .i64 z]) ∧ Below w.heap.size w w'))
    (KV2 : Hid (∀ w, Calls Try.prog 65 #[.int .u32 seed, .int .i64 x, .int .i64 y, .int .i64 c] w fun e w' => e = .returned (.tuple #[.float .f32 v, .int .i64 z]) ∧ Below w.heap.size w w'))
    (KG : Hid (∀ w, Calls Try.prog 66 #[.int .u32 seed, .int .i64 x, .int .i64 y, .int .i64 c] w fun e w' => e = .returned (.tuple #[.float .f32 g, .int .i64 z]) ∧ Below w.heap.size w w'))
    (KG2 : Hid (∀ w, Calls Try.prog 67 #[.int .u32 seed, .int .i64 x, .int .i64 y, .int .i64 c] w fun e w' => e = .returned (.tuple #[.float .f32 g, .int .i64 z]) ∧ Below w.heap.size w w'))
    (KC : Hid (∀ w, Calls Try.prog 68 #[.int .u32 seed, .int .i64 x, .int .i64 y, .int .i64 c] w fun e w' => e = .returned (.tuple #[.float .f32 n, .float .f32 m, .agg #[.int .i64 px, .int .i64 py], .int .i64 z]) ∧ Below w.heap.size w w'))
    (KC2 : Hid (∀ w, Calls Try.prog 69 #[.int .u32 seed, .int .i64 x, .int .i64 y, .int .i64 c] w fun e w' => e = .returned (.tuple #[.float .f32 n, .float .f32 m, .agg #[.int .i64 px, .int .i64 py], .int .i64 z]) ∧ Below w.heap.size w w'))
    (K1 : Hid (∀ w, Calls Try.prog 17 #[.float .f32 v, .int .i64 z, .float .f32 v, .int .i64 z] w fun e w' => e = .returned (.bool true) ∧ w = w'))
    (K2 : Hid (∀ w, Calls Try.prog 17 #[.float .f32 g, .int .i64 z, .float .f32 g, .int .i64 z] w fun e w' => e = .returned (.bool true) ∧ w = w'))
    (t1 : Hid ((FloatKind.f32.format.order v 3212836872 == some .lt) = false)) (t2 : Hid ((FloatKind.f32.format.order v 1065353224 == some .gt) = false)) (t3 : Hid ((FloatKind.f32.format.order g 3221225480 == some .lt) = false)) (t4 : Hid ((FloatKind.f32.format.order g 1073741832 == some .gt) = false))
    (t5 : Hid (c = 1 → (FloatKind.f32.format.order g 0 != some .eq) = false)) (t6 : Hid ((FloatKind.f32.format.order n m == some .lt || FloatKind.f32.format.order n m == some .eq) = true)) :
    Calls Try.prog 10 #[.int .u32 seed, .int .i64 x, .int .i64 y, .int .i64 c] w fun e w' => e = .returned (.bool true) ∧ Below w.heap.size w w' := by
  go_enter Try.func10, Try.ntmps10
  go_wp2_with fail
  refine (landed_bel _).mono ?_
  rintro e w1 ⟨rfl, b1⟩
  have B1 := Lib.hid b1
  clear b1
  go_wp2_with fail
  refine (KV.out _).mono ?_
  rintro e w2 ⟨rfl, b2⟩
  have B2 := Lib.hid (B1.out.trans (b2.mono B1.out.size))
  clear b2 B1 KV
  go_wp2_with fail
  refine (KV2.out _).mono ?_
  rintro e w3 ⟨rfl, b3⟩
  have B3 := Lib.hid (B2.out.trans (b3.mono B2.out.size))
  clear b3 B2 KV2
  go_wp2_with fail
  refine (KG.out _).mono ?_
  rintro e w4 ⟨rfl, b4⟩
  have B4 := Lib.hid (B3.out.trans (b4.mono B3.out.size))
  clear b4 B3 KG
  go_wp2_with fail
  refine (KG2.out _).mono ?_
  rintro e w5 ⟨rfl, b5⟩
  have B5 := Lib.hid (B4.out.trans (b5.mono B4.out.size))
  clear b5 B4 KG2
  go_wp2_with fail
  refine (K1.out _).mono ?_
  rintro e w6 ⟨rfl, rfl⟩
  go_wp2_with fail
  refine (K2.out _).mono ?_
  rintro e w6 ⟨rfl, rfl⟩
  clear K1 K2
  go_upto_region 9 with fail
  go_cut [92] (fun v wx => v = .bool false ∧ wx = w5)
  case first =>
    have s1 := t1.out
    have s2 := t2.out
    have s3 := t3.out
    have s4 := t4.out
    by_cases hc : c = 1
    · have s5 := t5.out hc
      go_wp2_with fail
      go_meet
      exact ⟨rfl, rfl⟩
    · go_wp2_with fail
      go_meet
      exact ⟨rfl, rfl⟩
  case rest =>
    obtain ⟨rfl, rfl⟩ := hcut
    clear t1 t2 t3 t4 t5
    go_wp2_with fail
    refine (KC.out _).mono ?_
    rintro e w6 ⟨rfl, b6⟩
    have B6 := Lib.hid (B5.out.trans (b6.mono B5.out.size))
    clear b6 B5 KC
    go_upto_region 12 with fail
    have A7 := Lib.hid (Blk.new w6 #[.int .i64 px, .int .i64 py] 53)
    have b7 : Below w6.heap.size w6 (w6.alloc (.cells #[.int .i64 px, .int .i64 py] 53)) := (by repeat (first | with_reducible exact Below.refl _ _ | with_reducible apply Below.drew | with_reducible refine below_drewN ?_ _ | (with_reducible refine Below.setCell ?_ ?_ _; rotate_left; focus (first | omega | (simp <;> omega))) | (with_reducible refine Below.alloc ?_ ?_ _; rotate_left; focus (first | omega | (simp <;> omega)))))
    have B7 := Lib.hid (B6.out.trans (b7.mono B6.out.size))
    clear b7
    generalize w6.alloc (.cells #[.int .i64 px, .int .i64 py] 53) = w7 at *
    clear B6
    generalize w6.heap.size = k7 at *
    go_wp2_with fail
    refine (KC2.out _).mono ?_
    rintro e w8 ⟨rfl, b8⟩
    have A8 := Lib.hid (A7.out.below b8 A7.out.lt)
    have B8 := Lib.hid (B7.out.trans (b8.mono B7.out.size))
    clear b8 B7 A7 KC2
    go_upto_region 13 with fail
    have A9 := (A8.out.alloc (.cells #[.int .i64 px, .int .i64 py] 53))
    have C9 := (Blk.new w8 #[.int .i64 px, .int .i64 py] 53)
    have b9 : Below w8.heap.size w8 (w8.alloc (.cells #[.int .i64 px, .int .i64 py] 53)) := (by repeat (first | with_reducible exact Below.refl _ _ | with_reducible apply Below.drew | with_reducible refine below_drewN ?_ _ | (with_reducible refine Below.setCell ?_ ?_ _; rotate_left; focus (first | omega | (simp <;> omega))) | (with_reducible refine Below.alloc ?_ ?_ _; rotate_left; focus (first | omega | (simp <;> omega)))))
    have B9 := Lib.hid (B8.out.trans (b9.mono B8.out.size))
    clear b9
    generalize w8.alloc (.cells #[.int .i64 px, .int .i64 py] 53) = w9 at *
    clear B8 A8
    have c0 := A9.cell 0
    have c1 := A9.cell 1
    have d0 := C9.cell 0
    have d1 := C9.cell 1
    simp at c0 c1 d0 d1
    have l1 := A9.lt
    have l2 := C9.lt
    clear A9 C9
    generalize w8.heap.size = k8 at *
    have KN := Lib.hid (fun w => bits_any n n w)
    have KM := Lib.hid (fun w => bits_any m m w)
    have e1 : decide (n = n) = true := by simp
    have e2 : decide (m = m) = true := by simp
    rw [e1] at KN
    rw [e2] at KM
    have h6 := t6.out
    clear e1 e2 t6
    go_wp2_with fail
    refine (KN.out _).mono ?_
    rintro e w10 ⟨rfl, rfl⟩
    go_wp2_with fail
    refine (KM.out _).mono ?_
    rintro e w10 ⟨rfl, rfl⟩
    go_wp2_with fail
    go_ret
    exact ⟨by simp, B9.out⟩

theorem le_test {n m : Nat} (fn : fin Ieee.single n) (fm : fin Ieee.single m) (h : Ieee.single.V n ≤ Ieee.single.V m) : (FloatKind.f32.format.order n m == some .lt || FloatKind.f32.format.order n m == some .eq) = true := by
  have e1 : (FloatKind.f32.format.order n m == some .lt) = _ := Ieee.single.order_lt fn fm
  have e2 : (FloatKind.f32.format.order n m == some .eq) = _ := Ieee.single.order_eq fn fm
  rw [e1, e2]
  simp
  grind
set_option maxRecDepth 100000 in
theorem lattice_law (seed x y c : Int) (w : World) :
    Calls Try.prog 10 #[.int .u32 seed, .int .i64 x, .int .i64 y, .int .i64 c] w fun e w' => e = .returned (.bool true) ∧ Below w.heap.size w w' := by
  by_cases hz : plE x y c = 0
  · obtain ⟨b1, c1, c2⟩ := plE_zero hz
    have wv := valF_wi seed x y c c1 c2
    have wg := gradF_wi seed x y c c1 c2
    obtain ⟨s1, s2, s3, s4⟩ := lat_tests wv wg
    obtain ⟨fn, fm, _, _, hle⟩ := near_next seed x y c c1 c2
    refine lattice_walk seed x y c w (valF seed x y c) (gradF seed x y c) (nearF seed x y c) (nextF seed x y c) (atP seed x y c).1 (atP seed x y c).2 0
      (Lib.hid fun w => by have := valueop_any seed x y c w; rwa [hz, if_pos rfl] at this) (Lib.hid fun w => by have := refvalueop_any seed x y c w; rwa [hz, if_pos rfl] at this)
      (Lib.hid fun w => by have := gradop_any seed x y c w; rwa [hz, if_pos rfl] at this) (Lib.hid fun w => by have := refgradop_any seed x y c w; rwa [hz, if_pos rfl] at this)
      (Lib.hid fun w => by have := celsop_any seed x y c w; unfold celOut at this; rwa [if_pos hz] at this) (Lib.hid fun w => by have := refcelsop_any seed x y c w; unfold celOut at this; rwa [if_pos hz] at this)
      (Lib.hid fun w => one_same _ 0 (fun h => absurd rfl h) w) (Lib.hid fun w => one_same _ 0 (fun h => absurd rfl h) w) (Lib.hid s1) (Lib.hid s2) (Lib.hid s3) (Lib.hid s4) (Lib.hid ?_) (Lib.hid (le_test fn fm hle))
    rintro rfl
    have h := eq_zero wg.1 (grad_one seed x y)
    generalize FloatKind.f32.format.order (gradF seed x y 1) 0 = o at *
    simpa using h
  · have s0 := zero_wi (c := 1 + 8 * Ieee.P2 (-24)) (by have := Ieee.P2_pos (-24); grind)
    have s9 := zero_wi (c := 2 + 16 * Ieee.P2 (-24)) (by have := Ieee.P2_pos (-24); grind)
    obtain ⟨s1, s2, s3, s4⟩ := lat_tests s0 s9
    refine lattice_walk seed x y c w 0 0 0 0 0 0 (plE x y c)
      (Lib.hid fun w => by have := valueop_any seed x y c w; rwa [if_neg hz] at this) (Lib.hid fun w => by have := refvalueop_any seed x y c w; rwa [if_neg hz] at this)
      (Lib.hid fun w => by have := gradop_any seed x y c w; rwa [if_neg hz] at this) (Lib.hid fun w => by have := refgradop_any seed x y c w; rwa [if_neg hz] at this)
      (Lib.hid fun w => by have := celsop_any seed x y c w; unfold celOut at this; rwa [if_neg hz] at this) (Lib.hid fun w => by have := refcelsop_any seed x y c w; unfold celOut at this; rwa [if_neg hz] at this)
      (Lib.hid fun w => one_same _ _ (fun _ => rfl) w) (Lib.hid fun w => one_same _ _ (fun _ => rfl) w) (Lib.hid s1) (Lib.hid s2) (Lib.hid s3) (Lib.hid s4) (Lib.hid fun _ => by decide +kernel) (Lib.hid (by decide +kernel))
end Go.Proofs.Ytkmcinibaffpmaa
