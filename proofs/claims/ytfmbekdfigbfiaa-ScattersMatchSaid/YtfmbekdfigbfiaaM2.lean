import Derived.Test.YtfmbekdfigbfiaaRows
import Derived.Test.YtfmbekdfigbfiaaM1
import Derived.WalkKit
import Derived.ProofKit
import Derived.OpenShut
import Derived.WalkLawsBesides
import Derived.WalkSpells
import Derived.Deep.QuietTactic
import Derived.BigQuiet
import Derived.Lib.Hide
import Derived.Laws.Externs
import Derived.WalkSmall
import Derived.Deep.Draws
import Derived.Laws.BitsAllLaws
import Derived.Outline
namespace Go.Proofs.Ytfmbekdfigbfiaa
open Go.ChangeShapes Go.WideShapes Go.ChangeAt Go.RowKit

theorem grown_trans {A B C : World} (h : RowKit.Grown A B) (h' : RowKit.Grown B C) : RowKit.Grown A C :=
  ⟨World.keptBut_trans h.1 h'.1, fun a => (h'.2.1 a).trans (h.2.1 a), Nat.le_trans h.2.2 h'.2.2⟩

def pick3 (x y n : Int) (j : Nat) : Int := if j = 0 then x else if j = 1 then y else n
def sh1 (a : Int) : Int := bits .xor .u32 a (a / 65536)
def sh2 (a : Int) : Int := bits .xor .u32 a (a / 8192)
def hstep (h k : Int) : Int := sh1 (sh2 (sh1 (bits .xor .u32 h (k % 4294967296)) * 2246822507 % 4294967296) * 3266489909 % 4294967296)
def hashTo (h x y n : Int) : Nat → Int
  | 0 => h
  | j + 1 => hstep (hashTo h x y n j) (pick3 x y n j)

theorem hash1 (h x y n : Int) (w : World) : Calls Try.prog 179 #[.int .u32 h, .int .i64 x, .int .i64 y, .int .i64 n] w fun e w' => e = .returned (.int .u32 (hashTo h x y n 3)) ∧ w = w' := by
  have i0 : ∀ w, (Instr.index 258 (.agg #[.int .i64 x, .int .i64 y, .int .i64 n]) (.int .i64 0)).run Try.prog w = .ok (.int .i64 x) w := fun _ => by kernel_rfl
  have i1 : ∀ w, (Instr.index 258 (.agg #[.int .i64 x, .int .i64 y, .int .i64 n]) (.int .i64 1)).run Try.prog w = .ok (.int .i64 y) w := fun _ => by kernel_rfl
  have i2 : ∀ w, (Instr.index 258 (.agg #[.int .i64 x, .int .i64 y, .int .i64 n]) (.int .i64 2)).run Try.prog w = .ok (.int .i64 n) w := fun _ => by kernel_rfl
  go_enter Try.func179, Try.ntmps179
  go_wp2
  go_loop [9, 17] (fun v i => ∃ j : Nat, j ≤ 3 ∧ i = .int .i64 j ∧ v = .int .u32 (hashTo h x y n j)) (fun _ i => 3 - (intOf i).toNat)
  case atStart => exact ⟨0, by omega, rfl, rfl⟩
  case round =>
    obtain ⟨j, hj, rfl, hv, rfl⟩ := hrel
    rcases (show j = 0 ∨ j = 1 ∨ j = 2 ∨ j = 3 by omega) with rfl | rfl | rfl | rfl
    · have e : ∀ g, g = hashTo h x y n 0 → hstep g x = hashTo h x y n 1 := by rintro _ rfl; rfl
      generalize hashTo h x y n 0 = g at *
      have E := e g rfl
      clear e
      have E' := Lib.hid E; clear E
      go_wp2
      go_round
      case rel => exact ⟨1, by omega, rfl, by rw [← E'.out]; rfl⟩
      case measure => simp [intOf]
    · have e : ∀ g, g = hashTo h x y n 1 → hstep g y = hashTo h x y n 2 := by rintro _ rfl; rfl
      generalize hashTo h x y n 1 = g at *
      have E := e g rfl
      clear e
      have E' := Lib.hid E; clear E
      go_wp2
      go_round
      case rel => exact ⟨2, by omega, rfl, by rw [← E'.out]; rfl⟩
      case measure => simp [intOf]
    · have e : ∀ g, g = hashTo h x y n 2 → hstep g n = hashTo h x y n 3 := by rintro _ rfl; rfl
      generalize hashTo h x y n 2 = g at *
      have E := e g rfl
      clear e
      have E' := Lib.hid E; clear E
      go_wp2
      go_round
      case rel => exact ⟨3, by omega, rfl, by rw [← E'.out]; rfl⟩
      case measure => simp [intOf]
    · go_wp2
      go_ret
      exact ⟨rfl, rfl⟩

theorem hash2 (h x y n : Int) (w : World) : Calls Try.prog 125 #[.int .u32 h, .int .i64 x, .int .i64 y, .int .i64 n] w fun e w' => e = .returned (.int .u32 (hashTo h x y n 3)) ∧ Grown w w' := by
  go_enter Try.func125, Try.ntmps125
  go_wp2
  go_loop [9, 18] (fun v i => ∃ j : Nat, j ≤ 3 ∧ i = .int .i64 j ∧ v = .int .u32 (hashTo h x y n j)) (fun _ i => 3 - (intOf i).toNat)
  case atStart => exact ⟨0, by omega, rfl, rfl⟩
  case round =>
    obtain ⟨j, hj, rfl, hv, rfl⟩ := hrel
    rcases (show j = 0 ∨ j = 1 ∨ j = 2 ∨ j = 3 by omega) with rfl | rfl | rfl | rfl
    · have e : ∀ g, g = hashTo h x y n 0 → hstep g x = hashTo h x y n 1 := by rintro _ rfl; rfl
      generalize hashTo h x y n 0 = g at *
      have E := e g rfl
      clear e
      have E' := Lib.hid E; clear E
      go_wp2
      go_round
      case rel => exact ⟨1, by omega, rfl, by rw [← E'.out]; rfl⟩
      case measure => simp [intOf]
    · have e : ∀ g, g = hashTo h x y n 1 → hstep g y = hashTo h x y n 2 := by rintro _ rfl; rfl
      generalize hashTo h x y n 1 = g at *
      have E := e g rfl
      clear e
      have E' := Lib.hid E; clear E
      go_wp2
      go_round
      case rel => exact ⟨2, by omega, rfl, by rw [← E'.out]; rfl⟩
      case measure => simp [intOf]
    · have e : ∀ g, g = hashTo h x y n 2 → hstep g n = hashTo h x y n 3 := by rintro _ rfl; rfl
      generalize hashTo h x y n 2 = g at *
      have E := e g rfl
      clear e
      have E' := Lib.hid E; clear E
      go_wp2
      go_round
      case rel => exact ⟨3, by omega, rfl, by rw [← E'.out]; rfl⟩
      case measure => simp [intOf]
    · go_wp2
      go_ret
      exact ⟨rfl, by repeat (first | exact Grown.refl _ | apply Grown.drew | apply Grown.alloc)⟩

end Go.Proofs.Ytfmbekdfigbfiaa

namespace Go.Proofs.Ytfmbekdfigbfiaa
open Go.ChangeShapes Go.WideShapes Go.ChangeAt Go.RowKit
open Ieee.Format (fin unitF signedF mulF subF addF)

theorem ref_mul_ok (x y : Nat) (w : World) (hx : fin Ieee.single x) (hy : fin Ieee.single y) (hr : fin Ieee.single (mulF x y)) :
    Calls Try.prog 161 #[.float .f32 x, .float .f32 y] w fun e w' => e = .returned (.float .f32 (mulF x y)) ∧ w = w' := by
  obtain ⟨X, Y, Z, a, b, c, d⟩ := Ieee.Format.road_mul hx hy hr
  generalize mulF x y = r at *
  have ka := fun w => run_convert_float_float (P := Try.prog) w 27 86 .f32 .f64 x X (by kernel_rfl) Try.underlying86 a
  have kb := fun w => run_convert_float_float (P := Try.prog) w 27 86 .f32 .f64 y Y (by kernel_rfl) Try.underlying86 b
  have kc := fun w => run_float_arith (P := Try.prog) w .mul 86 .f64 X Y Z c
  have kd := fun w => run_convert_float_float (P := Try.prog) w 86 27 .f64 .f32 Z r (by kernel_rfl) Try.underlying27 d
  clear a b c d
  go_enter Try.func161, Try.ntmps161
  go_wp2
  go_ret
  exact ⟨rfl, rfl⟩

theorem ref_sub_ok (x y : Nat) (w : World) (hx : fin Ieee.single x) (hy : fin Ieee.single y) (hr : fin Ieee.single (subF x y)) :
    Calls Try.prog 73 #[.float .f32 x, .float .f32 y] w fun e w' => e = .returned (.float .f32 (subF x y)) ∧ w = w' := by
  obtain ⟨X, Y, Z, a, b, c, d⟩ := Ieee.Format.road_sub hx hy hr
  generalize subF x y = r at *
  have ka := fun w => run_convert_float_float (P := Try.prog) w 27 86 .f32 .f64 x X (by kernel_rfl) Try.underlying86 a
  have kb := fun w => run_convert_float_float (P := Try.prog) w 27 86 .f32 .f64 y Y (by kernel_rfl) Try.underlying86 b
  have kc := fun w => run_float_arith (P := Try.prog) w .sub 86 .f64 X Y Z c
  have kd := fun w => run_convert_float_float (P := Try.prog) w 86 27 .f64 .f32 Z r (by kernel_rfl) Try.underlying27 d
  clear a b c d
  go_enter Try.func73, Try.ntmps73
  go_wp2
  go_ret
  exact ⟨rfl, rfl⟩

theorem ref_add_ok (x y : Nat) (w : World) (hx : fin Ieee.single x) (hy : fin Ieee.single y) (hr : fin Ieee.single (addF x y)) :
    Calls Try.prog 160 #[.float .f32 x, .float .f32 y] w fun e w' => e = .returned (.float .f32 (addF x y)) ∧ w = w' := by
  obtain ⟨X, Y, Z, a, b, c, d⟩ := Ieee.Format.road_add hx hy hr
  generalize addF x y = r at *
  have ka := fun w => run_convert_float_float (P := Try.prog) w 27 86 .f32 .f64 x X (by kernel_rfl) Try.underlying86 a
  have kb := fun w => run_convert_float_float (P := Try.prog) w 27 86 .f32 .f64 y Y (by kernel_rfl) Try.underlying86 b
  have kc := fun w => run_float_arith (P := Try.prog) w .add 86 .f64 X Y Z c
  have kd := fun w => run_convert_float_float (P := Try.prog) w 86 27 .f64 .f32 Z r (by kernel_rfl) Try.underlying27 d
  clear a b c d
  go_enter Try.func160, Try.ntmps160
  go_wp2
  go_ret
  exact ⟨rfl, rfl⟩

theorem ref_conv_ok (n : Int) (w : World) : Calls Try.prog 184 #[.int .i64 n] w fun e w' => e = .returned (.float .f32 (floatOfInt .f32 n)) ∧ w = w' := by
  go_enter Try.func184, Try.ntmps184
  go_wp2
  go_ret
  exact ⟨rfl, rfl⟩

theorem unit_any (h : Int) (w : World) (h0 : 0 ≤ h) (h1 : h < 4294967296) : Calls Try.prog 178 #[.int .u32 h] w fun e w' => e = .returned (.float .f32 (unitF h)) ∧ w = w' := by
  obtain ⟨c1, _⟩ := Ieee.Format.unit_ok h h0 h1
  have km := fun w => run_float_arith (P := Try.prog) w .mul 27 .f32 (floatOfInt .f32 (h / 256)) 864026624 (unitF h) (Ieee.Format.bits_mul c1 Ieee.Format.const_m24.1)
  clear c1
  generalize unitF h = u at *
  go_enter Try.func178, Try.ntmps178
  go_wp2
  go_ret
  exact ⟨rfl, rfl⟩

theorem refunit_any (h : Int) (w : World) (h0 : 0 ≤ h) (h1 : h < 4294967296) : Calls Try.prog 124 #[.int .u32 h] w fun e w' => e = .returned (.float .f32 (unitF h)) ∧ w = w' := by
  obtain ⟨c1, c2, _⟩ := Ieee.Format.unit_ok h h0 h1
  have hm := fun w => ref_mul_ok (floatOfInt .f32 (h / 256)) 864026624 w c1 Ieee.Format.const_m24.1 c2
  clear c1 c2
  go_enter Try.func124, Try.ntmps124
  go_wp2_with (first | (go_at_call 184; refine (ref_conv_ok _ _).mono ?_; rintro e w' ⟨rfl, rfl⟩) | (go_at_call 161; refine (hm _).mono ?_; rintro e w' ⟨rfl, rfl⟩))
  go_ret
  exact ⟨rfl, rfl⟩

theorem run_f32bits (b : Nat) (w : World) : (callFunc 95 #[.float .f32 b]).run Try.prog w = .ok (.value (.int .u32 b)) w := by
  rw [run_callFunc_extern Try.func95 (by kernel_rfl) (by kernel_rfl) (by kernel_rfl) (show _ = some Extern.MathFloatBits.float32bits by kernel_rfl)]
  rfl

theorem beq_cast (a b : Nat) : ((a : Int) == (b : Int)) = decide (a = b) := by
  rw [Bool.eq_iff_iff, beq_iff_eq, decide_eq_true_iff]; omega

theorem bits_any (a b : Nat) (w : World) : Calls Try.prog 37 #[.float .f32 a, .float .f32 b] w fun e w' => e = .returned (.bool (decide (a = b))) ∧ w = w' := by
  have ka := fun w => run_f32bits a w
  have kb := fun w => run_f32bits b w
  go_enter Try.func37, Try.ntmps37
  go_wp2
  go_ret
  exact ⟨congrArg (fun b => Ending.returned (.bool b)) (beq_cast a b), rfl⟩

theorem landed_any (w : World) : Calls Try.prog 12 #[] w fun e w' => e = .returned (.bool true) ∧ Grown w w' := by
  go_enter Try.func12, Try.ntmps12
  go_wp2
  go_ret
  exact ⟨rfl, by repeat (first | exact Grown.refl _ | apply Grown.drew | apply Grown.alloc)⟩
end Go.Proofs.Ytfmbekdfigbfiaa

namespace Go.Proofs.Ytfmbekdfigbfiaa
open Go.ChangeShapes Go.WideShapes Go.ChangeAt Go.RowKit
theorem bcell {W w1 : World} (hb : Below W.heap.size W w1) : (∀ b o, b < W.heap.size → w1.cell? ⟨b, o, none⟩ = W.cell? ⟨b, o, none⟩) ∧ (∀ b o, b < W.heap.size → w1.frozen? ⟨b, o, none⟩ = W.frozen? ⟨b, o, none⟩) :=
  ⟨fun b o h => hb.cell (p := ⟨b, o, none⟩) h, fun b o h => hb.frozen (p := ⟨b, o, none⟩) h⟩
theorem ret_i64 {a b : Int} (h : a = b) : Ending.returned (.int .i64 a) = .returned (.int .i64 b) := by rw [h]

theorem ret_bool {a b : Bool} (h : a = b) : Ending.returned (.bool a) = .returned (.bool b) := by rw [h]

theorem landed_bel (w : World) : Calls Try.prog 12 #[] w fun e w' => e = .returned (.bool true) ∧ Below w.heap.size w w' := by
  go_enter Try.func12, Try.ntmps12
  go_wp2
  go_ret
  exact ⟨rfl, (by repeat (first | with_reducible exact Below.refl _ _ | with_reducible apply Below.drew | with_reducible refine below_drewN ?_ _ | (with_reducible refine Below.setCell ?_ ?_ _; rotate_left; focus (simp <;> omega)) | (with_reducible refine Below.alloc ?_ ?_ _; rotate_left; focus (simp <;> omega))))⟩
end Go.Proofs.Ytfmbekdfigbfiaa

namespace Go.Proofs.Ytfmbekdfigbfiaa
open Go.ChangeShapes Go.WideShapes Go.ChangeAt Go.RowKit
open Ieee.Format (fin heightE heightsE easeF ease1 ease2 ease3 mulF subF addF)
set_option linter.unusedVariables false

/-! ### what an operation on any floats gives: some float; a draw may have been made -/
theorem conv_some {P : Program} (src dst : TypeId) (s k : FloatKind) (b : Nat) (w : World) (hs : (P.underlying src).isSome = true) (hd : P.underlying dst = some (.float k)) :
    ∃ r n, (convert src dst (.float s b)).run P w = .ok (.float k r) (w.drewN n) := by
  obtain ⟨u, hs'⟩ := Option.isSome_iff_exists.1 hs
  have e : (convert src dst (.float s b)).run P w = (Conv.floatToFloat s b k).run P w := by
    cases u <;> simp [convert, run_underlying hs', run_underlying hd]
  rw [e]
  unfold Conv.floatToFloat
  split
  · exact ⟨b, 0, rfl⟩
  · split
    · exact ⟨_, 1, rfl⟩
    · exact ⟨_, 0, rfl⟩
    · dsimp only
      split
      · exact ⟨_, 1, rfl⟩
      · exact ⟨_, 0, rfl⟩
theorem arith_some {P : Program} (op : BinOp) (hop : op = .add ∨ op = .sub ∨ op = .mul ∨ op = .quo) (t : TypeId) (k : FloatKind) (x y : Nat) (w : World) :
    ∃ r n, (binOp op t (.float k x) (.float k y)).run P w = .ok (.float k r) (w.drewN n) := by
  rcases hop with rfl | rfl | rfl | rfl
  · cases hh : k.format.add x y with
    | some r => exact ⟨r, 0, by simp [binOp, Op.floatArith, hh]; rfl⟩
    | none => exact ⟨(Question.nanBits k x y).cut (w.tape w.drawn (.nanBits k x y)), 1, by simp [binOp, Op.floatArith, hh, Question.forced]; rfl⟩
  · cases hh : k.format.sub x y with
    | some r => exact ⟨r, 0, by simp [binOp, Op.floatArith, hh]; rfl⟩
    | none => exact ⟨(Question.nanBits k x y).cut (w.tape w.drawn (.nanBits k x y)), 1, by simp [binOp, Op.floatArith, hh, Question.forced]; rfl⟩
  · cases hh : k.format.mul x y with
    | some r => exact ⟨r, 0, by simp [binOp, Op.floatArith, hh]; rfl⟩
    | none => exact ⟨(Question.nanBits k x y).cut (w.tape w.drawn (.nanBits k x y)), 1, by simp [binOp, Op.floatArith, hh, Question.forced]; rfl⟩
  · cases hh : k.format.div x y with
    | some r => exact ⟨r, 0, by simp [binOp, Op.floatArith, hh]; rfl⟩
    | none => exact ⟨(Question.nanBits k x y).cut (w.tape w.drawn (.nanBits k x y)), 1, by simp [binOp, Op.floatArith, hh, Question.forced]; rfl⟩

/-- some single; nothing in memory has turned -/
def SomeF (w : World) (e : Ending) (w' : World) : Prop := ∃ r n, e = .returned (.float .f32 r) ∧ w' = w.drewN n

theorem ref_mul_some (x y : Nat) (w : World) : Calls Try.prog 161 #[.float .f32 x, .float .f32 y] w fun e w' => SomeF w e w' := by
  obtain ⟨X, n1, h1⟩ := conv_some (P := Try.prog) /-T-/27 /-T-/86 .f32 .f64 x w (by kernel_rfl) Try.underlying86
  obtain ⟨Y, n2, h2⟩ := conv_some (P := Try.prog) /-T-/27 /-T-/86 .f32 .f64 y (w.drewN n1) (by kernel_rfl) Try.underlying86
  obtain ⟨Z, n3, h3⟩ := arith_some (P := Try.prog) .mul (by simp) /-T-/86 .f64 X Y ((w.drewN n1).drewN n2)
  obtain ⟨r, n4, h4⟩ := conv_some (P := Try.prog) /-T-/86 /-T-/27 .f64 .f32 Z (((w.drewN n1).drewN n2).drewN n3) (by kernel_rfl) Try.underlying27
  generalize hw1 : w.drewN n1 = w1 at *
  generalize hw2 : w1.drewN n2 = w2 at *
  generalize hw3 : w2.drewN n3 = w3 at *
  generalize hw4 : w3.drewN n4 = w4 at *
  have H : Hid (w4 = w.drewN (n1 + n2 + n3 + n4)) := by
    subst hw1 hw2 hw3 hw4; unfold World.drewN; simp [Hid, Nat.add_assoc]
  clear hw1 hw2 hw3 hw4
  go_enter Try.func161, Try.ntmps161
  go_wp2
  go_ret
  exact ⟨r, _, rfl, H.out⟩

theorem ref_sub_some (x y : Nat) (w : World) : Calls Try.prog 73 #[.float .f32 x, .float .f32 y] w fun e w' => SomeF w e w' := by
  obtain ⟨X, n1, h1⟩ := conv_some (P := Try.prog) /-T-/27 /-T-/86 .f32 .f64 x w (by kernel_rfl) Try.underlying86
  obtain ⟨Y, n2, h2⟩ := conv_some (P := Try.prog) /-T-/27 /-T-/86 .f32 .f64 y (w.drewN n1) (by kernel_rfl) Try.underlying86
  obtain ⟨Z, n3, h3⟩ := arith_some (P := Try.prog) .sub (by simp) /-T-/86 .f64 X Y ((w.drewN n1).drewN n2)
  obtain ⟨r, n4, h4⟩ := conv_some (P := Try.prog) /-T-/86 /-T-/27 .f64 .f32 Z (((w.drewN n1).drewN n2).drewN n3) (by kernel_rfl) Try.underlying27
  generalize hw1 : w.drewN n1 = w1 at *
  generalize hw2 : w1.drewN n2 = w2 at *
  generalize hw3 : w2.drewN n3 = w3 at *
  generalize hw4 : w3.drewN n4 = w4 at *
  have H : Hid (w4 = w.drewN (n1 + n2 + n3 + n4)) := by
    subst hw1 hw2 hw3 hw4; unfold World.drewN; simp [Hid, Nat.add_assoc]
  clear hw1 hw2 hw3 hw4
  go_enter Try.func73, Try.ntmps73
  go_wp2
  go_ret
  exact ⟨r, _, rfl, H.out⟩

/-! ### what is finite, what is a height -/
theorem finite_any (x : Nat) (w : World) : Calls Try.prog 185 #[.float .f32 x] w fun e w' => e = .returned (.bool (decide (fin Ieee.single x))) ∧ w = w' := by
  have ht := Ieee.Format.finite_test x
  rw [← ht]
  change Calls Try.prog 185 #[.float .f32 x] w fun e w' => e = .returned (.bool ((FloatKind.f32.format.order x 4286578687 == some .gt || FloatKind.f32.format.order x 4286578687 == some .eq) && (FloatKind.f32.format.order x 2139095039 == some .lt || FloatKind.f32.format.order x 2139095039 == some .eq))) ∧ w = w'
  clear ht
  rcases Bool.eq_false_or_eq_true (FloatKind.f32.format.order x 4286578687 == some .gt || FloatKind.f32.format.order x 4286578687 == some .eq) with h | h
  all_goals
    go_enter Try.func185, Try.ntmps185
    go_wp2
    go_ret
    exact ⟨by simp [h], rfl⟩
end Go.Proofs.Ytfmbekdfigbfiaa

namespace Go.Proofs.Ytfmbekdfigbfiaa
open Go.ChangeShapes Go.WideShapes Go.ChangeAt Go.RowKit
open Ieee.Format (fin finE htE allFin allHt all_true all_false finE_ok finE_bad htE_ok htE_far htE_bad dmag heightE heightsE easeF ease1 ease2 ease3 mulF subF addF)
set_option linter.unusedVariables false

/-- the singles 'l' lie at 'a' -/
def SRow (w : World) (a : Option Addr) (l : List Nat) : Prop :=
  (l.length ≤ 1099511627776 ∧ ∀ x ∈ l, x < 4294967296) ∧ (l = [] ∨ ∃ b o, a = some ⟨b, o, none⟩ ∧ ∀ i, i < l.length → w.cell? ⟨b, o + i, none⟩ = some (.float .f32 (l.getD i 0)))

theorem finites_any (a : Option Addr) (cap : Nat) (l : List Nat) (w : World) (hl : SRow w a l) :
    Calls Try.prog 142 #[.slice a l.length cap] w fun e w' => e = .returned (.int .i64 (finE l)) ∧ w = w' := by
  obtain ⟨⟨hm, hwf⟩, hl⟩ := hl
  have HWF := Lib.hid hwf
  clear hwf
  rcases hl with rfl | ⟨b, o, rfl, hc⟩
  · go_enter Try.func142, Try.ntmps142
    go_wp2
    refine wp_loop_rounds 1 ?_
    rw [rounds_succ]
    go_wp2
    go_ret
    exact ⟨rfl, rfl⟩
  · have HC := Lib.hid hc
    clear hc
    go_enter Try.func142, Try.ntmps142
    go_wp2
    go_loop [4, 7] (fun _ i => ∃ k : Nat, k ≤ l.length ∧ i = .int .i64 k ∧ ∀ j, j < k → fin Ieee.single (l.getD j 0)) (fun _ i => l.length - (intOf i).toNat)
    case atStart => exact ⟨0, by omega, rfl, by omega⟩
    case round =>
      obtain ⟨k, hk, rfl, hf⟩ := hrel
      have HF := Lib.hid hf
      clear hf
      by_cases hlt : k < l.length
      · have hcell := HC.out k hlt
        obtain ⟨x, hxe⟩ : ∃ x, x = l.getD k 0 := ⟨_, rfl⟩
        rw [← hxe] at hcell
        have HE := Lib.hid hxe
        clear hxe
        by_cases hx : fin Ieee.single x
        · have HX := Lib.hid hx
          have hxb : decide (fin Ieee.single x) = true := decide_eq_true hx
          clear hx
          go_wp2_with (go_at_call 185; refine (finite_any _ _).mono ?_; rintro e w' ⟨rfl, rfl⟩)
          go_round
          case rel => exact ⟨k + 1, by omega, by go_num, fun j hj => by by_cases c : j = k; (subst c; rw [← HE.out]; exact HX.out); exact HF.out j (by omega)⟩
          case measure => simp [intOf]; omega
        · have hxb : decide (fin Ieee.single x) = false := decide_eq_false hx
          have hfin := Lib.hid (finE_bad <| all_false (p := fun x => fin Ieee.single x) hlt (by rw [← HE.out]; exact hx))
          clear hx
          go_wp2_with (go_at_call 185; refine (finite_any _ _).mono ?_; rintro e w' ⟨rfl, rfl⟩)
          go_ret
          exact ⟨ret_i64 hfin.out.symm, rfl⟩
      · have hke : k = l.length := by omega
        have hfin := Lib.hid (finE_ok <| all_true (p := fun x => fin Ieee.single x) (l := l) (by rw [← hke]; exact HF.out))
        clear hke
        go_wp2
        go_ret
        exact ⟨ret_i64 hfin.out.symm, rfl⟩

theorem height_any (x : Nat) (w : World) : Calls Try.prog 147 #[.float .f32 x] w fun e w' => e = .returned (.bool (decide (x % 2147483648 ≤ 1233125376))) ∧ w = w' := by
  have ht := Ieee.Format.height_test x
  rw [← ht]
  change Calls Try.prog 147 #[.float .f32 x] w fun e w' => e = .returned (.bool ((FloatKind.f32.format.order x 3380609024 == some .gt || FloatKind.f32.format.order x 3380609024 == some .eq) && (FloatKind.f32.format.order x 1233125376 == some .lt || FloatKind.f32.format.order x 1233125376 == some .eq))) ∧ w = w'
  clear ht
  rcases Bool.eq_false_or_eq_true (FloatKind.f32.format.order x 3380609024 == some .gt || FloatKind.f32.format.order x 3380609024 == some .eq) with h | h
  all_goals
    go_enter Try.func147, Try.ntmps147
    go_wp2
    go_ret
    exact ⟨by simp [h], rfl⟩

theorem heights_any (a : Option Addr) (cap : Nat) (l : List Nat) (w : World) (hl : SRow w a l) :
    Calls Try.prog 131 #[.slice a l.length cap] w fun e w' => e = .returned (.int .i64 (htE l)) ∧ w = w' := by
  obtain ⟨⟨hm, hwf⟩, hl⟩ := hl
  have HWF := Lib.hid hwf
  clear hwf
  rcases hl with rfl | ⟨b, o, rfl, hc⟩
  · go_enter Try.func131, Try.ntmps131
    go_wp2
    refine wp_loop_rounds 1 ?_
    rw [rounds_succ]
    go_wp2
    refine wp_loop_rounds 1 ?_
    rw [rounds_succ]
    go_wp2
    go_ret
    exact ⟨rfl, rfl⟩
  · have HC := Lib.hid hc
    clear hc
    go_enter Try.func131, Try.ntmps131
    go_wp2
    go_loop [4, 9] (fun _ i => ∃ k : Nat, k ≤ l.length ∧ i = .int .i64 k ∧ ∀ j, j < k → fin Ieee.single (l.getD j 0)) (fun _ i => l.length - (intOf i).toNat)
    case atStart => exact ⟨0, by omega, rfl, by omega⟩
    case round =>
      obtain ⟨k, hk, rfl, hf⟩ := hrel
      have HF := Lib.hid hf
      clear hf
      by_cases hlt : k < l.length
      · have hcell := HC.out k hlt
        obtain ⟨x, hxe⟩ : ∃ x, x = l.getD k 0 := ⟨_, rfl⟩
        rw [← hxe] at hcell
        have HE := Lib.hid hxe
        clear hxe
        by_cases hx : fin Ieee.single x
        · have HX := Lib.hid hx
          have hxb : decide (fin Ieee.single x) = true := decide_eq_true hx
          clear hx
          go_wp2_with (go_at_call 185; refine (finite_any _ _).mono ?_; rintro e w' ⟨rfl, rfl⟩)
          go_round
          case rel => exact ⟨k + 1, by omega, by go_num, fun j hj => by by_cases c : j = k; (subst c; rw [← HE.out]; exact HX.out); exact HF.out j (by omega)⟩
          case measure => simp [intOf]; omega
        · have hxb : decide (fin Ieee.single x) = false := decide_eq_false hx
          have hfin := Lib.hid (htE_bad <| all_false (p := fun x => fin Ieee.single x) hlt (by rw [← HE.out]; exact hx))
          clear hx
          go_wp2_with (go_at_call 185; refine (finite_any _ _).mono ?_; rintro e w' ⟨rfl, rfl⟩)
          go_ret
          exact ⟨ret_i64 hfin.out.symm, rfl⟩
      · have hke : k = l.length := by omega
        have hall := Lib.hid (all_true (p := fun x => fin Ieee.single x) (l := l) (by rw [← hke]; exact HF.out))
        clear hke HF
        go_wp2
        go_loop [6, 19] (fun _ i => ∃ k : Nat, k ≤ l.length ∧ i = .int .i64 k ∧ ∀ j, j < k → (l.getD j 0) % 2147483648 ≤ 1233125376) (fun _ i => l.length - (intOf i).toNat)
        case atStart => exact ⟨0, by omega, rfl, by omega⟩
        case round =>
          clear hlt hk
          obtain ⟨k, hk, rfl, hf⟩ := hrel
          have HF := Lib.hid hf
          clear hf
          by_cases hlt : k < l.length
          · have hcell := HC.out k hlt
            obtain ⟨x, hxe⟩ : ∃ x, x = l.getD k 0 := ⟨_, rfl⟩
            rw [← hxe] at hcell
            have HE := Lib.hid hxe
            clear hxe
            by_cases hx : x % 2147483648 ≤ 1233125376
            · have HX := Lib.hid hx
              have hxb : decide (x % 2147483648 ≤ 1233125376) = true := decide_eq_true hx
              clear hx
              go_wp2_with (go_at_call 147; refine (height_any _ _).mono ?_; rintro e w' ⟨rfl, rfl⟩)
              go_round
              case rel => exact ⟨k + 1, by omega, by go_num, fun j hj => by by_cases c : j = k; (subst c; rw [← HE.out]; exact HX.out); exact HF.out j (by omega)⟩
              case measure => simp [intOf]; omega
            · have hxb : decide (x % 2147483648 ≤ 1233125376) = false := decide_eq_false hx
              have hfin := Lib.hid (htE_far hall.out <| all_false (p := fun x => x % 2147483648 ≤ 1233125376) hlt (by rw [← HE.out]; exact hx))
              clear hx
              go_wp2_with (go_at_call 147; refine (height_any _ _).mono ?_; rintro e w' ⟨rfl, rfl⟩)
              go_ret
              exact ⟨ret_i64 hfin.out.symm, rfl⟩
          · have hke : k = l.length := by omega
            have hfin := Lib.hid (htE_ok hall.out <| all_true (p := fun x => x % 2147483648 ≤ 1233125376) (l := l) (by rw [← hke]; exact HF.out))
            clear hke
            go_wp2
            go_ret
            exact ⟨ret_i64 hfin.out.symm, rfl⟩

/-! ### the reference's tests -/
theorem and_mag32 (x : Nat) (h : x < 4294967296) : bits .andNot .u32 (x : Int) 2147483648 = ((x % 2147483648 : Nat) : Int) := by
  have := u32_andNot_nat x 2147483648 h (by decide)
  rw [show ((2147483648 : Nat) : Int) = 2147483648 from rfl] at this
  rw [this]
  congr 1
  exact Nat.and_two_pow_sub_one_eq_mod x 31
theorem run_f32from (n : Nat) (w : World) : (callFunc 148 #[.int .u32 (n : Int)]).run Try.prog w = .ok (.value (.float .f32 n)) w := by
  rw [run_callFunc_extern Try.func148 (by kernel_rfl) (by kernel_rfl) (by kernel_rfl) (show _ = some Extern.MathFloatBits.float32frombits by kernel_rfl)]
  rfl
theorem refabs_any (x : Nat) (hx : x < 4294967296) (w : World) : Calls Try.prog 72 #[.float .f32 x] w fun e w' => e = .returned (.float .f32 (x % 2147483648)) ∧ w = w' := by
  have e := and_mag32 x hx
  have ka := fun w => run_f32bits x w
  have kb := fun w => run_f32from (x % 2147483648) w
  generalize x % 2147483648 = y at *
  go_enter Try.func72, Try.ntmps72
  go_wp2
  go_ret
  exact ⟨rfl, rfl⟩

theorem run_f64bits (b : Nat) (w : World) : (callFunc 107 #[.float .f64 b]).run Try.prog w = .ok (.value (.int .u64 b)) w := by
  rw [run_callFunc_extern Try.func107 (by kernel_rfl) (by kernel_rfl) (by kernel_rfl) (show _ = some Extern.MathFloatBits.float64bits by kernel_rfl)]
  rfl
theorem run_f64from (n : Nat) (w : World) : (callFunc 106 #[.int .u64 (n : Int)]).run Try.prog w = .ok (.value (.float .f64 n)) w := by
  rw [run_callFunc_extern Try.func106 (by kernel_rfl) (by kernel_rfl) (by kernel_rfl) (show _ = some Extern.MathFloatBits.float64frombits by kernel_rfl)]
  rfl
theorem mag64 (x : Nat) (h : x < 2 ^ 64) : bits .andNot .u64 (x : Int) 9223372036854775808 = ((dmag x : Nat) : Int) := by
  have := u64_andNot_nat x 9223372036854775808 h (by decide)
  rw [show ((9223372036854775808 : Nat) : Int) = 9223372036854775808 from rfl] at this
  rw [this]
  congr 1
  unfold dmag Ieee.Format.rung
  rw [Ieee.Format.double_sw]
  exact Nat.and_two_pow_sub_one_eq_mod x 63
set_option maxRecDepth 100000 in
theorem mathabs_any (x : Nat) (hx : x < 2 ^ 64) (w : World) : Calls Try.prog 41 #[.float .f64 x] w fun e w' => e = .returned (.float .f64 (dmag x)) ∧ w = w' := by
  have ka := fun w => run_f64bits x w
  have kb := fun w => run_f64from (dmag x) w
  rw [← mag64 x hx] at kb
  clear hx
  generalize dmag x = y at *
  go_enter Try.func41, Try.ntmps41
  go_wp2
  go_ret
  exact ⟨rfl, rfl⟩

theorem isinf_any (x : Nat) (hx : x < 2 ^ 64) (hn : Ieee.double.rung x ≤ Ieee.double.infRung) (w : World) : Calls Try.prog 139 #[.float .f64 x, .int .i64 0] w fun e w' => e = .returned (.bool (decide (Ieee.double.rung x = Ieee.double.infRung))) ∧ w = w' := by
  have ht := Ieee.Format.dinf_test x hn
  rw [← ht]
  change Calls Try.prog 139 #[.float .f64 x, .int .i64 0] w fun e w' => e = .returned (.bool (FloatKind.f64.format.order (dmag x) 9218868437227405311 == some .gt)) ∧ w = w'
  clear ht hn
  have km := fun w => mathabs_any x hx w
  clear hx
  go_enter Try.func139, Try.ntmps139
  go_wp2_with (go_at_call 41; refine (km _).mono ?_; rintro e w' ⟨rfl, rfl⟩)
  go_ret
  exact ⟨rfl, rfl⟩
end Go.Proofs.Ytfmbekdfigbfiaa

namespace Go.Proofs.Ytfmbekdfigbfiaa
open Go.ChangeShapes Go.WideShapes Go.ChangeAt Go.RowKit
open Ieee.Format (fin finE htE allFin allHt all_true all_false finE_ok finE_bad htE_ok htE_far htE_bad dmag heightE heightsE easeF ease1 ease2 ease3 mulF subF addF)
set_option linter.unusedVariables false

/-- how the reference's first test goes at a single -/
theorem finite_ways (x : Nat) : (¬ fin Ieee.single x ∧ (FloatKind.f32.format.order x x != some .eq) = true) ∨
    ((FloatKind.f32.format.order x x != some .eq) = false ∧ ∃ X, (∀ w, (convert /-T-/27 /-T-/86 (.float .f32 x)).run Try.prog w = .ok (.float .f64 X) w) ∧
      (∀ w, Calls Try.prog 139 #[.float .f64 X, .int .i64 0] w fun e w' => e = .returned (.bool (decide (¬ fin Ieee.single x))) ∧ w = w')) := by
  have t := Ieee.Format.is_nan_test x
  by_cases h : 2139095040 < x % 2147483648
  · left
    refine ⟨by rw [Ieee.Format.fin_lit]; omega, ?_⟩
    change (Ieee.single.order x x != some .eq) = true
    rw [t]; exact decide_eq_true h
  · right
    refine ⟨?_, ?_⟩
    · change (Ieee.single.order x x != some .eq) = false
      rw [t]; exact decide_eq_false h
    · obtain ⟨X, a, b, c, d⟩ := Ieee.Format.widen_any (x := x) (by omega)
      refine ⟨X, fun w => run_convert_float_float (P := Try.prog) w 27 86 .f32 .f64 x X (by kernel_rfl) Try.underlying86 a, fun w => ?_⟩
      have := isinf_any X b c w
      rw [show decide (Ieee.double.rung X = Ieee.double.infRung) = decide (¬ fin Ieee.single x) from by rw [Bool.eq_iff_iff, decide_eq_true_iff, decide_eq_true_iff]; exact d] at this
      exact this

theorem mag_gt_ht (x : Nat) (hx : fin Ieee.single x) : (FloatKind.f32.format.order (x % 2147483648) 1233125376 == some .gt) = !decide (x % 2147483648 ≤ 1233125376) := by
  change (Ieee.single.order (x % 2147483648) 1233125376 == some .gt) = _
  have hl : x % 2147483648 < 2147483648 := Nat.mod_lt _ (by decide)
  have e : x % 2147483648 = Ieee.single.word false (x % 2147483648) := rfl
  have hr : Ieee.single.rung (x % 2147483648) = x % 2147483648 := by rw [Ieee.Format.rung_lit]; omega
  have hs : Ieee.single.sgn (x % 2147483648) = false := by
    rw [Ieee.Format.sgn_lit, Nat.div_eq_of_lt hl]; rfl
  rw [Ieee.Format.fin_lit] at hx
  rw [Ieee.Format.mag_gt' Ieee.single Ieee.Format.single_bi hs (by rw [hr, Ieee.Format.single_inf]; omega) (c := 1233125376) (by decide) (by decide), hr, Bool.eq_iff_iff, show Ieee.single.rung 1233125376 = 1233125376 from by decide]
  simp

theorem refheight_any (a : Option Addr) (cap : Nat) (l : List Nat) (w : World) (hl : SRow w a l) :
    Calls Try.prog 62 #[.slice a l.length cap] w fun e w' => e = .returned (.int .i64 (htE l)) ∧ w = w' := by
  obtain ⟨⟨hm, hwf⟩, hl⟩ := hl
  have HWF := Lib.hid hwf
  clear hwf
  rcases hl with rfl | ⟨b, o, rfl, hc⟩
  · go_enter Try.func62, Try.ntmps62
    go_wp2
    refine wp_loop_rounds 1 ?_
    rw [rounds_succ]
    go_wp2
    refine wp_loop_rounds 1 ?_
    rw [rounds_succ]
    go_wp2
    go_ret
    exact ⟨rfl, rfl⟩
  · have HC := Lib.hid hc
    clear hc
    go_enter Try.func62, Try.ntmps62
    go_wp2
    go_loop [4, 9] (fun _ i => ∃ k : Nat, k ≤ l.length ∧ i = .int .i64 k ∧ ∀ j, j < k → fin Ieee.single (l.getD j 0)) (fun _ i => l.length - (intOf i).toNat)
    case atStart => exact ⟨0, by omega, rfl, by omega⟩
    case round =>
      obtain ⟨k, hk, rfl, hf⟩ := hrel
      have HF := Lib.hid hf
      clear hf
      by_cases hlt : k < l.length
      · have hcell := HC.out k hlt
        obtain ⟨x, hxe⟩ : ∃ x, x = l.getD k 0 := ⟨_, rfl⟩
        rw [← hxe] at hcell
        have HE := Lib.hid hxe
        clear hxe
        rcases finite_ways x with ⟨hx, hn⟩ | ⟨hn, X, hcv, hinf⟩
        · have hfin := Lib.hid (htE_bad <| all_false (p := fun x => fin Ieee.single x) hlt (by rw [← HE.out]; exact hx))
          clear hx
          go_wp2
          go_ret
          exact ⟨ret_i64 hfin.out.symm, rfl⟩
        · have HI := Lib.hid hinf
          clear hinf
          by_cases hx : fin Ieee.single x
          · have HX := Lib.hid hx
            have hxb : decide (¬ fin Ieee.single x) = false := decide_eq_false (fun h => h hx)
            rw [hxb] at HI
            clear hx hxb
            go_wp2_with (go_at_call 139; refine (HI.out _).mono ?_; rintro e w' ⟨rfl, rfl⟩)
            go_round
            case rel => exact ⟨k + 1, by omega, by go_num, fun j hj => by by_cases c : j = k; (subst c; rw [← HE.out]; exact HX.out); exact HF.out j (by omega)⟩
            case measure => simp [intOf]; omega
          · have hxb : decide (¬ fin Ieee.single x) = true := decide_eq_true hx
            have hfin := Lib.hid (htE_bad <| all_false (p := fun x => fin Ieee.single x) hlt (by rw [← HE.out]; exact hx))
            rw [hxb] at HI
            clear hx hxb
            go_wp2_with (go_at_call 139; refine (HI.out _).mono ?_; rintro e w' ⟨rfl, rfl⟩)
            go_ret
            exact ⟨ret_i64 hfin.out.symm, rfl⟩
      · have hke : k = l.length := by omega
        have hall0 := HF.out
        rw [hke] at hall0
        have hall := Lib.hid (all_true (p := fun x => fin Ieee.single x) (l := l) hall0)
        have HALL := Lib.hid hall0
        clear hke HF hall0
        go_wp2
        go_loop [6, 24] (fun _ i => ∃ k : Nat, k ≤ l.length ∧ i = .int .i64 k ∧ ∀ j, j < k → (l.getD j 0) % 2147483648 ≤ 1233125376) (fun _ i => l.length - (intOf i).toNat)
        case atStart => exact ⟨0, by omega, rfl, by omega⟩
        case round =>
          clear hlt hk
          obtain ⟨k, hk, rfl, hf⟩ := hrel
          have HF := Lib.hid hf
          clear hf
          by_cases hlt : k < l.length
          · have hcell := HC.out k hlt
            have hxw : l.getD k 0 < 4294967296 := HWF.out _ (by rw [List.getD_eq_getElem?_getD, List.getElem?_eq_getElem hlt]; exact List.getElem_mem hlt)
            have hfx := HALL.out k hlt
            obtain ⟨x, hxe⟩ : ∃ x, x = l.getD k 0 := ⟨_, rfl⟩
            rw [← hxe] at hcell hxw hfx
            have HE := Lib.hid hxe
            clear hxe
            have hg := mag_gt_ht x hfx
            have KA := Lib.hid (fun w => refabs_any x hxw w)
            clear hfx hxw
            by_cases hx : x % 2147483648 ≤ 1233125376
            · have HX : Hid ((l.getD k 0) % 2147483648 ≤ 1233125376) := by rw [← HE.out]; exact hx
              rw [show decide (x % 2147483648 ≤ 1233125376) = true from decide_eq_true hx] at hg
              clear hx
              generalize x % 2147483648 = y at *
              go_wp2_with (go_at_call 72; refine (KA.out _).mono ?_; rintro e w' ⟨rfl, rfl⟩)
              go_round
              case rel => exact ⟨k + 1, by omega, by go_num, fun j hj => by by_cases c : j = k; (subst c; exact HX.out); exact HF.out j (by omega)⟩
              case measure => simp [intOf]; omega
            · rw [show decide (x % 2147483648 ≤ 1233125376) = false from decide_eq_false hx] at hg
              have hfin := Lib.hid (htE_far hall.out <| all_false (p := fun x => x % 2147483648 ≤ 1233125376) hlt (by rw [← HE.out]; exact hx))
              clear hx
              generalize x % 2147483648 = y at *
              go_wp2_with (go_at_call 72; refine (KA.out _).mono ?_; rintro e w' ⟨rfl, rfl⟩)
              go_ret
              exact ⟨ret_i64 hfin.out.symm, rfl⟩
          · have hke : k = l.length := by omega
            have hfin := Lib.hid (htE_ok hall.out <| all_true (p := fun x => x % 2147483648 ≤ 1233125376) (l := l) (by rw [← hke]; exact HF.out))
            clear hke
            go_wp2
            go_ret
            exact ⟨ret_i64 hfin.out.symm, rfl⟩

def outE (l : List Nat) : Int := if htE l = 0 then 0 else 3
theorem out_any (a : Option Addr) (cap : Nat) (l : List Nat) (w : World) (hl : SRow w a l) :
    Calls Try.prog 20 #[.slice a l.length cap] w fun e w' => e = .returned (.int .i64 (outE l)) ∧ w = w' := by
  have K := Lib.hid (fun w (h : SRow w a l) => refheight_any a cap l w h)
  have HL := Lib.hid hl
  clear hl
  have e1 : Hid (outE l = if htE l = 0 then 0 else 3) := rfl
  generalize outE l = r at *
  generalize htE l = c at *
  by_cases hc : c = 0
  · subst hc
    go_enter Try.func20, Try.ntmps20
    go_wp2_with (go_at_call 62; refine (K.out _ HL.out).mono ?_; rintro e w' ⟨rfl, rfl⟩)
    go_ret
    exact ⟨ret_i64 (by rw [e1.out]; rfl), rfl⟩
  · have hb : (c != 0) = true := by rw [bne_iff_ne]; exact hc
    have HC := Lib.hid hc
    clear hc
    go_enter Try.func20, Try.ntmps20
    go_wp2_with (go_at_call 62; refine (K.out _ HL.out).mono ?_; rintro e w' ⟨rfl, rfl⟩)
    go_ret
    exact ⟨ret_i64 (by rw [e1.out, if_neg HC.out]), rfl⟩
end Go.Proofs.Ytfmbekdfigbfiaa
