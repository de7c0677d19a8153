import Derived.Test.YtgeeaegnohdejaaBase
import Derived.Test.YtgeeaegnohdejaaFloatF
import Derived.WalkSmall
import Derived.Deep.Draws
namespace Go.Proofs.Ytgeeaegnohdejaa
open Go.ChangeShapes Go.WideShapes Go.ChangeAt Go.RowKit
open Ieee.Format (fin heightE heightsE easeF ease1 ease2 ease3 mulF subF addF)
set_option linter.unusedVariables false

/-! ### what an operation on any floats gives: some float; a draw may have been made -/
theorem conv_some {P : Program} (src dst : TypeId) (s k : FloatKind) (b : Nat) (w : World) (hs : (P.underlying src).isSome = true) (hd : P.underlying dst = some (.float k)) :
    ∃ r n, (convert src dst (.float s b)).run P w = .ok (.float k r) (w.drewN n) := by
  obtain ⟨u, hs'⟩ := Option.isSome_iff_exists.1 hs
  have e : (convert src dst (.float s b)).run P w = (Conv.floatToFloat s b k).run P w := by
    cases u <;> simp [convert, run_underlying hs', run_underlying hd]
  rw [e]
  unfold Conv.floatToFloat
  split
  · exact ⟨b, 0, rfl⟩
  · split
    · exact ⟨_, 1, rfl⟩
    · exact ⟨_, 0, rfl⟩
    · dsimp only
      split
      · exact ⟨_, 1, rfl⟩
      · exact ⟨_, 0, rfl⟩
theorem arith_some {P : Program} (op : BinOp) (hop : op = .add ∨ op = .sub ∨ op = .mul ∨ op = .quo) (t : TypeId) (k : FloatKind) (x y : Nat) (w : World) :
    ∃ r n, (binOp op t (.float k x) (.float k y)).run P w = .ok (.float k r) (w.drewN n) := by
  rcases hop with rfl | rfl | rfl | rfl
  · cases hh : k.format.add x y with
    | some r => exact ⟨r, 0, by simp [binOp, Op.floatArith, hh]; rfl⟩
    | none => exact ⟨(Question.nanBits k x y).cut (w.tape w.drawn (.nanBits k x y)), 1, by simp [binOp, Op.floatArith, hh, Question.forced]; rfl⟩
  · cases hh : k.format.sub x y with
    | some r => exact ⟨r, 0, by simp [binOp, Op.floatArith, hh]; rfl⟩
    | none => exact ⟨(Question.nanBits k x y).cut (w.tape w.drawn (.nanBits k x y)), 1, by simp [binOp, Op.floatArith, hh, Question.forced]; rfl⟩
  · cases hh : k.format.mul x y with
    | some r => exact ⟨r, 0, by simp [binOp, Op.floatArith, hh]; rfl⟩
    | none => exact ⟨(Question.nanBits k x y).cut (w.tape w.drawn (.nanBits k x y)), 1, by simp [binOp, Op.floatArith, hh, Question.forced]; rfl⟩
  · cases hh : k.format.div x y with
    | some r => exact ⟨r, 0, by simp [binOp, Op.floatArith, hh]; rfl⟩
    | none => exact ⟨(Question.nanBits k x y).cut (w.tape w.drawn (.nanBits k x y)), 1, by simp [binOp, Op.floatArith, hh, Question.forced]; rfl⟩

/-- some single; nothing in memory has turned -/
def SomeF (w : World) (e : Ending) (w' : World) : Prop := ∃ r n, e = .returned (.float .f32 r) ∧ w' = w.drewN n

theorem ref_mul_some (x y : Nat) (w : World) : Calls Try.prog 77 #[.float .f32 x, .float .f32 y] w fun e w' => SomeF w e w' := by
  obtain ⟨X, n1, h1⟩ := conv_some (P := Try.prog) /-T-/24 /-T-/105 .f32 .f64 x w (by kernel_rfl) Try.underlying105
  obtain ⟨Y, n2, h2⟩ := conv_some (P := Try.prog) /-T-/24 /-T-/105 .f32 .f64 y (w.drewN n1) (by kernel_rfl) Try.underlying105
  obtain ⟨Z, n3, h3⟩ := arith_some (P := Try.prog) .mul (by simp) /-T-/105 .f64 X Y ((w.drewN n1).drewN n2)
  obtain ⟨r, n4, h4⟩ := conv_some (P := Try.prog) /-T-/105 /-T-/24 .f64 .f32 Z (((w.drewN n1).drewN n2).drewN n3) (by kernel_rfl) Try.underlying24
  generalize hw1 : w.drewN n1 = w1 at *
  generalize hw2 : w1.drewN n2 = w2 at *
  generalize hw3 : w2.drewN n3 = w3 at *
  generalize hw4 : w3.drewN n4 = w4 at *
  have H : Hid (w4 = w.drewN (n1 + n2 + n3 + n4)) := by
    subst hw1 hw2 hw3 hw4; unfold World.drewN; simp [Hid, Nat.add_assoc]
  clear hw1 hw2 hw3 hw4
  go_enter Try.func77, Try.ntmps77
  go_wp2
  go_ret
  exact ⟨r, _, rfl, H.out⟩

theorem ref_sub_some (x y : Nat) (w : World) : Calls Try.prog 79 #[.float .f32 x, .float .f32 y] w fun e w' => SomeF w e w' := by
  obtain ⟨X, n1, h1⟩ := conv_some (P := Try.prog) /-T-/24 /-T-/105 .f32 .f64 x w (by kernel_rfl) Try.underlying105
  obtain ⟨Y, n2, h2⟩ := conv_some (P := Try.prog) /-T-/24 /-T-/105 .f32 .f64 y (w.drewN n1) (by kernel_rfl) Try.underlying105
  obtain ⟨Z, n3, h3⟩ := arith_some (P := Try.prog) .sub (by simp) /-T-/105 .f64 X Y ((w.drewN n1).drewN n2)
  obtain ⟨r, n4, h4⟩ := conv_some (P := Try.prog) /-T-/105 /-T-/24 .f64 .f32 Z (((w.drewN n1).drewN n2).drewN n3) (by kernel_rfl) Try.underlying24
  generalize hw1 : w.drewN n1 = w1 at *
  generalize hw2 : w1.drewN n2 = w2 at *
  generalize hw3 : w2.drewN n3 = w3 at *
  generalize hw4 : w3.drewN n4 = w4 at *
  have H : Hid (w4 = w.drewN (n1 + n2 + n3 + n4)) := by
    subst hw1 hw2 hw3 hw4; unfold World.drewN; simp [Hid, Nat.add_assoc]
  clear hw1 hw2 hw3 hw4
  go_enter Try.func79, Try.ntmps79
  go_wp2
  go_ret
  exact ⟨r, _, rfl, H.out⟩

/-! ### what is finite, what is a height -/
theorem finite_any (x : Nat) (w : World) : Calls Try.prog 151 #[.float .f32 x] w fun e w' => e = .returned (.bool (decide (fin Ieee.single x))) ∧ w = w' := by
  have ht := Ieee.Format.finite_test x
  rw [← ht]
  change Calls Try.prog 151 #[.float .f32 x] w fun e w' => e = .returned (.bool ((FloatKind.f32.format.order x 4286578687 == some .gt || FloatKind.f32.format.order x 4286578687 == some .eq) && (FloatKind.f32.format.order x 2139095039 == some .lt || FloatKind.f32.format.order x 2139095039 == some .eq))) ∧ w = w'
  clear ht
  rcases Bool.eq_false_or_eq_true (FloatKind.f32.format.order x 4286578687 == some .gt || FloatKind.f32.format.order x 4286578687 == some .eq) with h | h
  all_goals
    go_enter Try.func151, Try.ntmps151
    go_wp2
    go_ret
    exact ⟨by simp [h], rfl⟩
end Go.Proofs.Ytgeeaegnohdejaa
