import Derived.Test.YtkmcinibaffpmaaThermOp
import Derived.Deep.RegionHeld3
namespace Go.Proofs.Ytkmcinibaffpmaa
open Go.ChangeShapes Go.WideShapes Go.ChangeAt Go.RowKit
open Ieee.Format (fin finE htE allFin allHt all_true all_false mulF subF addF Ht Bd divF rootF floorF easeF mixF)
set_option linter.unusedVariables false

theorem one_same (a : Nat) (c : Int) (h : c ≠ 0 → a = 0) (w : World) : Calls Try.prog 17 #[.float .f32 a, .int .i64 c, .float .f32 a, .int .i64 c] w fun e w' => e = .returned (.bool true) ∧ w = w' := by
  by_cases hc : c = 0
  · subst hc
    have := one_ok a a w
    rw [decide_eq_true rfl] at this
    exact this
  · have := one_err a a c hc w
    rw [decide_eq_true (h hc)] at this
    exact this

theorem therm_world (w : World) (T R : Nat) (n X Y A B : Int) (v : Value) : ∀ W0, W0 = (w.alloc (.cells #[.float .f32 T, .float .f32 R, .int .i64 n] 62)).alloc (.cells #[.int .i64 X, .int .i64 Y, .int .i64 A, .int .i64 B, v] 26) →
    WearAt W0 w.heap.size T R n ∧ Fld W0 (w.heap.size + 1) X Y A B v ∧ Below w.heap.size w W0 := by
  rintro _ rfl
  refine ⟨(Blk.new w _ _).alloc _, ?_, (by repeat (first | with_reducible exact Below.refl _ _ | with_reducible apply Below.drew | with_reducible refine below_drewN ?_ _ | (with_reducible refine Below.setCell ?_ ?_ _; rotate_left; focus (first | omega | (simp <;> omega))) | (with_reducible refine Below.alloc ?_ ?_ _; rotate_left; focus (first | omega | (simp <;> omega)))))⟩
  have := Fld.new (w.alloc (.cells #[.float .f32 T, .float .f32 R, .int .i64 n] 62)) X Y A B v
  simpa using this

end Go.Proofs.Ytkmcinibaffpmaa
