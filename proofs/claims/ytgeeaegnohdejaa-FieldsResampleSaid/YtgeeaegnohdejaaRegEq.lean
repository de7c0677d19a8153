import Derived.Test.YtgeeaegnohdejaaRegA
import Derived.Laws.StructEq
namespace Go.Proofs.Ytgeeaegnohdejaa
open Go.ChangeShapes Go.WideShapes Go.ChangeAt Go.RowKit
set_option linter.unusedVariables false
theorem eqReg (a b c d a' b' c' d' : Int) (w : World) : (Op.equalIn 10000 30 (reg a b c d) (reg a' b' c' d')).run Try.prog w = .ok (a == a' && b == b' && c == c' && d == d') w := by
  have u3 := Try.underlying3
  have a3 := Try.isAgg3
  have z3 := Try.sizeOf3
  have hS : Try.prog.underlying 30 = some (.struct (Try.prog.fieldsOf 30)) := by kernel_rfl
  have hp : Try.prog.stoodInHeld 30 = false := by kernel_rfl
  rw [show (10000 : Nat) = 9999 + 1 from rfl, run_equalIn_agg w 9999 30 _ _ hS hp]
  simp only [Program.fieldsOf, Try.underlying30]
  go_simp
  by_cases h1 : a = a' <;> by_cases h2 : b = b' <;> by_cases h3 : c = c' <;> by_cases h4 : d = d' <;> simp [h1, h2, h3, h4]
theorem guard30 : Try.prog.eqGuardType Try.prog.depth 30 = false := by kernel_rfl
theorem eqGuardReg (op : BinOp) (x y : Operand) (a b c d a' b' c' d' : Int) (w : World) : (eqGuard op 30 x y (reg a b c d) (reg a' b' c' d')).run Try.prog w = .ok () w := run_eqGuard_agg w op 30 x y _ _ guard30
theorem eqlReg (a b c d a' b' c' d' : Int) (w : World) : (binOp .eql 30 (reg a b c d) (reg a' b' c' d')).run Try.prog w = .ok (.bool (a == a' && b == b' && c == c' && d == d')) w := by
  rw [run_eql_struct, eqReg]; rfl
theorem neqReg (a b c d a' b' c' d' : Int) (w : World) : (binOp .neq 30 (reg a b c d) (reg a' b' c' d')).run Try.prog w = .ok (.bool (!(a == a' && b == b' && c == c' && d == d'))) w := by
  rw [run_neq_struct, eqReg]; rfl
end Go.Proofs.Ytgeeaegnohdejaa
