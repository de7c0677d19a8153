import Derived.Test.YtfmbekdfigbfiaaM2
import Derived.WalkSmall
import Derived.RegionTactic
import Derived.ChangeAlike
import Derived.BigRegion
import Derived.Deep.Cut
import Derived.Laws.StructEq
namespace Go.Proofs.Ytfmbekdfigbfiaa
open Go.ChangeShapes Go.WideShapes Go.ChangeAt Go.RowKit
def chk (X Y W H : Int) : Int :=
  if W < 1 ∨ 512 < W ∨ H < 1 ∨ 512 < H then 3 else if 65536 < W * H then 4
  else if X < -4194304 ∨ Y < -4194304 ∨ 4194304 - W < X ∨ 4194304 - H < Y then 5 else 0

theorem side_mul {W H : Int} (h1 : 1 ≤ W) (h2 : W ≤ 512) (h3 : 1 ≤ H) (h4 : H ≤ 512) : wrap64 (W * H) = W * H ∧ wrap64 (4194304 - H) = 4194304 - H := by
  have a := Int.mul_le_mul h2 h4 (by omega) (by omega)
  have b := Int.mul_le_mul h1 h3 (by omega) (by omega)
  unfold wrap64
  omega

abbrev reg (X Y W H : Int) : Value := .agg #[.int .i64 X, .int .i64 Y, .int .i64 W, .int .i64 H]

theorem check1 (X Y W H : Int) (w : World) : Calls Try.prog 54 #[reg X Y W H] w fun e w' => e = .returned (.int .i64 (chk X Y W H)) ∧ Below w.heap.size w w' := by
  go_enter Try.func54, Try.ntmps54
  go_wp2
  all_goals
    go_ret
    refine ⟨ret_i64 ?_, (by repeat (first | with_reducible exact Below.refl _ _ | with_reducible apply Below.drew | with_reducible refine below_drewN ?_ _ | (with_reducible refine Below.setCell ?_ ?_ _; rotate_left; focus (simp <;> omega)) | (with_reducible refine Below.alloc ?_ ?_ _; rotate_left; focus (simp <;> omega))))⟩
    have sm := @side_mul W H
    show _ = chk X Y W H
    unfold chk; revert sm; grind

theorem check2 (X Y W H : Int) (w : World) : Calls Try.prog 47 #[reg X Y W H] w fun e w' => e = .returned (.int .i64 (chk X Y W H)) ∧ Below w.heap.size w w' := by
  go_enter Try.func47, Try.ntmps47
  go_wp2
  all_goals
    go_ret
    refine ⟨ret_i64 ?_, (by repeat (first | with_reducible exact Below.refl _ _ | with_reducible apply Below.drew | with_reducible refine below_drewN ?_ _ | (with_reducible refine Below.setCell ?_ ?_ _; rotate_left; focus (simp <;> omega)) | (with_reducible refine Below.alloc ?_ ?_ _; rotate_left; focus (simp <;> omega))))⟩
    have sm := @side_mul W H
    show _ = chk X Y W H
    unfold chk; revert sm; grind

theorem chk_zero {X Y W H : Int} (h : chk X Y W H = 0) : 1 ≤ W ∧ W ≤ 512 ∧ 1 ≤ H ∧ H ≤ 512 ∧ -4194304 ≤ X ∧ -4194304 ≤ Y ∧ X ≤ 4194304 - W ∧ Y ≤ 4194304 - H ∧ W * H ≤ 65536 := by
  unfold chk at h; split at h
  · omega
  · split at h
    · omega
    · split at h <;> omega

/-- what Grow returns -/
def growE (X Y W H n : Int) : Int := if chk X Y W H ≠ 0 then chk X Y W H else if n < -512 ∨ 512 < n then 3 else chk (X - n) (Y - n) (W + 2 * n) (H + 2 * n)
def growR (X Y W H n : Int) : Value := if growE X Y W H n = 0 then reg (X - n) (Y - n) (W + 2 * n) (H + 2 * n) else reg 0 0 0 0

theorem grow_a {X Y W H n : Int} (h : chk X Y W H ≠ 0) : growE X Y W H n = chk X Y W H ∧ growR X Y W H n = reg 0 0 0 0 := by
  unfold growR growE; rw [if_pos h, if_neg h]; exact ⟨rfl, rfl⟩
theorem grow_b {X Y W H n : Int} (h : chk X Y W H = 0) (hn : n < -512 ∨ 512 < n) : growE X Y W H n = 3 ∧ growR X Y W H n = reg 0 0 0 0 := by
  unfold growR growE; rw [if_neg (by simpa using h), if_pos hn]; exact ⟨rfl, rfl⟩
theorem grow_c {X Y W H n : Int} (h : chk X Y W H = 0) (hn : ¬ (n < -512 ∨ 512 < n)) (h2 : chk (X - n) (Y - n) (W + 2 * n) (H + 2 * n) ≠ 0) : growE X Y W H n = chk (X - n) (Y - n) (W + 2 * n) (H + 2 * n) ∧ growR X Y W H n = reg 0 0 0 0 := by
  unfold growR growE; rw [if_neg (by simpa using h), if_neg hn, if_neg h2]; exact ⟨rfl, rfl⟩
theorem grow_d {X Y W H n : Int} (h : chk X Y W H = 0) (hn : ¬ (n < -512 ∨ 512 < n)) (h2 : chk (X - n) (Y - n) (W + 2 * n) (H + 2 * n) = 0) : growE X Y W H n = 0 ∧ growR X Y W H n = reg (X - n) (Y - n) (W + 2 * n) (H + 2 * n) := by
  unfold growR growE; rw [if_neg (by simpa using h), if_neg hn, if_pos h2]; exact ⟨h2, rfl⟩

theorem ret_grow {r r' : Value} {a b : Int} (h : r = r') (h' : a = b) : Ending.returned (.tuple #[r, .int .i64 a]) = .returned (.tuple #[r', .int .i64 b]) := by rw [h, h']

end Go.Proofs.Ytfmbekdfigbfiaa

namespace Go.Proofs.Ytfmbekdfigbfiaa
open Go.ChangeShapes Go.WideShapes Go.ChangeAt Go.RowKit
theorem grown_any (X Y W H n : Int) (w : World) (z1 : 1 ≤ W) (z2 : W ≤ 512) (z3 : 1 ≤ H) (z4 : H ≤ 512) (z5 : -4194304 ≤ X) (z6 : -4194304 ≤ Y) (z7 : X ≤ 4194304) (z8 : Y ≤ 4194304) (b1 : -512 ≤ n) (b2 : n ≤ 512) :
    Calls Try.prog 90 #[reg X Y W H, .int .i64 n] w fun e w' => e = .returned (reg (X - n) (Y - n) (W + 2 * n) (H + 2 * n)) ∧ Below w.heap.size w w' := by
  go_enter Try.func90, Try.ntmps90
  go_wp2
  exact bodyPost_ret (v := reg (X - n) (Y - n) (W + 2 * n) (H + 2 * n)) (by simp [results, Try.results90, go_sem, *]) rfl ⟨rfl, (by repeat (first | with_reducible exact Below.refl _ _ | with_reducible apply Below.drew | with_reducible refine below_drewN ?_ _ | (with_reducible refine Below.setCell ?_ ?_ _; rotate_left; focus (simp <;> omega)) | (with_reducible refine Below.alloc ?_ ?_ _; rotate_left; focus (simp <;> omega))))⟩

end Go.Proofs.Ytfmbekdfigbfiaa

namespace Go.Proofs.Ytfmbekdfigbfiaa
open Go.ChangeShapes Go.WideShapes Go.ChangeAt Go.RowKit
set_option linter.unusedVariables false
def insB (a b c d e f g h : Int) : Bool := decide (e ≤ a ∧ f ≤ b ∧ a + c ≤ e + g ∧ b + d ≤ f + h)
theorem inside2 (a b c d e f g h : Int) (w : World) (h1 : -1073741824 ≤ a) (h1' : a ≤ 1073741824) (h2 : -1073741824 ≤ b) (h2' : b ≤ 1073741824) (h3 : 1 ≤ c) (h3' : c ≤ 1073741824) (h4 : 1 ≤ d) (h4' : d ≤ 1073741824)
    (k1 : -1073741824 ≤ e) (k1' : e ≤ 1073741824) (k2 : -1073741824 ≤ f) (k2' : f ≤ 1073741824) (k3 : 1 ≤ g) (k3' : g ≤ 1073741824) (k4 : 1 ≤ h) (k4' : h ≤ 1073741824) :
    Calls Try.prog 36 #[reg a b c d, reg e f g h] w fun e' w' => e' = .returned (.bool (insB a b c d e f g h)) ∧ Below w.heap.size w w' := by
  go_enter Try.func36, Try.ntmps36
  go_wp2
  all_goals
    go_ret
    refine ⟨ret_bool ?_, (by repeat (first | with_reducible exact Below.refl _ _ | with_reducible apply Below.drew | with_reducible refine below_drewN ?_ _ | (with_reducible refine Below.setCell ?_ ?_ _; rotate_left; focus (simp <;> omega)) | (with_reducible refine Below.alloc ?_ ?_ _; rotate_left; focus (simp <;> omega))))⟩
    show _ = insB a b c d e f g h
    unfold insB; grind


def mn (a b : Int) : Int := if b < a then b else a
def mx (a b : Int) : Int := if a < b then b else a
def cmOk (a b c d e f g h : Int) : Bool := decide (1 ≤ mn (a + c) (e + g) - mx a e ∧ 1 ≤ mn (b + d) (f + h) - mx b f)
def cmR (a b c d e f g h : Int) : Value := if cmOk a b c d e f g h then reg (mx a e) (mx b f) (mn (a + c) (e + g) - mx a e) (mn (b + d) (f + h) - mx b f) else reg 0 0 0 0

theorem cm_parts {a b c d e f g h x y p q : Int} (hx : mx a e = x) (hy : mx b f = y) (hp : mn (a + c) (e + g) - x = p) (hq : mn (b + d) (f + h) - y = q) :
    (1 ≤ p ∧ 1 ≤ q → cmOk a b c d e f g h = true ∧ cmR a b c d e f g h = reg x y p q) ∧ (¬ (1 ≤ p ∧ 1 ≤ q) → cmOk a b c d e f g h = false ∧ cmR a b c d e f g h = reg 0 0 0 0) := by
  subst hx hy hp hq
  constructor
  · intro hh
    have : cmOk a b c d e f g h = true := by unfold cmOk; exact decide_eq_true hh
    unfold cmR; rw [this]; exact ⟨rfl, rfl⟩
  · intro hh
    have : cmOk a b c d e f g h = false := by unfold cmOk; exact decide_eq_false hh
    unfold cmR; rw [this]; exact ⟨rfl, rfl⟩

theorem ret_common {r r' : Value} {a b : Bool} (h : r = r') (h' : a = b) : Ending.returned (.tuple #[r, .bool a]) = .returned (.tuple #[r', .bool b]) := by rw [h, h']

end Go.Proofs.Ytfmbekdfigbfiaa

namespace Go.Proofs.Ytfmbekdfigbfiaa
open Go.ChangeShapes Go.WideShapes Go.ChangeAt Go.RowKit
set_option linter.unusedVariables false
set_option maxHeartbeats 1000000 in
theorem common2 (a b c d e f g h : Int) (w : World) (h1 : -1073741824 ≤ a) (h1' : a ≤ 1073741824) (h2 : -1073741824 ≤ b) (h2' : b ≤ 1073741824) (h3 : 1 ≤ c) (h3' : c ≤ 1073741824) (h4 : 1 ≤ d) (h4' : d ≤ 1073741824)
    (k1 : -1073741824 ≤ e) (k1' : e ≤ 1073741824) (k2 : -1073741824 ≤ f) (k2' : f ≤ 1073741824) (k3 : 1 ≤ g) (k3' : g ≤ 1073741824) (k4 : 1 ≤ h) (k4' : h ≤ 1073741824) :
    Calls Try.prog 50 #[reg a b c d, reg e f g h] w fun e' w' => e' = .returned (.tuple #[cmR a b c d e f g h, .bool (cmOk a b c d e f g h)]) ∧ Below w.heap.size w w' := by
  go_enter Try.func50, Try.ntmps50
  go_wp2
  go_quiet (fail)
  have q1 : (if a < e then e else a) = mx a e := rfl
  have q2 : (if b < f then f else b) = mx b f := rfl
  rw [q1, q2]
  clear q1 q2
  obtain ⟨m1, m2⟩ : -1073741824 ≤ mx a e ∧ mx a e ≤ 1073741824 := by unfold mx; split <;> omega
  obtain ⟨m3, m4⟩ : -1073741824 ≤ mx b f ∧ mx b f ≤ 1073741824 := by unfold mx; split <;> omega
  generalize hx : mx a e = x at *
  generalize hy : mx b f = y at *
  have Hx := Lib.hid hx; clear hx
  have Hy := Lib.hid hy; clear hy
  go_upto_region 3 with (fail)
  have q1 : (if e + g < a + c then e + g else a + c) = mn (a + c) (e + g) := rfl
  have q2 : (if f + h < b + d then f + h else b + d) = mn (b + d) (f + h) := rfl
  rw [q1, q2]
  clear q1 q2
  generalize hp : mn (a + c) (e + g) - x = p at *
  generalize hq : mn (b + d) (f + h) - y = q at *
  have Hp := Lib.hid hp; clear hp
  have Hq := Lib.hid hq; clear hq
  have PT := Lib.hid (cm_parts Hx.out Hy.out Hp.out Hq.out)
  clear Hx Hy Hp Hq
  by_cases cp : p < 1
  · go_wp2
    exact bodyPost_ret (v := .tuple #[reg 0 0 0 0, .bool false]) (by simp [results, Try.results50, go_sem]) rfl ⟨(by obtain ⟨e1, e2⟩ := PT.out.2 (by omega); rw [e1, e2]), (by repeat (first | with_reducible exact Below.refl _ _ | with_reducible apply Below.drew | with_reducible refine below_drewN ?_ _ | (with_reducible refine Below.setCell ?_ ?_ _; rotate_left; focus (simp <;> omega)) | (with_reducible refine Below.alloc ?_ ?_ _; rotate_left; focus (simp <;> omega))))⟩
  · have cp' : 1 ≤ p := by omega
    by_cases cq : q < 1
    · go_wp2
      exact bodyPost_ret (v := .tuple #[reg 0 0 0 0, .bool false]) (by simp [results, Try.results50, go_sem]) rfl ⟨(by obtain ⟨e1, e2⟩ := PT.out.2 (by omega); rw [e1, e2]), (by repeat (first | with_reducible exact Below.refl _ _ | with_reducible apply Below.drew | with_reducible refine below_drewN ?_ _ | (with_reducible refine Below.setCell ?_ ?_ _; rotate_left; focus (simp <;> omega)) | (with_reducible refine Below.alloc ?_ ?_ _; rotate_left; focus (simp <;> omega))))⟩
    · have cq' : 1 ≤ q := by omega
      go_wp2
      exact bodyPost_ret (v := .tuple #[reg x y p q, .bool true]) (by simp [results, Try.results50, go_sem]) rfl ⟨(by obtain ⟨e1, e2⟩ := PT.out.1 (by omega); rw [e1, e2]), (by repeat (first | with_reducible exact Below.refl _ _ | with_reducible apply Below.drew | with_reducible refine below_drewN ?_ _ | (with_reducible refine Below.setCell ?_ ?_ _; rotate_left; focus (simp <;> omega)) | (with_reducible refine Below.alloc ?_ ?_ _; rotate_left; focus (simp <;> omega))))⟩


def smallB (a b c d : Int) : Bool := decide (1 ≤ c ∧ c ≤ 1073741824 ∧ 1 ≤ d ∧ d ≤ 1073741824 ∧ -1073741824 ≤ a ∧ -1073741824 ≤ b ∧ a ≤ 1073741824 ∧ b ≤ 1073741824)

end Go.Proofs.Ytfmbekdfigbfiaa

namespace Go.Proofs.Ytfmbekdfigbfiaa
open Go.ChangeShapes Go.WideShapes Go.ChangeAt Go.RowKit
set_option linter.unusedVariables false
theorem eqReg (a b c d a' b' c' d' : Int) (w : World) : (Op.equalIn 10000 23 (reg a b c d) (reg a' b' c' d')).run Try.prog w = .ok (a == a' && b == b' && c == c' && d == d') w := by
  have u3 := Try.underlying3
  have a3 := Try.isAgg3
  have z3 := Try.sizeOf3
  have hS : Try.prog.underlying 23 = some (.struct (Try.prog.fieldsOf 23)) := by kernel_rfl
  have hp : Try.prog.stoodInHeld 23 = false := by kernel_rfl
  rw [show (10000 : Nat) = 9999 + 1 from rfl, run_equalIn_agg w 9999 23 _ _ hS hp]
  simp only [Program.fieldsOf, Try.underlying23]
  go_simp
  by_cases h1 : a = a' <;> by_cases h2 : b = b' <;> by_cases h3 : c = c' <;> by_cases h4 : d = d' <;> simp [h1, h2, h3, h4]
theorem guard30 : Try.prog.eqGuardType Try.prog.depth 23 = false := by kernel_rfl
theorem eqGuardReg (op : BinOp) (x y : Operand) (a b c d a' b' c' d' : Int) (w : World) : (eqGuard op 23 x y (reg a b c d) (reg a' b' c' d')).run Try.prog w = .ok () w := run_eqGuard_agg w op 23 x y _ _ guard30
theorem eqlReg (a b c d a' b' c' d' : Int) (w : World) : (binOp .eql 23 (reg a b c d) (reg a' b' c' d')).run Try.prog w = .ok (.bool (a == a' && b == b' && c == c' && d == d')) w := by
  rw [run_eql_struct, eqReg]; rfl
theorem neqReg (a b c d a' b' c' d' : Int) (w : World) : (binOp .neq 23 (reg a b c d) (reg a' b' c' d')).run Try.prog w = .ok (.bool (!(a == a' && b == b' && c == c' && d == d'))) w := by
  rw [run_neq_struct, eqReg]; rfl
end Go.Proofs.Ytfmbekdfigbfiaa
