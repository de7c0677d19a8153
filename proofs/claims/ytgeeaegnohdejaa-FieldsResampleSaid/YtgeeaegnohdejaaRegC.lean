import Derived.Test.YtgeeaegnohdejaaRegB
import Derived.RegionTactic
import Derived.ChangeAlike
import Derived.BigRegion
import Derived.WalkSmall
namespace Go.Proofs.Ytgeeaegnohdejaa
open Go.ChangeShapes Go.WideShapes Go.ChangeAt Go.RowKit
set_option linter.unusedVariables false
def insB (a b c d e f g h : Int) : Bool := decide (e ≤ a ∧ f ≤ b ∧ a + c ≤ e + g ∧ b + d ≤ f + h)
theorem ret_bool {a b : Bool} (h : a = b) : Ending.returned (.bool a) = .returned (.bool b) := by rw [h]

theorem inside1 (a b c d e f g h : Int) (w : World) (h1 : -1073741824 ≤ a) (h1' : a ≤ 1073741824) (h2 : -1073741824 ≤ b) (h2' : b ≤ 1073741824) (h3 : 1 ≤ c) (h3' : c ≤ 1073741824) (h4 : 1 ≤ d) (h4' : d ≤ 1073741824)
    (k1 : -1073741824 ≤ e) (k1' : e ≤ 1073741824) (k2 : -1073741824 ≤ f) (k2' : f ≤ 1073741824) (k3 : 1 ≤ g) (k3' : g ≤ 1073741824) (k4 : 1 ≤ h) (k4' : h ≤ 1073741824) :
    Calls Try.prog 30 #[reg a b c d, reg e f g h] w fun e' w' => e' = .returned (.bool (insB a b c d e f g h)) ∧ Below w.heap.size w w' := by
  go_enter Try.func30, Try.ntmps30
  go_wp2
  all_goals
    go_ret
    refine ⟨ret_bool ?_, (by repeat (first | with_reducible exact Below.refl _ _ | with_reducible apply Below.drew | with_reducible refine below_drewN ?_ _ | (with_reducible refine Below.setCell ?_ ?_ _; rotate_left; focus (simp <;> omega)) | (with_reducible refine Below.alloc ?_ ?_ _; rotate_left; focus (simp <;> omega))))⟩
    show _ = insB a b c d e f g h
    unfold insB; grind

theorem inside2 (a b c d e f g h : Int) (w : World) (h1 : -1073741824 ≤ a) (h1' : a ≤ 1073741824) (h2 : -1073741824 ≤ b) (h2' : b ≤ 1073741824) (h3 : 1 ≤ c) (h3' : c ≤ 1073741824) (h4 : 1 ≤ d) (h4' : d ≤ 1073741824)
    (k1 : -1073741824 ≤ e) (k1' : e ≤ 1073741824) (k2 : -1073741824 ≤ f) (k2' : f ≤ 1073741824) (k3 : 1 ≤ g) (k3' : g ≤ 1073741824) (k4 : 1 ≤ h) (k4' : h ≤ 1073741824) :
    Calls Try.prog 31 #[reg a b c d, reg e f g h] w fun e' w' => e' = .returned (.bool (insB a b c d e f g h)) ∧ Below w.heap.size w w' := by
  go_enter Try.func31, Try.ntmps31
  go_wp2
  all_goals
    go_ret
    refine ⟨ret_bool ?_, (by repeat (first | with_reducible exact Below.refl _ _ | with_reducible apply Below.drew | with_reducible refine below_drewN ?_ _ | (with_reducible refine Below.setCell ?_ ?_ _; rotate_left; focus (simp <;> omega)) | (with_reducible refine Below.alloc ?_ ?_ _; rotate_left; focus (simp <;> omega))))⟩
    show _ = insB a b c d e f g h
    unfold insB; grind


def mn (a b : Int) : Int := if b < a then b else a
def mx (a b : Int) : Int := if a < b then b else a
def cmOk (a b c d e f g h : Int) : Bool := decide (1 ≤ mn (a + c) (e + g) - mx a e ∧ 1 ≤ mn (b + d) (f + h) - mx b f)
def cmR (a b c d e f g h : Int) : Value := if cmOk a b c d e f g h then reg (mx a e) (mx b f) (mn (a + c) (e + g) - mx a e) (mn (b + d) (f + h) - mx b f) else reg 0 0 0 0

theorem cm_parts {a b c d e f g h x y p q : Int} (hx : mx a e = x) (hy : mx b f = y) (hp : mn (a + c) (e + g) - x = p) (hq : mn (b + d) (f + h) - y = q) :
    (1 ≤ p ∧ 1 ≤ q → cmOk a b c d e f g h = true ∧ cmR a b c d e f g h = reg x y p q) ∧ (¬ (1 ≤ p ∧ 1 ≤ q) → cmOk a b c d e f g h = false ∧ cmR a b c d e f g h = reg 0 0 0 0) := by
  subst hx hy hp hq
  constructor
  · intro hh
    have : cmOk a b c d e f g h = true := by unfold cmOk; exact decide_eq_true hh
    unfold cmR; rw [this]; exact ⟨rfl, rfl⟩
  · intro hh
    have : cmOk a b c d e f g h = false := by unfold cmOk; exact decide_eq_false hh
    unfold cmR; rw [this]; exact ⟨rfl, rfl⟩

theorem ret_common {r r' : Value} {a b : Bool} (h : r = r') (h' : a = b) : Ending.returned (.tuple #[r, .bool a]) = .returned (.tuple #[r', .bool b]) := by rw [h, h']

set_option maxHeartbeats 1000000 in
theorem common1 (a b c d e f g h : Int) (w : World) (h1 : -1073741824 ≤ a) (h1' : a ≤ 1073741824) (h2 : -1073741824 ≤ b) (h2' : b ≤ 1073741824) (h3 : 1 ≤ c) (h3' : c ≤ 1073741824) (h4 : 1 ≤ d) (h4' : d ≤ 1073741824)
    (k1 : -1073741824 ≤ e) (k1' : e ≤ 1073741824) (k2 : -1073741824 ≤ f) (k2' : f ≤ 1073741824) (k3 : 1 ≤ g) (k3' : g ≤ 1073741824) (k4 : 1 ≤ h) (k4' : h ≤ 1073741824) :
    Calls Try.prog 28 #[reg a b c d, reg e f g h] w fun e' w' => e' = .returned (.tuple #[cmR a b c d e f g h, .bool (cmOk a b c d e f g h)]) ∧ Below w.heap.size w w' := by
  go_enter Try.func28, Try.ntmps28
  go_wp2
  go_quiet (fail)
  have q1 : (if a < e then e else a) = mx a e := rfl
  have q2 : (if b < f then f else b) = mx b f := rfl
  rw [q1, q2]
  clear q1 q2
  obtain ⟨m1, m2⟩ : -1073741824 ≤ mx a e ∧ mx a e ≤ 1073741824 := by unfold mx; split <;> omega
  obtain ⟨m3, m4⟩ : -1073741824 ≤ mx b f ∧ mx b f ≤ 1073741824 := by unfold mx; split <;> omega
  generalize hx : mx a e = x at *
  generalize hy : mx b f = y at *
  have Hx := Lib.hid hx; clear hx
  have Hy := Lib.hid hy; clear hy
  go_wp2
  go_quiet (fail)
  have q1 : (if e + g < a + c then e + g else a + c) = mn (a + c) (e + g) := rfl
  have q2 : (if f + h < b + d then f + h else b + d) = mn (b + d) (f + h) := rfl
  rw [q1, q2]
  clear q1 q2
  generalize hp : mn (a + c) (e + g) - x = p at *
  generalize hq : mn (b + d) (f + h) - y = q at *
  have Hp := Lib.hid hp; clear hp
  have Hq := Lib.hid hq; clear hq
  have PT := Lib.hid (cm_parts Hx.out Hy.out Hp.out Hq.out)
  clear Hx Hy Hp Hq
  by_cases cp : p < 1
  · go_wp2
    exact bodyPost_ret (v := .tuple #[reg 0 0 0 0, .bool false]) (by simp [results, Try.results28, go_sem]) rfl ⟨(by obtain ⟨e1, e2⟩ := PT.out.2 (by omega); rw [e1, e2]), (by repeat (first | with_reducible exact Below.refl _ _ | with_reducible apply Below.drew | with_reducible refine below_drewN ?_ _ | (with_reducible refine Below.setCell ?_ ?_ _; rotate_left; focus (simp <;> omega)) | (with_reducible refine Below.alloc ?_ ?_ _; rotate_left; focus (simp <;> omega))))⟩
  · have cp' : 1 ≤ p := by omega
    by_cases cq : q < 1
    · go_wp2
      exact bodyPost_ret (v := .tuple #[reg 0 0 0 0, .bool false]) (by simp [results, Try.results28, go_sem]) rfl ⟨(by obtain ⟨e1, e2⟩ := PT.out.2 (by omega); rw [e1, e2]), (by repeat (first | with_reducible exact Below.refl _ _ | with_reducible apply Below.drew | with_reducible refine below_drewN ?_ _ | (with_reducible refine Below.setCell ?_ ?_ _; rotate_left; focus (simp <;> omega)) | (with_reducible refine Below.alloc ?_ ?_ _; rotate_left; focus (simp <;> omega))))⟩
    · have cq' : 1 ≤ q := by omega
      go_wp2
      exact bodyPost_ret (v := .tuple #[reg x y p q, .bool true]) (by simp [results, Try.results28, go_sem]) rfl ⟨(by obtain ⟨e1, e2⟩ := PT.out.1 (by omega); rw [e1, e2]), (by repeat (first | with_reducible exact Below.refl _ _ | with_reducible apply Below.drew | with_reducible refine below_drewN ?_ _ | (with_reducible refine Below.setCell ?_ ?_ _; rotate_left; focus (simp <;> omega)) | (with_reducible refine Below.alloc ?_ ?_ _; rotate_left; focus (simp <;> omega))))⟩

end Go.Proofs.Ytgeeaegnohdejaa
