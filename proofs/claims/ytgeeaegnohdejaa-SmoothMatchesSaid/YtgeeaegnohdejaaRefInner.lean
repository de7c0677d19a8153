import Derived.Test.YtgeeaegnohdejaaSteps
import Derived.Test.YtgeeaegnohdejaaRegB
import Derived.OwnWalk
import Derived.Deep.AppendLies
namespace Go.Proofs.Ytgeeaegnohdejaa
open Go.Shelf
open Go.ChangeShapes Go.WideShapes Go.ChangeAt Go.RowKit
open Ieee.Format (fin finE htE allFin allHt all_true all_false mulF subF addF Ht)
set_option linter.unusedVariables false

theorem refinner_ok (X Y : Int) (Wn Hn : Nat) (a : Option Addr) (n c N : Nat) (w : World) (hw : 1 + 2 * N ≤ Wn) (hw2 : Wn ≤ 512) (hh : 1 + 2 * N ≤ Hn) (hh2 : Hn ≤ 512) (hN : N ≤ 64) (hx0 : -4000000 ≤ X) (hx1 : X ≤ 4000000) (hy0 : -4000000 ≤ Y) (hy1 : Y ≤ 4000000) :
    Calls Try.prog 156 #[fldV X Y Wn Hn a n c, .int .i64 N] w fun e w' => (∃ x y p q, e = .returned (.tuple #[reg x y p q, .int .i64 0])) ∧ Below w.heap.size w w' := by
  have K := Lib.hid (fun w' => grown_any X Y Wn Hn (-(N : Int)) w' (by omega) (by omega) (by omega) (by omega) (by omega) (by omega) (by omega) (by omega) (by omega) (by omega))
  have hB : Below w.heap.size w ((w.alloc (.cells #[.int .i64 X, .int .i64 Y, .int .i64 Wn, .int .i64 Hn, .slice a n c] /-T-/66)).alloc (.cells #[.int .i64 0, .int .i64 0, .int .i64 0, .int .i64 0] /-T-/30)) := (by repeat (first | with_reducible exact Below.refl _ _ | with_reducible apply Below.drew | with_reducible refine below_drewN ?_ _ | (with_reducible refine Below.setCell ?_ ?_ _; rotate_left; focus (first | omega | (simp <;> omega))) | (with_reducible refine Below.alloc ?_ ?_ _; rotate_left; focus (first | omega | (simp <;> omega)))))
  have HB := Lib.hid hB
  clear hB
  go_enter Try.func156, Try.ntmps156
  go_wp2_with fail
  refine (K.out _).mono ?_
  rintro e w1 ⟨rfl, b1⟩
  have hR : Reg w1 (w.heap.size + 1) 0 0 0 0 := by
    have := (Reg.new (w.alloc (.cells #[.int .i64 X, .int .i64 Y, .int .i64 Wn, .int .i64 Hn, .slice a n c] /-T-/66)) 0 0 0 0)
    have := this.below b1 (by simp)
    simpa using this
  have B1 := Lib.hid (HB.out.trans (b1.mono HB.out.size))
  clear b1
  have lz := hR.lt
  obtain ⟨d0, d1, d2, d3⟩ := hR.cells
  have q0 : w1.frozen? ⟨w.heap.size + 1, 0, none⟩ = false := frozen_of_row w1 _ 0 _ _ hR
  have q1 : w1.frozen? ⟨w.heap.size + 1, 1, none⟩ = false := frozen_of_row w1 _ 1 _ _ hR
  have q2 : w1.frozen? ⟨w.heap.size + 1, 2, none⟩ = false := frozen_of_row w1 _ 2 _ _ hR
  have q3 : w1.frozen? ⟨w.heap.size + 1, 3, none⟩ = false := frozen_of_row w1 _ 3 _ _ hR
  clear hR
  have t1 : ¬ ((Wn : Int) + 2 * -(N : Int) < 1) := by omega
  have t2 : ¬ ((Hn : Int) + 2 * -(N : Int) < 1) := by omega
  go_wp2
  have B2 := B1.out
  exact bodyPost_ret (v := .tuple #[reg (X - -(N : Int)) (Y - -(N : Int)) (Wn + 2 * -(N : Int)) (Hn + 2 * -(N : Int)), .int .i64 0]) (by simp [results, Try.results156, go_sem, *]) rfl ⟨⟨_, _, _, _, rfl⟩, (by have hszz := B2.size; repeat (first | with_reducible exact B2 | with_reducible apply Below.drew | with_reducible refine below_drewN ?_ _ | (with_reducible refine Below.setCell ?_ ?_ _; rotate_left; focus (first | omega | (simp <;> omega))) | (with_reducible refine Below.alloc ?_ ?_ _; rotate_left; focus (first | omega | (simp <;> omega)))))⟩

theorem refinner_no (X Y : Int) (Wn Hn : Nat) (a : Option Addr) (n c N : Nat) (w : World) (hw : 1 ≤ Wn) (hw2 : Wn ≤ 512) (hh : 1 ≤ Hn) (hh2 : Hn ≤ 512) (hN : N ≤ 64) (hx0 : -4000000 ≤ X) (hx1 : X ≤ 4000000) (hy0 : -4000000 ≤ Y) (hy1 : Y ≤ 4000000) (h : Wn < 1 + 2 * N ∨ Hn < 1 + 2 * N) :
    Calls Try.prog 156 #[fldV X Y Wn Hn a n c, .int .i64 N] w fun e w' => e = .returned (.tuple #[reg 0 0 0 0, .int .i64 10]) ∧ Below w.heap.size w w' := by
  have K := Lib.hid (fun w' => grown_any X Y Wn Hn (-(N : Int)) w' (by omega) (by omega) (by omega) (by omega) (by omega) (by omega) (by omega) (by omega) (by omega) (by omega))
  have hB : Below w.heap.size w ((w.alloc (.cells #[.int .i64 X, .int .i64 Y, .int .i64 Wn, .int .i64 Hn, .slice a n c] /-T-/66)).alloc (.cells #[.int .i64 0, .int .i64 0, .int .i64 0, .int .i64 0] /-T-/30)) := (by repeat (first | with_reducible exact Below.refl _ _ | with_reducible apply Below.drew | with_reducible refine below_drewN ?_ _ | (with_reducible refine Below.setCell ?_ ?_ _; rotate_left; focus (first | omega | (simp <;> omega))) | (with_reducible refine Below.alloc ?_ ?_ _; rotate_left; focus (first | omega | (simp <;> omega)))))
  have HB := Lib.hid hB
  clear hB
  have HH := Lib.hid h
  clear h
  go_enter Try.func156, Try.ntmps156
  go_wp2_with fail
  refine (K.out _).mono ?_
  rintro e w1 ⟨rfl, b1⟩
  have hR : Reg w1 (w.heap.size + 1) 0 0 0 0 := by
    have := (Reg.new (w.alloc (.cells #[.int .i64 X, .int .i64 Y, .int .i64 Wn, .int .i64 Hn, .slice a n c] /-T-/66)) 0 0 0 0)
    have := this.below b1 (by simp)
    simpa using this
  have B1 := Lib.hid (HB.out.trans (b1.mono HB.out.size))
  clear b1
  have lz := hR.lt
  obtain ⟨d0, d1, d2, d3⟩ := hR.cells
  have q0 : w1.frozen? ⟨w.heap.size + 1, 0, none⟩ = false := frozen_of_row w1 _ 0 _ _ hR
  have q1 : w1.frozen? ⟨w.heap.size + 1, 1, none⟩ = false := frozen_of_row w1 _ 1 _ _ hR
  have q2 : w1.frozen? ⟨w.heap.size + 1, 2, none⟩ = false := frozen_of_row w1 _ 2 _ _ hR
  have q3 : w1.frozen? ⟨w.heap.size + 1, 3, none⟩ = false := frozen_of_row w1 _ 3 _ _ hR
  clear hR
  by_cases h1 : (Wn : Int) + 2 * -(N : Int) < 1
  · go_wp2
    have B2 := B1.out
    exact bodyPost_ret (v := .tuple #[reg 0 0 0 0, .int .i64 10]) (by simp [results, Try.results156, go_sem, *]) rfl ⟨rfl, (by have hszz := B2.size; repeat (first | with_reducible exact B2 | with_reducible apply Below.drew | with_reducible refine below_drewN ?_ _ | (with_reducible refine Below.setCell ?_ ?_ _; rotate_left; focus (first | omega | (simp <;> omega))) | (with_reducible refine Below.alloc ?_ ?_ _; rotate_left; focus (first | omega | (simp <;> omega)))))⟩
  · have h2 : (Hn : Int) + 2 * -(N : Int) < 1 := by have := HH.out; omega
    go_wp2
    have B2 := B1.out
    exact bodyPost_ret (v := .tuple #[reg 0 0 0 0, .int .i64 10]) (by simp [results, Try.results156, go_sem, *]) rfl ⟨rfl, (by have hszz := B2.size; repeat (first | with_reducible exact B2 | with_reducible apply Below.drew | with_reducible refine below_drewN ?_ _ | (with_reducible refine Below.setCell ?_ ?_ _; rotate_left; focus (first | omega | (simp <;> omega))) | (with_reducible refine Below.alloc ?_ ?_ _; rotate_left; focus (first | omega | (simp <;> omega)))))⟩

/-- the function that copies the last field -/
theorem lastfn_any (X Y : Int) (Wn Hn : Nat) (x y : Int) (b o c k : Nat) (l : List Nat) (w : World) (hl : SRow w (some ⟨b, o, none⟩) l) (hn : l.length = Hn * Wn) (hw : 1 ≤ Wn) (hw2 : Wn ≤ 512) (hh : 1 ≤ Hn) (hh2 : Hn ≤ 512) (hx0 : -8388608 ≤ X) (hx1 : X ≤ 8388608) (hy0 : -8388608 ≤ Y) (hy1 : Y ≤ 8388608)
    (hx : X ≤ x) (hx' : x < X + Wn) (hy : Y ≤ y) (hy' : y < Y + Hn) (hk : Fld w k X Y Wn Hn (.slice (some ⟨b, o, none⟩) l.length c)) :
    Calls Try.prog 157 #[.int .i64 x, .int .i64 y, .pointer (some ⟨k, 0, none⟩)] w fun e w' => e = .returned (.float .f32 (l.getD (cellNo X Y Wn x y).toNat 0)) ∧ Below w.heap.size w w' := by
  have K := Lib.hid (fun w' hl => refat_any X Y Wn Hn x y b o c l w' hl (by rw [hn, Int.natCast_mul, Int.mul_comm]) (by omega) (by omega) (by omega) (by omega) hx0 hx1 hy0 hy1 hx hx' hy hy')
  have HL := Lib.hid hl
  obtain ⟨c0, c1, c2, c3, c4⟩ := hk.cells
  generalize l.getD (cellNo X Y Wn x y).toNat 0 = z at *
  clear hl hn hx hx' hy hy' hk
  go_enter Try.func157, Try.ntmps157
  go_wp2_with fail
  refine (K.out _ HL.out).mono ?_
  rintro e w1 ⟨rfl, b1⟩
  go_wp2_with fail
  go_ret
  exact ⟨rfl, b1⟩
end Go.Proofs.Ytgeeaegnohdejaa
