import Derived.Test.YtnfebeebjelgbaaAspA
import Derived.BigQuiet
namespace Go.Proofs.Ytnfebeebjelgbaa
open Go.ChangeShapes Go.WideShapes Go.ChangeAt Go.RowKit
open Ieee.Format (fin finE htE allFin allHt all_true all_false mulF subF addF Ht Bd divF rootF floorF easeF mixF)
set_option linter.unusedVariables false

set_option maxHeartbeats 1000000 in
/-- slices.Equal on two slices that hold the same numbers -/
theorem ints_equal (a a' : Option Addr) (k k' : Nat) (m : List Int) (w : World) (h : IRow w a m) (h' : IRow w a' m) :
    Calls Try.prog 85 #[.slice a m.length k, .slice a' m.length k'] w fun e w' => e = .returned (.bool true) ∧ Below w.heap.size w w' := by
  obtain ⟨hm, h1⟩ := h
  obtain ⟨_, h2⟩ := h'
  rcases h1 with h1 | ⟨b, o, rfl, h1⟩
  · subst h1
    clear h2 hm
    show Calls Try.prog 85 #[.slice a 0 k, .slice a' 0 k'] w _
    go_enter Try.func85, Try.ntmps85
    go_wp2
    go_loop [5, 13, 25] (fun _ i _ => i = .int .i64 0) (fun _ _ _ => 0)
    case atStart => rfl
    case round =>
      subst hrel
      go_wp2
      go_ret
      exact ⟨rfl, (by repeat (first | with_reducible exact Below.refl _ _ | with_reducible apply Below.drew | with_reducible refine below_drewN ?_ _ | (with_reducible refine Below.setCell ?_ ?_ _; rotate_left; focus (first | omega | (simp <;> omega))) | (with_reducible refine Below.alloc ?_ ?_ _; rotate_left; focus (first | omega | (simp <;> omega)))))⟩
  · rcases h2 with h2 | ⟨b', o', rfl, h2⟩
    · subst h2
      clear h1 hm
      show Calls Try.prog 85 #[.slice (some ⟨b, o, none⟩) 0 k, .slice a' 0 k'] w _
      go_enter Try.func85, Try.ntmps85
      go_wp2
      go_loop [5, 13, 25] (fun _ i _ => i = .int .i64 0) (fun _ _ _ => 0)
      case atStart => rfl
      case round =>
        subst hrel
        go_wp2
        go_ret
        exact ⟨rfl, (by repeat (first | with_reducible exact Below.refl _ _ | with_reducible apply Below.drew | with_reducible refine below_drewN ?_ _ | (with_reducible refine Below.setCell ?_ ?_ _; rotate_left; focus (first | omega | (simp <;> omega))) | (with_reducible refine Below.alloc ?_ ?_ _; rotate_left; focus (first | omega | (simp <;> omega)))))⟩
    · have H1 := Lib.hid h1
      have H2 := Lib.hid h2
      clear h1 h2
      go_enter Try.func85, Try.ntmps85
      go_wp2
      go_loopw [5, 13, 25] (fun _ i _ wr => ∃ j : Nat, j ≤ m.length ∧ i = .int .i64 j ∧ Below w.heap.size w wr) (fun _ i _ _ => m.length - (intOf i).toNat)
      case atStart => exact ⟨0, by omega, rfl, (by repeat (first | with_reducible exact Below.refl _ _ | with_reducible apply Below.drew | with_reducible refine below_drewN ?_ _ | (with_reducible refine Below.setCell ?_ ?_ _; rotate_left; focus (first | omega | (simp <;> omega))) | (with_reducible refine Below.alloc ?_ ?_ _; rotate_left; focus (first | omega | (simp <;> omega)))))⟩
      case round =>
        obtain ⟨j, hj, rfl, hb⟩ := hrel
        have HB := Lib.hid hb
        by_cases hlt : j < m.length
        · have e1 : wr.cell? ⟨b, o + j, none⟩ = some (.int .i64 (m.getD j 0)) := by rw [hb.cell (World.block_lt_of_cell? w _ (H1.out j hlt))]; exact H1.out j hlt
          have e2 : wr.cell? ⟨b', o' + j, none⟩ = some (.int .i64 (m.getD j 0)) := by rw [hb.cell (World.block_lt_of_cell? w _ (H2.out j hlt))]; exact H2.out j hlt
          clear hb
          generalize m.getD j 0 = x at *
          go_wp2_with fail
          go_quiet (fail)
          go_wp2
          go_roundw
          case rel => exact ⟨j + 1, by omega, by go_num, by have h := HB.out; exact (by have hszz := h.size; repeat (first | with_reducible exact h | with_reducible apply Below.drew | with_reducible refine below_drewN ?_ _ | (with_reducible refine Below.setCell ?_ ?_ _; rotate_left; focus (first | omega | (simp <;> omega))) | (with_reducible refine Below.alloc ?_ ?_ _; rotate_left; focus (first | omega | (simp <;> omega)))))⟩
          case measure => simp [intOf]; omega
        · clear hb
          go_wp2
          go_ret
          exact ⟨rfl, by have h := HB.out; exact (by have hszz := h.size; repeat (first | with_reducible exact h | with_reducible apply Below.drew | with_reducible refine below_drewN ?_ _ | (with_reducible refine Below.setCell ?_ ?_ _; rotate_left; focus (first | omega | (simp <;> omega))) | (with_reducible refine Below.alloc ?_ ?_ _; rotate_left; focus (first | omega | (simp <;> omega)))))⟩
end Go.Proofs.Ytnfebeebjelgbaa
