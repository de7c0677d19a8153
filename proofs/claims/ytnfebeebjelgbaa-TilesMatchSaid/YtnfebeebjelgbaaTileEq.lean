import Derived.Test.YtnfebeebjelgbaaTileOp
import Derived.BigQuiet
namespace Go.Proofs.Ytnfebeebjelgbaa
open Go.ChangeShapes Go.WideShapes Go.ChangeAt Go.RowKit
open Ieee.Format (fin finE htE allFin allHt all_true all_false mulF subF addF Ht Bd divF rootF floorF easeF mixF)
set_option linter.unusedVariables false

set_option maxHeartbeats 4000000 in
/-- slices.Equal on two slices that hold the same regions -/
theorem rgs_equal (a a' : Option Addr) (k k' : Nat) (L : List Rg) (w : World) (h : RgRow w a L) (h' : RgRow w a' L) :
    Calls Try.prog 20 #[.slice a L.length k, .slice a' L.length k'] w fun e w' => e = .returned (.bool true) ∧ Below w.heap.size w w' := by
  obtain ⟨hm, h1⟩ := h
  obtain ⟨_, h2⟩ := h'
  rcases h1 with h1 | ⟨b, rfl, hb, h1⟩
  · subst h1
    clear h2 hm
    show Calls Try.prog 20 #[.slice a 0 k, .slice a' 0 k'] w _
    go_enter Try.func20, Try.ntmps20
    go_wp2
    go_loop [5, 13, 25] (fun _ i _ => i = .int .i64 0) (fun _ _ _ => 0)
    case atStart => rfl
    case round =>
      subst hrel
      go_wp2
      go_ret
      exact ⟨rfl, (by repeat (first | with_reducible exact Below.refl _ _ | with_reducible apply Below.drew | with_reducible refine below_drewN ?_ _ | (with_reducible refine Below.setCell ?_ ?_ _; rotate_left; focus (first | omega | (simp <;> omega))) | (with_reducible refine Below.alloc ?_ ?_ _; rotate_left; focus (first | omega | (simp <;> omega)))))⟩
  · rcases h2 with h2 | ⟨b', rfl, hb', h2⟩
    · subst h2
      clear h1 hm
      show Calls Try.prog 20 #[.slice (some ⟨b, 0, none⟩) 0 k, .slice a' 0 k'] w _
      go_enter Try.func20, Try.ntmps20
      go_wp2
      go_loop [5, 13, 25] (fun _ i _ => i = .int .i64 0) (fun _ _ _ => 0)
      case atStart => rfl
      case round =>
        subst hrel
        go_wp2
        go_ret
        exact ⟨rfl, (by repeat (first | with_reducible exact Below.refl _ _ | with_reducible apply Below.drew | with_reducible refine below_drewN ?_ _ | (with_reducible refine Below.setCell ?_ ?_ _; rotate_left; focus (first | omega | (simp <;> omega))) | (with_reducible refine Below.alloc ?_ ?_ _; rotate_left; focus (first | omega | (simp <;> omega)))))⟩
    · have H1 := Lib.hid h1
      have H2 := Lib.hid h2
      clear h1 h2
      go_enter Try.func20, Try.ntmps20
      go_wp2
      go_loopw [5, 13, 25] (fun _ i _ wr => ∃ j : Nat, j ≤ L.length ∧ i = .int .i64 j ∧ Below w.heap.size w wr) (fun _ i _ _ => L.length - (intOf i).toNat)
      case atStart => exact ⟨0, by omega, rfl, (by repeat (first | with_reducible exact Below.refl _ _ | with_reducible apply Below.drew | with_reducible refine below_drewN ?_ _ | (with_reducible refine Below.setCell ?_ ?_ _; rotate_left; focus (first | omega | (simp <;> omega))) | (with_reducible refine Below.alloc ?_ ?_ _; rotate_left; focus (first | omega | (simp <;> omega)))))⟩
      case round =>
        obtain ⟨j, hj, rfl, hB⟩ := hrel
        have HB := Lib.hid hB
        by_cases hlt : j < L.length
        · obtain ⟨p0, p1, p2, p3⟩ := H1.out j hlt
          obtain ⟨q0, q1, q2, q3⟩ := H2.out j hlt
          have c0 := (hB.cell (p := ⟨b, j * 4, none⟩) hb).trans p0
          have c1 := (hB.cell (p := ⟨b, j * 4 + 1, none⟩) hb).trans p1
          have c2 := (hB.cell (p := ⟨b, j * 4 + 2, none⟩) hb).trans p2
          have c3 := (hB.cell (p := ⟨b, j * 4 + 3, none⟩) hb).trans p3
          have d0 := (hB.cell (p := ⟨b', j * 4, none⟩) hb').trans q0
          have d1 := (hB.cell (p := ⟨b', j * 4 + 1, none⟩) hb').trans q1
          have d2 := (hB.cell (p := ⟨b', j * 4 + 2, none⟩) hb').trans q2
          have d3 := (hB.cell (p := ⟨b', j * 4 + 3, none⟩) hb').trans q3
          clear hB p0 p1 p2 p3 q0 q1 q2 q3
          generalize (rAt L j).1 = r0 at *
          generalize (rAt L j).2.1 = r1 at *
          generalize (rAt L j).2.2.1 = r2 at *
          generalize (rAt L j).2.2.2 = r3 at *
          have kn := fun w => eqlReg r0 r1 r2 r3 r0 r1 r2 r3 w
          go_wp2_with fail
          go_quiet (fail)
          go_wp2
          go_roundw
          case rel => exact ⟨j + 1, by omega, by go_num, by have h := HB.out; exact (by have hszz := h.size; repeat (first | with_reducible exact h | with_reducible apply Below.drew | with_reducible refine below_drewN ?_ _ | (with_reducible refine Below.setCell ?_ ?_ _; rotate_left; focus (first | omega | (simp <;> omega))) | (with_reducible refine Below.alloc ?_ ?_ _; rotate_left; focus (first | omega | (simp <;> omega)))))⟩
          case measure => simp [intOf]; omega
        · clear hB
          go_wp2
          go_ret
          exact ⟨rfl, by have h := HB.out; exact (by have hszz := h.size; repeat (first | with_reducible exact h | with_reducible apply Below.drew | with_reducible refine below_drewN ?_ _ | (with_reducible refine Below.setCell ?_ ?_ _; rotate_left; focus (first | omega | (simp <;> omega))) | (with_reducible refine Below.alloc ?_ ?_ _; rotate_left; focus (first | omega | (simp <;> omega)))))⟩
end Go.Proofs.Ytnfebeebjelgbaa
