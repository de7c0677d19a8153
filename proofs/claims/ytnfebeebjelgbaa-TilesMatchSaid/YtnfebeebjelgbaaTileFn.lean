import Derived.Test.YtnfebeebjelgbaaTileF
import Derived.Test.YtnfebeebjelgbaaLatt
import Derived.Test.YtnfebeebjelgbaaBrushFn
import Derived.BigQuiet
import Derived.StillTailTactics
import Derived.Deep.RegionHeld3
namespace Go.Proofs.Ytnfebeebjelgbaa
open Go.ChangeShapes Go.WideShapes Go.ChangeAt Go.RowKit
open Ieee.Format (fin finE htE allFin allHt all_true all_false mulF subF addF Ht Bd divF rootF floorF easeF mixF)
set_option linter.unusedVariables false

theorem Reg.frozen' {w : World} {k : Nat} {X Y W H : Int} (h : Reg w k X Y W H) (i : Nat) : w.frozen? ⟨k, i, none⟩ = false := frozen_of_row w k i _ _ h
/-- where the tile of a coordinate begins -/
def tq (x s : Int) : Int := x / s * s
theorem tq_bd (x s : Int) (hs : 1 ≤ s) : tq x s ≤ x ∧ x < tq x s + s := div_parts x s hs

set_option maxHeartbeats 1000000 in
theorem square_any (s x y : Int) (w : World) (hs : 1 ≤ s) (hs2 : s ≤ 256) (hx : -8388608 ≤ x) (hx2 : x ≤ 8388608) (hy : -8388608 ≤ y) (hy2 : y ≤ 8388608) :
    Calls Try.prog 90 #[.int .i64 s, .int .i64 x, .int .i64 y] w fun e w' => e = .returned (reg (tq x s) (tq y s) s s) ∧ Below w.heap.size w w' := by
  have KX := Lib.hid (fun w => lat_any x s w (by omega) (by omega) (by omega) (by omega))
  have KY := Lib.hid (fun w => lat_any y s w (by omega) (by omega) (by omega) (by omega))
  have x1 := div_parts x s hs
  have y1 := div_parts y s hs
  unfold tq
  generalize x / s = qx at *
  generalize y / s = qy at *
  generalize hpx : qx * s = px at *
  generalize hpy : qy * s = py at *
  have g1 : -8388864 ≤ px := by omega
  have g2 : px ≤ 8388608 := by omega
  have g3 : -8388864 ≤ py := by omega
  have g4 : py ≤ 8388608 := by omega
  clear x1 y1
  go_enter Try.func90, Try.ntmps90
  go_wp2_with fail
  generalize hW0 : w.alloc (.cells #[.int .i64 0, .int .i64 0, .int .i64 0, .int .i64 0] 23) = W0 at *
  have R0 : Reg W0 w.heap.size 0 0 0 0 := by subst hW0; exact Reg.new _ _ _ _ _
  have B0 : Below w.heap.size w W0 := by subst hW0; exact (by repeat (first | with_reducible exact Below.refl _ _ | with_reducible apply Below.drew | with_reducible refine below_drewN ?_ _ | (with_reducible refine Below.setCell ?_ ?_ _; rotate_left; focus (first | omega | (simp <;> omega))) | (with_reducible refine Below.alloc ?_ ?_ _; rotate_left; focus (first | omega | (simp <;> omega)))))
  clear hW0
  refine (KX.out _).mono ?_
  rintro e w1 ⟨rfl, b1⟩
  have R1 := R0.below b1 R0.lt
  have B1 := B0.trans (b1.mono B0.size)
  clear R0 B0 b1
  go_wp2_with fail
  refine (KY.out _).mono ?_
  rintro e w2 ⟨rfl, b2⟩
  have R2 := R1.below b2 R1.lt
  have B2 := Lib.hid (B1.trans (b2.mono B1.size))
  clear R1 B1 b2
  obtain ⟨c0, c1, c2, c3⟩ := R2.cells
  have qf0 := Reg.frozen' R2 0
  have qf1 := Reg.frozen' R2 1
  have qf2 := Reg.frozen' R2 2
  have qf3 := Reg.frozen' R2 3
  have l2 := R2.lt
  clear R2
  go_wp2_with fail
  have hB := B2.out
  exact bodyPost_ret (v := reg px py s s) (by simp [results, Try.results90, go_sem, *]) rfl ⟨rfl, (by have hszz := hB.size; repeat (first | with_reducible exact hB | with_reducible apply Below.drew | with_reducible refine below_drewN ?_ _ | (with_reducible refine Below.setCell ?_ ?_ _; rotate_left; focus (first | omega | (simp <;> omega))) | (with_reducible refine Below.alloc ?_ ?_ _; rotate_left; focus (first | omega | (simp <;> omega)))))⟩

/-- what Tile gives -/
def tileE (s x y : Int) : Int := if s < 1 then 3 else if 256 < s then 3 else placeE x y
set_option maxHeartbeats 1000000 in
theorem tile_bad (s x y : Int) (w : World) (h : tileE s x y ≠ 0) :
    Calls Try.prog 16 #[.int .i64 s, .int .i64 x, .int .i64 y] w fun e w' => e = .returned (.tuple #[reg 0 0 0 0, .int .i64 (tileE s x y)]) ∧ Below w.heap.size w w' := by
  have KP := Lib.hid (fun W => checkplace_any x y W)
  unfold tileE at *
  generalize placeE x y = b at *
  by_cases h1 : s < 1
  · rw [if_pos h1]
    go_enter Try.func16, Try.ntmps16
    go_wp2_with fail
    exact bodyPost_ret (v := .tuple #[reg 0 0 0 0, .int .i64 3]) (by simp [results, Try.results16, go_sem]) rfl ⟨rfl, (by repeat (first | with_reducible exact Below.refl _ _ | with_reducible apply Below.drew | with_reducible refine below_drewN ?_ _ | (with_reducible refine Below.setCell ?_ ?_ _; rotate_left; focus (first | omega | (simp <;> omega))) | (with_reducible refine Below.alloc ?_ ?_ _; rotate_left; focus (first | omega | (simp <;> omega)))))⟩
  · rw [if_neg h1] at *
    by_cases h2 : 256 < s
    · rw [if_pos h2]
      go_enter Try.func16, Try.ntmps16
      go_wp2_with fail
      exact bodyPost_ret (v := .tuple #[reg 0 0 0 0, .int .i64 3]) (by simp [results, Try.results16, go_sem]) rfl ⟨rfl, (by repeat (first | with_reducible exact Below.refl _ _ | with_reducible apply Below.drew | with_reducible refine below_drewN ?_ _ | (with_reducible refine Below.setCell ?_ ?_ _; rotate_left; focus (first | omega | (simp <;> omega))) | (with_reducible refine Below.alloc ?_ ?_ _; rotate_left; focus (first | omega | (simp <;> omega)))))⟩
    · rw [if_neg h2] at *
      go_enter Try.func16, Try.ntmps16
      go_wp2_with fail
      refine (KP.out _).mono ?_
      rintro e w1 ⟨rfl, rfl⟩
      go_wp2_with fail
      exact bodyPost_ret (v := .tuple #[reg 0 0 0 0, .int .i64 b]) (by simp [results, Try.results16, go_sem]) rfl ⟨rfl, (by repeat (first | with_reducible exact Below.refl _ _ | with_reducible apply Below.drew | with_reducible refine below_drewN ?_ _ | (with_reducible refine Below.setCell ?_ ?_ _; rotate_left; focus (first | omega | (simp <;> omega))) | (with_reducible refine Below.alloc ?_ ?_ _; rotate_left; focus (first | omega | (simp <;> omega)))))⟩
theorem tileE_zero {s x y : Int} (h : tileE s x y = 0) : 1 ≤ s ∧ s ≤ 256 ∧ placeE x y = 0 ∧ -4194304 ≤ x ∧ x ≤ 4194304 ∧ -4194304 ≤ y ∧ y ≤ 4194304 := by
  unfold tileE at h
  split at h
  · omega
  · split at h
    · omega
    · have := placeE_zero h
      omega
set_option maxHeartbeats 1000000 in
theorem tile_ok (s x y : Int) (w : World) (h : tileE s x y = 0) :
    Calls Try.prog 16 #[.int .i64 s, .int .i64 x, .int .i64 y] w fun e w' => e = .returned (.tuple #[reg (tq x s) (tq y s) s s, .int .i64 0]) ∧ Below w.heap.size w w' := by
  obtain ⟨h1, h2, h3, h4, h5, h6, h7⟩ := tileE_zero h
  have KP := Lib.hid (fun W => checkplace_any x y W)
  have KS := Lib.hid (fun W => square_any s x y W h1 h2 (by omega) (by omega) (by omega) (by omega))
  rw [h3] at KP
  generalize tq x s = px at *
  generalize tq y s = py at *
  clear h3 h
  go_enter Try.func16, Try.ntmps16
  go_wp2_with fail
  refine (KP.out _).mono ?_
  rintro e w1 ⟨rfl, rfl⟩
  go_wp2_with fail
  generalize hW0 : w.alloc (.cells #[.int .i64 0, .int .i64 0, .int .i64 0, .int .i64 0] 23) = W0 at *
  have R0 : Reg W0 w.heap.size 0 0 0 0 := by subst hW0; exact Reg.new _ _ _ _ _
  have B0 : Below w.heap.size w W0 := by subst hW0; exact (by repeat (first | with_reducible exact Below.refl _ _ | with_reducible apply Below.drew | with_reducible refine below_drewN ?_ _ | (with_reducible refine Below.setCell ?_ ?_ _; rotate_left; focus (first | omega | (simp <;> omega))) | (with_reducible refine Below.alloc ?_ ?_ _; rotate_left; focus (first | omega | (simp <;> omega)))))
  clear hW0
  refine (KS.out _).mono ?_
  rintro e w1 ⟨rfl, b1⟩
  have R2 := R0.below b1 R0.lt
  have B2 := Lib.hid (B0.trans (b1.mono B0.size))
  clear R0 B0 b1
  obtain ⟨c0, c1, c2, c3⟩ := R2.cells
  have qf0 := Reg.frozen' R2 0
  have qf1 := Reg.frozen' R2 1
  have qf2 := Reg.frozen' R2 2
  have qf3 := Reg.frozen' R2 3
  have l2 := R2.lt
  clear R2
  go_wp2_with fail
  have hB := B2.out
  exact bodyPost_ret (v := .tuple #[reg px py s s, .int .i64 0]) (by simp [results, Try.results16, go_sem, *]) rfl ⟨rfl, (by have hszz := hB.size; repeat (first | with_reducible exact hB | with_reducible apply Below.drew | with_reducible refine below_drewN ?_ _ | (with_reducible refine Below.setCell ?_ ?_ _; rotate_left; focus (first | omega | (simp <;> omega))) | (with_reducible refine Below.alloc ?_ ?_ _; rotate_left; focus (first | omega | (simp <;> omega)))))⟩
end Go.Proofs.Ytnfebeebjelgbaa
