import Derived.Test.YtnfebeebjelgbaaRefStamp
namespace Go.Proofs.Ytnfebeebjelgbaa
open Go.ChangeShapes Go.WideShapes Go.ChangeAt Go.RowKit
open Ieee.Format (fin finE htE allFin allHt all_true all_false mulF subF addF Ht Bd divF rootF floorF easeF mixF)
set_option linter.unusedVariables false

theorem reg_frozen {w : World} {k : Nat} {X Y W H : Int} (h : Reg w k X Y W H) (i : Nat) : w.frozen? ⟨k, i, none⟩ = false := frozen_of_row w k i _ _ h
/-- the reference's Inside of one cell and a region that lies near -/
theorem refinside_one (X Y W H : Int) (x y : Int) (w : World) (hw : 1 ≤ W) (hw2 : W ≤ 512) (hh : 1 ≤ H) (hh2 : H ≤ 512) (hx0 : -8388608 ≤ X) (hx1 : X ≤ 8388608) (hy0 : -8388608 ≤ Y) (hy1 : Y ≤ 8388608) :
    Calls Try.prog 17 #[reg x y 1 1, reg X Y W H] w fun e w' => e = .returned (.bool (decide (inR X Y W H x y))) ∧ Below w.heap.size w w' := by
  go_enter Try.func17, Try.ntmps17
  go_wp2
  all_goals
    go_ret
    refine ⟨ret_bool ?_, (by repeat (first | with_reducible exact Below.refl _ _ | with_reducible apply Below.drew | with_reducible refine below_drewN ?_ _ | (with_reducible refine Below.setCell ?_ ?_ _; rotate_left; focus (first | omega | (simp <;> omega))) | (with_reducible refine Below.alloc ?_ ?_ _; rotate_left; focus (first | omega | (simp <;> omega)))))⟩
    show _ = decide (inR X Y W H x y)
    unfold inR; grind

set_option maxRecDepth 100000 in
theorem Weight_bad (k X Y R : Int) (H : Nat) (x y : Int) (w : World) (hH : H < 4294967296) (hz : brushE k X Y R H ≠ 0) :
    Calls Try.prog 60 #[brushV k X Y R H, .int .i64 x, .int .i64 y] w fun e w' => e = .returned (.tuple #[.float .f32 0, .int .i64 (brushE k X Y R H)]) ∧ Below w.heap.size w w' := by
  have KC := Lib.hid (fun w => check_brush k X Y R H w hH)
  clear hH
  generalize brushE k X Y R H = a at *
  have hb' : (a != 0) = true := by rw [bne_iff_ne]; exact hz
  clear hz
  go_enter Try.func60, Try.ntmps60
  go_wp2_with fail
  generalize hW0 : w.alloc (.cells #[.int .i64 k, .int .i64 X, .int .i64 Y, .int .i64 R, .float .f32 H] 79) = W0 at *
  have P0 : Blk W0 w.heap.size (brCells k X Y R H) 79 := by subst hW0; exact Blk.new _ _ _
  have B0 : Below w.heap.size w W0 := by subst hW0; exact (by repeat (first | with_reducible exact Below.refl _ _ | with_reducible apply Below.drew | with_reducible refine below_drewN ?_ _ | (with_reducible refine Below.setCell ?_ ?_ _; rotate_left; focus (first | omega | (simp <;> omega))) | (with_reducible refine Below.alloc ?_ ?_ _; rotate_left; focus (first | omega | (simp <;> omega)))))
  clear hW0
  refine (KC.out _).mono ?_
  rintro e w1 ⟨rfl, b1⟩
  have HP1 := Lib.hid (P0.below b1 P0.lt)
  have HB1 := Lib.hid (B0.trans (b1.mono B0.size))
  clear b1 P0 B0 KC
  have t0 : w1.cell? ⟨w.heap.size, 0, none⟩ = some (.int .i64 k) := HP1.out.cell 0
  have t1 : w1.cell? ⟨w.heap.size, 1, none⟩ = some (.int .i64 X) := HP1.out.cell 1
  have t2 : w1.cell? ⟨w.heap.size, 2, none⟩ = some (.int .i64 Y) := HP1.out.cell 2
  have t3 : w1.cell? ⟨w.heap.size, 3, none⟩ = some (.int .i64 R) := HP1.out.cell 3
  have t4 : w1.cell? ⟨w.heap.size, 4, none⟩ = some (.float .f32 H) := HP1.out.cell 4
  have l0 : w.heap.size < w1.heap.size := HP1.out.lt
  go_wp2_with fail
  have B3 := HB1.out
  exact bodyPost_ret (v := .tuple #[.float .f32 0, .int .i64 a]) (by simp [results, Try.results60, go_sem, *]) rfl ⟨rfl, (by have hszz := B3.size; repeat (first | with_reducible exact B3 | with_reducible apply Below.drew | with_reducible refine below_drewN ?_ _ | (with_reducible refine Below.setCell ?_ ?_ _; rotate_left; focus (first | omega | (simp <;> omega))) | (with_reducible refine Below.alloc ?_ ?_ _; rotate_left; focus (first | omega | (simp <;> omega)))))⟩
set_option maxRecDepth 100000 in
theorem Weight_out (k X Y R : Int) (H : Nat) (x y : Int) (w : World) (hH : H < 4294967296) (hz : brushE k X Y R H = 0) (hp : placeE x y = 5) :
    Calls Try.prog 60 #[brushV k X Y R H, .int .i64 x, .int .i64 y] w fun e w' => e = .returned (.tuple #[.float .f32 0, .int .i64 5]) ∧ Below w.heap.size w w' := by
  have KC := Lib.hid (fun w => check_brush k X Y R H w hH)
  rw [hz] at KC
  have KP := Lib.hid (fun w => checkplace_any x y w)
  rw [hp] at KP
  clear hH hz hp
  go_enter Try.func60, Try.ntmps60
  go_wp2_with fail
  generalize hW0 : w.alloc (.cells #[.int .i64 k, .int .i64 X, .int .i64 Y, .int .i64 R, .float .f32 H] 79) = W0 at *
  have P0 : Blk W0 w.heap.size (brCells k X Y R H) 79 := by subst hW0; exact Blk.new _ _ _
  have B0 : Below w.heap.size w W0 := by subst hW0; exact (by repeat (first | with_reducible exact Below.refl _ _ | with_reducible apply Below.drew | with_reducible refine below_drewN ?_ _ | (with_reducible refine Below.setCell ?_ ?_ _; rotate_left; focus (first | omega | (simp <;> omega))) | (with_reducible refine Below.alloc ?_ ?_ _; rotate_left; focus (first | omega | (simp <;> omega)))))
  clear hW0
  refine (KC.out _).mono ?_
  rintro e w1 ⟨rfl, b1⟩
  have HP1 := Lib.hid (P0.below b1 P0.lt)
  have HB1 := Lib.hid (B0.trans (b1.mono B0.size))
  clear b1 P0 B0 KC
  have t0 : w1.cell? ⟨w.heap.size, 0, none⟩ = some (.int .i64 k) := HP1.out.cell 0
  have t1 : w1.cell? ⟨w.heap.size, 1, none⟩ = some (.int .i64 X) := HP1.out.cell 1
  have t2 : w1.cell? ⟨w.heap.size, 2, none⟩ = some (.int .i64 Y) := HP1.out.cell 2
  have t3 : w1.cell? ⟨w.heap.size, 3, none⟩ = some (.int .i64 R) := HP1.out.cell 3
  have t4 : w1.cell? ⟨w.heap.size, 4, none⟩ = some (.float .f32 H) := HP1.out.cell 4
  have l0 : w.heap.size < w1.heap.size := HP1.out.lt
  go_wp2_with fail
  refine (KP.out _).mono ?_
  rintro e w2 ⟨rfl, rfl⟩
  go_wp2_with fail
  have B3 := HB1.out
  exact bodyPost_ret (v := .tuple #[.float .f32 0, .int .i64 5]) (by simp [results, Try.results60, go_sem, *]) rfl ⟨rfl, (by have hszz := B3.size; repeat (first | with_reducible exact B3 | with_reducible apply Below.drew | with_reducible refine below_drewN ?_ _ | (with_reducible refine Below.setCell ?_ ?_ _; rotate_left; focus (first | omega | (simp <;> omega))) | (with_reducible refine Below.alloc ?_ ?_ _; rotate_left; focus (first | omega | (simp <;> omega)))))⟩
set_option maxRecDepth 100000 in
theorem Weight_in (k X Y R : Int) (H : Nat) (x y : Int) (w : World) (hH : H < 4294967296) (hz : brushE k X Y R H = 0) (hp : placeE x y = 0) (h : BrushOk X Y R x y) :
    Calls Try.prog 60 #[brushV k X Y R H, .int .i64 x, .int .i64 y] w fun e w' => e = .returned (.tuple #[.float .f32 (weightF k (sqD x y X Y) R), .int .i64 0]) ∧ Below w.heap.size w w' := by
  have KC := Lib.hid (fun w => check_brush k X Y R H w hH)
  rw [hz] at KC
  have KP := Lib.hid (fun w => checkplace_any x y w)
  rw [hp] at KP
  have KW := Lib.hid (fun w => weight_any k X Y R x y H w h)
  clear hH hz hp h
  generalize weightF k (sqD x y X Y) R = z at *
  go_enter Try.func60, Try.ntmps60
  go_wp2_with fail
  generalize hW0 : w.alloc (.cells #[.int .i64 k, .int .i64 X, .int .i64 Y, .int .i64 R, .float .f32 H] 79) = W0 at *
  have P0 : Blk W0 w.heap.size (brCells k X Y R H) 79 := by subst hW0; exact Blk.new _ _ _
  have B0 : Below w.heap.size w W0 := by subst hW0; exact (by repeat (first | with_reducible exact Below.refl _ _ | with_reducible apply Below.drew | with_reducible refine below_drewN ?_ _ | (with_reducible refine Below.setCell ?_ ?_ _; rotate_left; focus (first | omega | (simp <;> omega))) | (with_reducible refine Below.alloc ?_ ?_ _; rotate_left; focus (first | omega | (simp <;> omega)))))
  clear hW0
  refine (KC.out _).mono ?_
  rintro e w1 ⟨rfl, b1⟩
  have HP1 := Lib.hid (P0.below b1 P0.lt)
  have HB1 := Lib.hid (B0.trans (b1.mono B0.size))
  clear b1 P0 B0 KC
  have t0 : w1.cell? ⟨w.heap.size, 0, none⟩ = some (.int .i64 k) := HP1.out.cell 0
  have t1 : w1.cell? ⟨w.heap.size, 1, none⟩ = some (.int .i64 X) := HP1.out.cell 1
  have t2 : w1.cell? ⟨w.heap.size, 2, none⟩ = some (.int .i64 Y) := HP1.out.cell 2
  have t3 : w1.cell? ⟨w.heap.size, 3, none⟩ = some (.int .i64 R) := HP1.out.cell 3
  have t4 : w1.cell? ⟨w.heap.size, 4, none⟩ = some (.float .f32 H) := HP1.out.cell 4
  have l0 : w.heap.size < w1.heap.size := HP1.out.lt
  go_wp2_with fail
  refine (KP.out _).mono ?_
  rintro e w2 ⟨rfl, rfl⟩
  go_wp2_with fail
  refine (KW.out _).mono ?_
  rintro e w3 ⟨rfl, b3⟩
  have HB3 := Lib.hid (HB1.out.trans (b3.mono HB1.out.size))
  clear b3
  go_wp2_with fail
  have B3 := HB3.out
  exact bodyPost_ret (v := .tuple #[.float .f32 z, .int .i64 0]) (by simp [results, Try.results60, go_sem, *]) rfl ⟨rfl, (by have hszz := B3.size; repeat (first | with_reducible exact B3 | with_reducible apply Below.drew | with_reducible refine below_drewN ?_ _ | (with_reducible refine Below.setCell ?_ ?_ _; rotate_left; focus (first | omega | (simp <;> omega))) | (with_reducible refine Below.alloc ?_ ?_ _; rotate_left; focus (first | omega | (simp <;> omega)))))⟩

theorem brbox_world (w : World) (cs : Array Value) : ∀ W0, W0 = (w.alloc (.cells cs 79)).alloc (.cells #[.int .i64 0, .int .i64 0, .int .i64 0, .int .i64 0] 23) → Blk W0 w.heap.size cs 79 ∧ Reg W0 (w.heap.size + 1) 0 0 0 0 ∧ Below w.heap.size w W0 := by
  rintro _ rfl
  refine ⟨(Blk.new w _ _).alloc _, ?_, (by repeat (first | with_reducible exact Below.refl _ _ | with_reducible apply Below.drew | with_reducible refine below_drewN ?_ _ | (with_reducible refine Below.setCell ?_ ?_ _; rotate_left; focus (first | omega | (simp <;> omega))) | (with_reducible refine Below.alloc ?_ ?_ _; rotate_left; focus (first | omega | (simp <;> omega)))))⟩
  have := Reg.new (w.alloc (.cells cs 79)) 0 0 0 0
  simpa using this
set_option maxRecDepth 100000 in
theorem Box_bad (k X Y R : Int) (H : Nat) (w : World) (hH : H < 4294967296) (hz : brushE k X Y R H ≠ 0) :
    Calls Try.prog 61 #[brushV k X Y R H] w fun e w' => e = .returned (.tuple #[reg 0 0 0 0, .int .i64 (brushE k X Y R H)]) ∧ Below w.heap.size w w' := by
  have KC := Lib.hid (fun w => check_brush k X Y R H w hH)
  clear hH
  generalize brushE k X Y R H = a at *
  have hb' : (a != 0) = true := by rw [bne_iff_ne]; exact hz
  clear hz
  go_enter Try.func61, Try.ntmps61
  go_wp2_with fail
  generalize hW0 : (w.alloc (.cells #[.int .i64 k, .int .i64 X, .int .i64 Y, .int .i64 R, .float .f32 H] 79)).alloc (.cells #[.int .i64 0, .int .i64 0, .int .i64 0, .int .i64 0] 23) = W0 at *
  obtain ⟨P0, R0, B0⟩ := brbox_world w #[.int .i64 k, .int .i64 X, .int .i64 Y, .int .i64 R, .float .f32 H] W0 hW0.symm
  clear hW0
  refine (KC.out _).mono ?_
  rintro e w1 ⟨rfl, b1⟩
  have P1 := P0.below b1 P0.lt
  have R1 := R0.below b1 R0.lt
  have HB1 := Lib.hid (B0.trans (b1.mono B0.size))
  clear b1 P0 R0 B0 KC
  have t1 : w1.cell? ⟨w.heap.size, 1, none⟩ = some (.int .i64 X) := P1.cell 1
  have t2 : w1.cell? ⟨w.heap.size, 2, none⟩ = some (.int .i64 Y) := P1.cell 2
  have t3 : w1.cell? ⟨w.heap.size, 3, none⟩ = some (.int .i64 R) := P1.cell 3
  have l1 : w.heap.size + 1 < w1.heap.size := R1.lt
  have l0 : w.heap.size < w1.heap.size := by omega
  obtain ⟨d0, d1, d2, d3⟩ := R1.cells
  have q0 := reg_frozen R1 0
  have q1 := reg_frozen R1 1
  have q2 := reg_frozen R1 2
  have q3 := reg_frozen R1 3
  clear P1 R1
  go_wp2_with fail
  have B3 := HB1.out
  exact bodyPost_ret (v := .tuple #[reg 0 0 0 0, .int .i64 a]) (by simp [results, Try.results61, go_sem, *]) rfl ⟨rfl, (by have hszz := B3.size; repeat (first | with_reducible exact B3 | with_reducible apply Below.drew | with_reducible refine below_drewN ?_ _ | (with_reducible refine Below.setCell ?_ ?_ _; rotate_left; focus (first | omega | (simp <;> omega))) | (with_reducible refine Below.alloc ?_ ?_ _; rotate_left; focus (first | omega | (simp <;> omega)))))⟩
set_option maxRecDepth 100000 in
theorem Box_ok (k X Y R : Int) (H : Nat) (w : World) (hH : H < 4294967296) (hz : brushE k X Y R H = 0) :
    Calls Try.prog 61 #[brushV k X Y R H] w fun e w' => e = .returned (.tuple #[reg (X - R + 1) (Y - R + 1) (2 * R - 1) (2 * R - 1), .int .i64 0]) ∧ Below w.heap.size w w' := by
  have KC := Lib.hid (fun w => check_brush k X Y R H w hH)
  obtain ⟨_, _, p, r1, r2, _⟩ := brush_zero hz
  rw [hz] at KC
  clear hH hz
  go_enter Try.func61, Try.ntmps61
  go_wp2_with fail
  generalize hW0 : (w.alloc (.cells #[.int .i64 k, .int .i64 X, .int .i64 Y, .int .i64 R, .float .f32 H] 79)).alloc (.cells #[.int .i64 0, .int .i64 0, .int .i64 0, .int .i64 0] 23) = W0 at *
  obtain ⟨P0, R0, B0⟩ := brbox_world w #[.int .i64 k, .int .i64 X, .int .i64 Y, .int .i64 R, .float .f32 H] W0 hW0.symm
  clear hW0
  refine (KC.out _).mono ?_
  rintro e w1 ⟨rfl, b1⟩
  have P1 := P0.below b1 P0.lt
  have R1 := R0.below b1 R0.lt
  have HB1 := Lib.hid (B0.trans (b1.mono B0.size))
  clear b1 P0 R0 B0 KC
  have t1 : w1.cell? ⟨w.heap.size, 1, none⟩ = some (.int .i64 X) := P1.cell 1
  have t2 : w1.cell? ⟨w.heap.size, 2, none⟩ = some (.int .i64 Y) := P1.cell 2
  have t3 : w1.cell? ⟨w.heap.size, 3, none⟩ = some (.int .i64 R) := P1.cell 3
  have l1 : w.heap.size + 1 < w1.heap.size := R1.lt
  have l0 : w.heap.size < w1.heap.size := by omega
  obtain ⟨d0, d1, d2, d3⟩ := R1.cells
  have q0 := reg_frozen R1 0
  have q1 := reg_frozen R1 1
  have q2 := reg_frozen R1 2
  have q3 := reg_frozen R1 3
  clear P1 R1
  go_wp2_with fail
  have B3 := HB1.out
  exact bodyPost_ret (v := .tuple #[reg (X - R + 1) (Y - R + 1) (2 * R - 1) (2 * R - 1), .int .i64 0]) (by simp [results, Try.results61, go_sem, *]) rfl ⟨rfl, (by have hszz := B3.size; repeat (first | with_reducible exact B3 | with_reducible apply Below.drew | with_reducible refine below_drewN ?_ _ | (with_reducible refine Below.setCell ?_ ?_ _; rotate_left; focus (first | omega | (simp <;> omega))) | (with_reducible refine Below.alloc ?_ ?_ _; rotate_left; focus (first | omega | (simp <;> omega)))))⟩
set_option maxRecDepth 100000 in
theorem brushbox_any (k X Y R : Int) (H : Nat) (w : World) (p : -4194304 ≤ X ∧ X ≤ 4194304 ∧ -4194304 ≤ Y ∧ Y ≤ 4194304) (r1 : 1 ≤ R) (r2 : R ≤ 256) :
    Calls Try.prog 65 #[brushV k X Y R H] w fun e w' => e = .returned (reg (X - R + 1) (Y - R + 1) (2 * R - 1) (2 * R - 1)) ∧ Below w.heap.size w w' := by
  go_enter Try.func65, Try.ntmps65
  go_wp2
  exact bodyPost_ret (v := reg (X - R + 1) (Y - R + 1) (2 * R - 1) (2 * R - 1)) (by simp [results, Try.results65, go_sem, *]) rfl ⟨rfl, (by repeat (first | with_reducible exact Below.refl _ _ | with_reducible apply Below.drew | with_reducible refine below_drewN ?_ _ | (with_reducible refine Below.setCell ?_ ?_ _; rotate_left; focus (first | omega | (simp <;> omega))) | (with_reducible refine Below.alloc ?_ ?_ _; rotate_left; focus (first | omega | (simp <;> omega)))))⟩
end Go.Proofs.Ytnfebeebjelgbaa
