import Derived.Test.YtnfebeebjelgbaaRefWeight
import Derived.Test.YtnfebeebjelgbaaAddedOp
import Derived.Test.YtnfebeebjelgbaaRefTer
import Derived.Deep.RegionHeld3
namespace Go.Proofs.Ytnfebeebjelgbaa
open Go.ChangeShapes Go.WideShapes Go.ChangeAt Go.RowKit
open Ieee.Format (fin finE htE allFin allHt all_true all_false mulF subF addF Ht Bd divF rootF floorF easeF mixF)
set_option linter.unusedVariables false

abbrev brCells (k X Y R : Int) (H : Nat) : Array Value := #[.int .i64 k, .int .i64 X, .int .i64 Y, .int .i64 R, .float .f32 H]
set_option maxRecDepth 100000 in
set_option maxHeartbeats 1000000 in
theorem stampfn_any (k X Y R : Int) (H : Nat) (x y : Int) (v pb : Nat) (w : World) (hb : Blk w pb (brCells k X Y R H) 79) (h : BrushOk X Y R x y) (hH : Bd 20 H) (hv : Bd 20 v) :
    Calls Try.prog 153 #[.int .i64 x, .int .i64 y, .float .f32 v, .pointer (some ⟨pb, 0, none⟩)] w fun e w' => e = .returned (.float .f32 (stF H v (weightF k (sqD x y X Y) R))) ∧ Below w.heap.size w w' := by
  have KW := Lib.hid (fun w => weight_any k X Y R x y H w h)
  have hs := weight_share (k := k) (d := sqD x y X Y) (R := R) (by have := sqD_bd h.p h.q; unfold sqD; omega) h.r1 h.r2
  obtain ⟨m1, m2⟩ := st_bd hH hv hs
  have k1 := fun w' => run_float_arith (P := Try.prog) w' .mul 37 .f32 H (weightF k (sqD x y X Y) R) (mulF H (weightF k (sqD x y X Y) R)) (Ieee.Format.bits_mul hH.1 hs.1)
  have k2 := fun w' => run_float_arith (P := Try.prog) w' .add 37 .f32 v (mulF H (weightF k (sqD x y X Y) R)) (stF H v (weightF k (sqD x y X Y) R)) (Ieee.Format.bits_add hv.1 m1.1)
  generalize stF H v (weightF k (sqD x y X Y) R) = z3 at *
  generalize mulF H (weightF k (sqD x y X Y) R) = z2 at *
  generalize weightF k (sqD x y X Y) R = z1 at *
  have t0 : w.cell? ⟨pb, 0, none⟩ = some (.int .i64 k) := hb.cell 0
  have t1 : w.cell? ⟨pb, 1, none⟩ = some (.int .i64 X) := hb.cell 1
  have t2 : w.cell? ⟨pb, 2, none⟩ = some (.int .i64 Y) := hb.cell 2
  have t3 : w.cell? ⟨pb, 3, none⟩ = some (.int .i64 R) := hb.cell 3
  have t4 : w.cell? ⟨pb, 4, none⟩ = some (.float .f32 H) := hb.cell 4
  have l0 := hb.lt
  clear hb h hH hv hs m1 m2
  go_enter Try.func153, Try.ntmps153
  go_wp2_with fail
  go_region_held3 (fun w' => w'.cell? ⟨pb, 0, none⟩ = some (.int .i64 k) ∧ w'.cell? ⟨pb, 1, none⟩ = some (.int .i64 X) ∧ w'.cell? ⟨pb, 2, none⟩ = some (.int .i64 Y) ∧ w'.cell? ⟨pb, 3, none⟩ = some (.int .i64 R) ∧ w'.cell? ⟨pb, 4, none⟩ = some (.float .f32 H) ∧ Below w.heap.size w w')
    (first
      | exact ⟨t0, t1, t2, t3, t4, (Below.refl _ _).drew⟩
      | (go_split_ands
         have hs := hb.size
         have hs2 := (show Below w.heap.size w _ by assumption).size
         refine ⟨?_, ?_, ?_, ?_, ?_, ?_⟩
         all_goals first
           | (rw [hb.cell (by simp; omega)]; assumption)
           | exact Below.trans (by assumption) (hb.mono (by omega)))
      | (go_split_ands; refine ⟨?_, ?_, ?_, ?_, ?_, ?_⟩ <;> assumption))
    (first | (go_at_call 151; go_split_ands; refine (KW.out _).mono ?_; rintro e2 w2 ⟨rfl, hb⟩))
  rename_i hHeld
  have hB := hHeld.2.2.2.2.2
  clear hHeld
  go_wp2_with fail
  go_ret
  exact ⟨rfl, hB⟩

set_option maxRecDepth 100000 in
set_option maxHeartbeats 1000000 in
/-- the reference's cells of Stamp -/
theorem refstamp_fn (k X Y R : Int) (H : Nat) (X0 Y0 : Int) (Wn Hn : Nat) (x y : Int) (b o c q pb : Nat) (l : List Nat) (w : World) (hl : SRow w (some ⟨b, o, none⟩) l) (hr : Right X0 Y0 Wn Hn l) (hx : X0 ≤ x) (hx' : x < X0 + Wn) (hy : Y0 ≤ y) (hy' : y < Y0 + Hn)
    (hq : Fld w q X0 Y0 Wn Hn (.slice (some ⟨b, o, none⟩) l.length c)) (hb : Blk w pb (brCells k X Y R H) 79) (h : BrushOk X Y R x y) (hH : Bd 20 H) :
    Calls Try.prog 154 #[.int .i64 x, .int .i64 y, .pointer (some ⟨q, 0, none⟩), .pointer (some ⟨pb, 0, none⟩)] w fun e w' => e = .returned (.float .f32 (stF H (l.getD (cellNo X0 Y0 Wn x y).toNat 0) (weightF k (sqD x y X Y) R))) ∧ Below w.heap.size w w' := by
  have KW := Lib.hid (fun w => refweight_any k X Y R x y H w h)
  have KA := Lib.hid (fun w hl => at_right X0 Y0 Wn Hn x y b o c l w hl hr hx hx' hy hy')
  have hv := hr.bd (cellNo X0 Y0 Wn x y).toNat
  have hs := weight_share (k := k) (d := sqD x y X Y) (R := R) (by have := sqD_bd h.p h.q; unfold sqD; omega) h.r1 h.r2
  have HL := Lib.hid hl
  generalize l.getD (cellNo X0 Y0 Wn x y).toNat 0 = v at *
  obtain ⟨m1, m2⟩ := st_bd hH hv hs
  have k1 := Lib.hid (fun w' => ref_mul_ok H (weightF k (sqD x y X Y) R) w' hH.1 hs.1 m1.1)
  have k2 := Lib.hid (fun w' => ref_add_ok v (mulF H (weightF k (sqD x y X Y) R)) w' hv.1 m1.1 m2.1)
  change Hid (∀ w', Calls Try.prog 131 #[.float .f32 v, .float .f32 (mulF H (weightF k (sqD x y X Y) R))] w' fun en w2 => en = .returned (.float .f32 (stF H v (weightF k (sqD x y X Y) R))) ∧ w' = w2) at k2
  generalize stF H v (weightF k (sqD x y X Y) R) = z3 at *
  generalize mulF H (weightF k (sqD x y X Y) R) = z2 at *
  generalize weightF k (sqD x y X Y) R = z1 at *
  have t0 : w.cell? ⟨pb, 0, none⟩ = some (.int .i64 k) := hb.cell 0
  have t1 : w.cell? ⟨pb, 1, none⟩ = some (.int .i64 X) := hb.cell 1
  have t2 : w.cell? ⟨pb, 2, none⟩ = some (.int .i64 Y) := hb.cell 2
  have t3 : w.cell? ⟨pb, 3, none⟩ = some (.int .i64 R) := hb.cell 3
  have t4 : w.cell? ⟨pb, 4, none⟩ = some (.float .f32 H) := hb.cell 4
  have l0 := hb.lt
  obtain ⟨c0, c1, c2, c3, c4⟩ := hq.cells
  have l1 := hq.lt
  clear hb h hH hv hs m1 m2 hl hr hq hx hx' hy hy'
  go_enter Try.func154, Try.ntmps154
  go_wp2_with fail
  go_region_held3 (fun w' => w'.cell? ⟨q, 0, none⟩ = some (.int .i64 X0) ∧ w'.cell? ⟨q, 1, none⟩ = some (.int .i64 Y0) ∧ w'.cell? ⟨q, 2, none⟩ = some (.int .i64 Wn) ∧ w'.cell? ⟨q, 3, none⟩ = some (.int .i64 Hn) ∧ w'.cell? ⟨q, 4, none⟩ = some (.slice (some ⟨b, o, none⟩) l.length c) ∧ w'.cell? ⟨pb, 0, none⟩ = some (.int .i64 k) ∧ w'.cell? ⟨pb, 1, none⟩ = some (.int .i64 X) ∧ w'.cell? ⟨pb, 2, none⟩ = some (.int .i64 Y) ∧ w'.cell? ⟨pb, 3, none⟩ = some (.int .i64 R) ∧ w'.cell? ⟨pb, 4, none⟩ = some (.float .f32 H) ∧ Below w.heap.size w w')
    (first
      | exact ⟨c0, c1, c2, c3, c4, t0, t1, t2, t3, t4, (Below.refl _ _).drew⟩
      | (go_split_ands
         have hs := hb.size
         have hs2 := (show Below w.heap.size w _ by assumption).size
         refine ⟨?_, ?_, ?_, ?_, ?_, ?_, ?_, ?_, ?_, ?_, ?_⟩
         all_goals first
           | (rw [hb.cell (by simp; omega)]; assumption)
           | exact Below.trans (by assumption) (hb.mono (by omega)))
      | (go_split_ands; refine ⟨?_, ?_, ?_, ?_, ?_, ?_, ?_, ?_, ?_, ?_, ?_⟩ <;> assumption))
    (first
      | (go_at_call 64; go_split_ands; refine (KW.out _).mono ?_; rintro e2 w2 ⟨rfl, hb⟩)
      | (go_at_call 107; go_split_ands; refine (KA.out _ (HL.out.below (by assumption))).mono ?_; rintro e2 w2 ⟨rfl, hb⟩)
      | (go_at_call 136; go_split_ands; refine (k1.out _).mono ?_; rintro e2 w2 ⟨rfl, rfl⟩)
      | (go_at_call 131; go_split_ands; refine (k2.out _).mono ?_; rintro e2 w2 ⟨rfl, rfl⟩))
  rename_i hHeld
  have hB := hHeld.2.2.2.2.2.2.2.2.2.2
  clear hHeld
  go_wp2_with fail
  go_ret
  exact ⟨rfl, hB⟩
end Go.Proofs.Ytnfebeebjelgbaa
