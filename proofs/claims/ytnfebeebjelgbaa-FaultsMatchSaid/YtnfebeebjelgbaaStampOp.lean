import Derived.Test.YtnfebeebjelgbaaStampFn
namespace Go.Proofs.Ytnfebeebjelgbaa
open Go.ChangeShapes Go.WideShapes Go.ChangeAt Go.RowKit
open Ieee.Format (fin finE htE allFin allHt all_true all_false mulF subF addF Ht Bd divF rootF floorF easeF mixF)
set_option linter.unusedVariables false

theorem box_fb (w : World) (X Y W H : Int) (v : Value) (c1 : Array Value) (t : TypeId) : ∀ W0, W0 = ((w.alloc (.cells #[.int .i64 X, .int .i64 Y, .int .i64 W, .int .i64 H, v] 36)).alloc (.cells c1 t)).alloc (.cells #[.int .i64 0, .int .i64 0, .int .i64 0, .int .i64 0, .slice none 0 0] 36) →
    Fld W0 w.heap.size X Y W H v ∧ Blk W0 (w.heap.size + 1) c1 t ∧ Fld W0 (w.heap.size + 1 + 1) 0 0 0 0 (.slice none 0 0) ∧ Below w.heap.size w W0 := box_fm w X Y W H v c1 t

/-- a field's cells are places that a brush takes -/
theorem brush_at {k BX BY R : Int} {H : Nat} (hz : brushE k BX BY R H = 0) {X Y x y : Int} {Wn Hn : Nat} {l : List Nat} (hr : Right X Y Wn Hn l) (h1 : X ≤ x) (h2 : x < X + Wn) (h3 : Y ≤ y) (h4 : y < Y + Hn) : BrushOk BX BY R x y ∧ Bd 20 H := by
  obtain ⟨_, _, p, r1, r2, hH⟩ := brush_zero hz
  have g1 := hr.w2; have g2 := hr.h2; have g3 := hr.x1; have g4 := hr.x2; have g5 := hr.y1; have g6 := hr.y2
  exact ⟨⟨p, by omega, r1, r2⟩, Ieee.Format.Ht.bd (htE_one hH)⟩

/-- what Stamp gives of each cell -/
def stA (k BX BY R : Int) (H : Nat) (x y : Int) (v : Nat) : Nat := stF H v (weightF k (sqD x y BX BY) R)

set_option maxRecDepth 100000 in
theorem stamp_bad (X Y : Int) (Wn Hn : Nat) (b o c : Nat) (l : List Nat) (k BX BY R : Int) (H : Nat) (w : World) (hl : SRow w (some ⟨b, o, none⟩) l) (hr : Right X Y Wn Hn l) (hH : H < 4294967296) (hz : brushE k BX BY R H ≠ 0) :
    Calls Try.prog 62 #[fldV X Y Wn Hn (some ⟨b, o, none⟩) l.length c, brushV k BX BY R H] w fun e w' => e = .returned (.tuple #[fldV 0 0 0 0 none 0 0, .int .i64 (brushE k BX BY R H)]) ∧ Below w.heap.size w w' := by
  have K := Lib.hid (fun w h => check_field X Y Wn Hn (some ⟨b, o, none⟩) c l w h)
  rw [hr.chk] at K
  have HL := Lib.hid hl
  have KC := Lib.hid (fun w => check_brush k BX BY R H w hH)
  clear hl hr hH
  generalize brushE k BX BY R H = a at *
  have hb' : (a != 0) = true := by rw [bne_iff_ne]; exact hz
  clear hz
  go_enter Try.func62, Try.ntmps62
  go_wp2_with fail
  generalize hW0 : ((w.alloc (.cells #[.int .i64 X, .int .i64 Y, .int .i64 Wn, .int .i64 Hn, .slice (some ⟨b, o, none⟩) l.length c] 36)).alloc (.cells #[.int .i64 k, .int .i64 BX, .int .i64 BY, .int .i64 R, .float .f32 H] 79)).alloc (.cells #[.int .i64 0, .int .i64 0, .int .i64 0, .int .i64 0, .slice none 0 0] 36) = W0 at *
  obtain ⟨E0, P0, F0, B0⟩ := box_fb w X Y Wn Hn (.slice (some ⟨b, o, none⟩) l.length c) #[.int .i64 k, .int .i64 BX, .int .i64 BY, .int .i64 R, .float .f32 H] 79 W0 hW0.symm
  clear hW0
  refine (K.out _ (HL.out.below B0)).mono ?_
  rintro e w1 ⟨rfl, b1⟩
  have HE1 := Lib.hid (E0.below b1 E0.lt)
  have HP1 := Lib.hid (P0.below b1 P0.lt)
  have HF1 := Lib.hid (F0.below b1 F0.lt)
  have HL1 := Lib.hid ((HL.out.below B0).below b1)
  have HB1 := Lib.hid (B0.trans (b1.mono B0.size))
  clear b1 B0 F0 E0 P0 K HL
  have t0 : w1.cell? ⟨w.heap.size + 1, 0, none⟩ = some (.int .i64 k) := HP1.out.cell 0
  have t1 : w1.cell? ⟨w.heap.size + 1, 1, none⟩ = some (.int .i64 BX) := HP1.out.cell 1
  have t2 : w1.cell? ⟨w.heap.size + 1, 2, none⟩ = some (.int .i64 BY) := HP1.out.cell 2
  have t3 : w1.cell? ⟨w.heap.size + 1, 3, none⟩ = some (.int .i64 R) := HP1.out.cell 3
  have t4 : w1.cell? ⟨w.heap.size + 1, 4, none⟩ = some (.float .f32 H) := HP1.out.cell 4
  have l2 : w.heap.size + 1 + 1 < w1.heap.size := HF1.out.lt
  have l1 : w.heap.size + 1 < w1.heap.size := by omega
  have l0 : w.heap.size < w1.heap.size := by omega
  go_wp2_with fail
  refine (KC.out _).mono ?_
  rintro e w2 ⟨rfl, b2⟩
  have HE2 := Lib.hid (HE1.out.below b2 HE1.out.lt)
  have HP2 := Lib.hid (HP1.out.below b2 HP1.out.lt)
  have HF2 := Lib.hid (HF1.out.below b2 HF1.out.lt)
  have HL2 := Lib.hid (HL1.out.below b2)
  have HB2 := Lib.hid (HB1.out.trans (b2.mono HB1.out.size))
  clear b2 t0 t1 t2 t3 t4 l0 l1 l2 HE1 HP1 HF1 HL1 HB1
  have l2 : w.heap.size + 1 + 1 < w2.heap.size := HF2.out.lt
  obtain ⟨d0, d1, d2, d3, d4⟩ := HF2.out.cells
  have qf0 := HF2.out.frozen 0
  have qf1 := HF2.out.frozen 1
  have qf2 := HF2.out.frozen 2
  have qf3 := HF2.out.frozen 3
  have qf4 := HF2.out.frozen 4
  go_wp2_with fail
  have B3 := HB2.out
  exact bodyPost_ret (v := .tuple #[fldV 0 0 0 0 none 0 0, .int .i64 a]) (by simp [results, Try.results62, go_sem, *]) rfl ⟨rfl, (by have hszz := B3.size; repeat (first | with_reducible exact B3 | with_reducible apply Below.drew | with_reducible refine below_drewN ?_ _ | (with_reducible refine Below.setCell ?_ ?_ _; rotate_left; focus (first | omega | (simp <;> omega))) | (with_reducible refine Below.alloc ?_ ?_ _; rotate_left; focus (first | omega | (simp <;> omega)))))⟩

set_option maxRecDepth 100000 in
set_option maxHeartbeats 1000000 in
theorem stamp_ok (X Y : Int) (Wn Hn : Nat) (b o c : Nat) (l : List Nat) (k BX BY R : Int) (H : Nat) (w : World) (hl : SRow w (some ⟨b, o, none⟩) l) (hr : Right X Y Wn Hn l) (hH : H < 4294967296) (hz : brushE k BX BY R H = 0) :
    Calls Try.prog 62 #[fldV X Y Wn Hn (some ⟨b, o, none⟩) l.length c, brushV k BX BY R H] w fun e w' => OpP (resC (addL (stA k BX BY R H) X Y Wn Hn l)) X Y Wn Hn (addL (stA k BX BY R H) X Y Wn Hn l) w e w' := by
  have K := Lib.hid (fun w h => check_field X Y Wn Hn (some ⟨b, o, none⟩) c l w h)
  rw [hr.chk] at K
  have HL := Lib.hid hl
  have KC := Lib.hid (fun w => check_brush k BX BY R H w hH)
  rw [hz] at KC
  have KA := Lib.hid (fun pb w (hl : SRow w (some ⟨b, o, none⟩) l) (hb : Blk w pb (brCells k BX BY R H) 79) => added_any 153 #[.pointer (some ⟨pb, 0, none⟩)] (stA k BX BY R H) X Y Wn Hn b o c l w hl hr (enters_of Try.func153 (by kernel_rfl) rfl) (fun x y v => stF_lt _ _ _)
    (fun x y v h1 h2 h3 h4 hv W' hb' => stampfn_any k BX BY R H x y v pb W' (hb.below hb' hb.lt) (brush_at hz hr h1 h2 h3 h4).1 (brush_at hz hr h1 h2 h3 h4).2 hv))
  clear hl hr hH hz
  generalize addL (stA k BX BY R H) X Y Wn Hn l = S at *
  generalize resC S = C at *
  go_enter Try.func62, Try.ntmps62
  go_wp2_with fail
  generalize hW0 : ((w.alloc (.cells #[.int .i64 X, .int .i64 Y, .int .i64 Wn, .int .i64 Hn, .slice (some ⟨b, o, none⟩) l.length c] 36)).alloc (.cells #[.int .i64 k, .int .i64 BX, .int .i64 BY, .int .i64 R, .float .f32 H] 79)).alloc (.cells #[.int .i64 0, .int .i64 0, .int .i64 0, .int .i64 0, .slice none 0 0] 36) = W0 at *
  obtain ⟨E0, P0, F0, B0⟩ := box_fb w X Y Wn Hn (.slice (some ⟨b, o, none⟩) l.length c) #[.int .i64 k, .int .i64 BX, .int .i64 BY, .int .i64 R, .float .f32 H] 79 W0 hW0.symm
  clear hW0
  refine (K.out _ (HL.out.below B0)).mono ?_
  rintro e w1 ⟨rfl, b1⟩
  have HE1 := Lib.hid (E0.below b1 E0.lt)
  have HP1 := Lib.hid (P0.below b1 P0.lt)
  have HF1 := Lib.hid (F0.below b1 F0.lt)
  have HL1 := Lib.hid ((HL.out.below B0).below b1)
  have HB1 := Lib.hid (B0.trans (b1.mono B0.size))
  clear b1 B0 F0 E0 P0 K HL
  have t0 : w1.cell? ⟨w.heap.size + 1, 0, none⟩ = some (.int .i64 k) := HP1.out.cell 0
  have t1 : w1.cell? ⟨w.heap.size + 1, 1, none⟩ = some (.int .i64 BX) := HP1.out.cell 1
  have t2 : w1.cell? ⟨w.heap.size + 1, 2, none⟩ = some (.int .i64 BY) := HP1.out.cell 2
  have t3 : w1.cell? ⟨w.heap.size + 1, 3, none⟩ = some (.int .i64 R) := HP1.out.cell 3
  have t4 : w1.cell? ⟨w.heap.size + 1, 4, none⟩ = some (.float .f32 H) := HP1.out.cell 4
  have l2 : w.heap.size + 1 + 1 < w1.heap.size := HF1.out.lt
  have l1 : w.heap.size + 1 < w1.heap.size := by omega
  have l0 : w.heap.size < w1.heap.size := by omega
  go_wp2_with fail
  refine (KC.out _).mono ?_
  rintro e w2 ⟨rfl, b2⟩
  have HE2 := Lib.hid (HE1.out.below b2 HE1.out.lt)
  have HP2 := Lib.hid (HP1.out.below b2 HP1.out.lt)
  have HF2 := Lib.hid (HF1.out.below b2 HF1.out.lt)
  have HL2 := Lib.hid (HL1.out.below b2)
  have HB2 := Lib.hid (HB1.out.trans (b2.mono HB1.out.size))
  clear b2 t0 t1 t2 t3 t4 l0 l1 l2 HE1 HP1 HF1 HL1 HB1
  obtain ⟨c0, c1, c2, c3, c4⟩ := HE2.out.cells
  have l2 : w.heap.size + 1 + 1 < w2.heap.size := HF2.out.lt
  have l0 : w.heap.size < w2.heap.size := by omega
  go_wp2_with fail
  refine (KA.out _ _ HL2.out HP2.out).mono ?_
  rintro e w7 ⟨⟨x, y, p, q, a, m, kk, rfl, o7⟩, b7⟩
  have HOZ := Lib.hid o7
  have HFZ := Lib.hid (HF2.out.below b7 HF2.out.lt)
  have HBZ := Lib.hid (HB2.out.trans (b7.mono HB2.out.size))
  have HZB : Hid (w.heap.size + 1 + 1 < w2.heap.size) := HF2.out.lt
  have HBB : Hid (w.heap.size ≤ w2.heap.size) := HB2.out.size
  clear o7 b7 KA HE2 HP2 HF2 HL2 HB2 c0 c1 c2 c3 c4 l0 l2
  generalize k = bk at *
  generalize kk = k at *
  obtain ⟨d0, d1, d2, d3, d4⟩ := HFZ.out.cells
  have qf0 := HFZ.out.frozen 0
  have qf1 := HFZ.out.frozen 1
  have qf2 := HFZ.out.frozen 2
  have qf3 := HFZ.out.frozen 3
  have qf4 := HFZ.out.frozen 4
  have lz := HFZ.out.lt
  go_wp2_with fail
  generalize hW5 : ((((w7.setCell ⟨w.heap.size + 1 + 1, 0, none⟩ (.int .i64 x)).setCell ⟨w.heap.size + 1 + 1, 1, none⟩ (.int .i64 y)).setCell ⟨w.heap.size + 1 + 1, 2, none⟩ (.int .i64 p)).setCell ⟨w.heap.size + 1 + 1, 3, none⟩ (.int .i64 q)).setCell ⟨w.heap.size + 1 + 1, 4, none⟩ (.slice a m k) = W5 at *
  obtain ⟨f5, bb5, oo5, _, z5⟩ := fld_store w7 (w.heap.size + 1 + 1) 0 0 0 0 _ x y p q (.slice a m k) HFZ.out W5 hW5.symm
  have hO5 := (HOZ.out.set oo5 HZB.out).base HBB.out
  have hB5 := HBZ.out.trans (bb5.mono (by omega))
  clear d0 d1 d2 d3 d4 qf0 qf1 qf2 qf3 qf4 hW5 oo5
  obtain ⟨d0, d1, d2, d3, d4⟩ := f5.cells
  exact bodyPost_ret (v := .tuple #[fldV x y p q a m k, .int .i64 C]) (by simp [results, Try.results62, go_sem, *]) rfl ⟨⟨x, y, p, q, a, m, k, rfl, hO5⟩, hB5⟩
end Go.Proofs.Ytnfebeebjelgbaa
