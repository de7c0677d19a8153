import Derived.Test.YtnfebeebjelgbaaTerOp
import Derived.Deep.RegionHeld3
namespace Go.Proofs.Ytnfebeebjelgbaa
open Go.ChangeShapes Go.WideShapes Go.ChangeAt Go.RowKit
open Ieee.Format (fin finE htE allFin allHt all_true all_false mulF subF addF Ht Bd divF rootF floorF easeF mixF)
set_option linter.unusedVariables false

set_option maxRecDepth 100000 in
set_option maxHeartbeats 1000000 in
/-- the reference's cells of Terrace -/
theorem refterrace_fn (s h : Nat) (X Y : Int) (Wn Hn : Nat) (x y : Int) (b o c q pa pb : Nat) (l : List Nat) (w : World) (hl : SRow w (some ⟨b, o, none⟩) l) (hr : Right X Y Wn Hn l) (hx : X ≤ x) (hx' : x < X + Wn) (hy : Y ≤ y) (hy' : y < Y + Hn) (hT : TerOk s h)
    (hq : Fld w q X Y Wn Hn (.slice (some ⟨b, o, none⟩) l.length c)) (ha : Blk w pa #[.float .f32 s] 37) (hb : Blk w pb #[.float .f32 h] 37) :
    Calls Try.prog 176 #[.int .i64 x, .int .i64 y, .pointer (some ⟨q, 0, none⟩), .pointer (some ⟨pa, 0, none⟩), .pointer (some ⟨pb, 0, none⟩)] w fun e w' => e = .returned (.float .f32 (terF s h (l.getD (cellNo X Y Wn x y).toNat 0))) ∧ Below w.heap.size w w' := by
  have KA := Lib.hid (fun w hl => at_right X Y Wn Hn x y b o c l w hl hr hx hx' hy hy')
  have KS := Lib.hid (fun w => refterraced_any s h (l.getD (cellNo X Y Wn x y).toNat 0) w hT (hr.bd _))
  have HL := Lib.hid hl
  obtain ⟨c0, c1, c2, c3, c4⟩ := hq.cells
  have da : w.cell? ⟨pa, 0, none⟩ = some (.float .f32 s) := ha.cell 0
  have db : w.cell? ⟨pb, 0, none⟩ = some (.float .f32 h) := hb.cell 0
  have l1 := hq.lt
  have l2 := ha.lt
  have l3 := hb.lt
  clear hl hr hx hx' hy hy' hT hq ha hb
  generalize terF s h (l.getD (cellNo X Y Wn x y).toNat 0) = z at *
  generalize l.getD (cellNo X Y Wn x y).toNat 0 = v at *
  generalize h = sharp at *
  go_enter Try.func176, Try.ntmps176
  go_wp2_with fail
  go_region_held3 (fun w' => w'.cell? ⟨q, 0, none⟩ = some (.int .i64 X) ∧ w'.cell? ⟨q, 1, none⟩ = some (.int .i64 Y) ∧ w'.cell? ⟨q, 2, none⟩ = some (.int .i64 Wn) ∧ w'.cell? ⟨q, 3, none⟩ = some (.int .i64 Hn) ∧ w'.cell? ⟨q, 4, none⟩ = some (.slice (some ⟨b, o, none⟩) l.length c) ∧ w'.cell? ⟨pa, 0, none⟩ = some (.float .f32 s) ∧ w'.cell? ⟨pb, 0, none⟩ = some (.float .f32 sharp) ∧ Below w.heap.size w w')
    (first
      | exact ⟨c0, c1, c2, c3, c4, da, db, (Below.refl _ _).drew⟩
      | (go_split_ands
         have hs := hb.size
         have hs2 := (show Below w.heap.size w _ by assumption).size
         refine ⟨?_, ?_, ?_, ?_, ?_, ?_, ?_, ?_⟩
         all_goals first
           | (rw [hb.cell (by simp; omega)]; assumption)
           | exact Below.trans (by assumption) (hb.mono (by omega)))
      | (go_split_ands; refine ⟨?_, ?_, ?_, ?_, ?_, ?_, ?_, ?_⟩ <;> assumption))
    (first
      | (go_at_call 107; go_split_ands; refine (KA.out _ (HL.out.below (by assumption))).mono ?_; rintro e2 w2 ⟨rfl, hb⟩)
      | (go_at_call 177; go_split_ands; refine (KS.out _).mono ?_; rintro e2 w2 ⟨rfl, rfl⟩))
  rename_i w3 hHeld
  obtain ⟨_, _, _, _, _, _, _, hB⟩ := hHeld
  go_wp2_with fail
  go_ret
  exact ⟨rfl, hB⟩

theorem refterrace_bad (X Y : Int) (Wn Hn : Nat) (b o c : Nat) (l : List Nat) (s h : Nat) (w : World) (hl : SRow w (some ⟨b, o, none⟩) l) (h1 : s < 4294967296) (h2 : h < 4294967296) (hn : terC s h ≠ 0) :
    Calls Try.prog 72 #[fldV X Y Wn Hn (some ⟨b, o, none⟩) l.length c, .float .f32 s, .float .f32 h] w fun e w' => e = .returned (.tuple #[fldV 0 0 0 0 none 0 0, .int .i64 (terC s h)]) ∧ Below w.heap.size w w' := by
  have HL := Lib.hid hl
  have KE := Lib.hid (fun w => terraceerror_any s h w h1 h2)
  clear hl h1 h2
  generalize terC s h = q at *
  have hb' : (q != 0) = true := by rw [bne_iff_ne]; exact hn
  clear hn
  go_enter Try.func72, Try.ntmps72
  go_wp2_with fail
  generalize hW0 : (((w.alloc (.cells #[.int .i64 X, .int .i64 Y, .int .i64 Wn, .int .i64 Hn, .slice (some ⟨b, o, none⟩) l.length c] 36)).alloc (.cells #[.float .f32 s] 37)).alloc (.cells #[.float .f32 h] 37)).alloc (.cells #[.int .i64 0, .int .i64 0, .int .i64 0, .int .i64 0, .slice none 0 0] 36) = W0 at *
  obtain ⟨E0, P0, Q0, F0, B0⟩ := box_f2c w X Y Wn Hn (.slice (some ⟨b, o, none⟩) l.length c) #[.float .f32 s] #[.float .f32 h] 37 W0 hW0.symm
  clear hW0
  refine (KE.out _).mono ?_
  rintro e w1 ⟨rfl, b1⟩
  have HE1 := Lib.hid (E0.below b1 E0.lt)
  have HP1 := Lib.hid (P0.below b1 P0.lt)
  have HQ1 := Lib.hid (Q0.below b1 Q0.lt)
  have HF1 := Lib.hid (F0.below b1 F0.lt)
  have HL1 := Lib.hid ((HL.out.below B0).below b1)
  have HB1 := Lib.hid (B0.trans (b1.mono B0.size))
  clear b1 B0 F0 E0 P0 Q0 KE HL
  have l4 : w.heap.size + 1 + 1 + 1 < w1.heap.size := HF1.out.lt
  obtain ⟨d0, d1, d2, d3, d4⟩ := HF1.out.cells
  have qf0 := HF1.out.frozen 0
  have qf1 := HF1.out.frozen 1
  have qf2 := HF1.out.frozen 2
  have qf3 := HF1.out.frozen 3
  have qf4 := HF1.out.frozen 4
  go_wp2_with fail
  have B3 := HB1.out
  exact bodyPost_ret (v := .tuple #[fldV 0 0 0 0 none 0 0, .int .i64 q]) (by simp [results, Try.results72, go_sem, *]) rfl ⟨rfl, (by have hszz := B3.size; repeat (first | with_reducible exact B3 | with_reducible apply Below.drew | with_reducible refine below_drewN ?_ _ | (with_reducible refine Below.setCell ?_ ?_ _; rotate_left; focus (first | omega | (simp <;> omega))) | (with_reducible refine Below.alloc ?_ ?_ _; rotate_left; focus (first | omega | (simp <;> omega)))))⟩

set_option maxRecDepth 100000 in
theorem refterrace_ok (X Y : Int) (Wn Hn : Nat) (b o c : Nat) (l : List Nat) (s h : Nat) (w : World) (hl : SRow w (some ⟨b, o, none⟩) l) (hr : Right X Y Wn Hn l) (h1 : s < 4294967296) (h2 : h < 4294967296) (hn : terC s h = 0) :
    Calls Try.prog 72 #[fldV X Y Wn Hn (some ⟨b, o, none⟩) l.length c, .float .f32 s, .float .f32 h] w fun e w' => OpP (resC (l.map (terF s h))) X Y Wn Hn (l.map (terF s h)) w e w' := by
  obtain ⟨_, _, _, _, hT⟩ := ter_zero hn
  have HL := Lib.hid hl
  have KE := Lib.hid (fun w => terraceerror_any s h w h1 h2)
  rw [hn] at KE
  have KM := Lib.hid (fun q pa pb w (hl : SRow w (some ⟨b, o, none⟩) l) (hq : Fld w q X Y Wn Hn (.slice (some ⟨b, o, none⟩) l.length c)) (ha : Blk w pa #[.float .f32 s] 37) (hb : Blk w pb #[.float .f32 h] 37) =>
    made_map 176 #[.pointer (some ⟨q, 0, none⟩), .pointer (some ⟨pa, 0, none⟩), .pointer (some ⟨pb, 0, none⟩)] (terF s h) X Y Wn Hn l w hr (enters_of Try.func176 (by kernel_rfl) rfl) (terF_lt s h)
      (fun x y g1 g2 g3 g4 W' hb' => refterrace_fn s h X Y Wn Hn x y b o c q pa pb l W' (SRow.below hl hb') hr g1 g2 g3 g4 hT (hq.below hb' hq.lt) (ha.below hb' ha.lt) (hb.below hb' hb.lt)))
  clear hl hr h1 h2 hn hT
  generalize l.map (terF s h) = S at *
  generalize resC S = C at *
  go_enter Try.func72, Try.ntmps72
  go_wp2_with fail
  generalize hW0 : (((w.alloc (.cells #[.int .i64 X, .int .i64 Y, .int .i64 Wn, .int .i64 Hn, .slice (some ⟨b, o, none⟩) l.length c] 36)).alloc (.cells #[.float .f32 s] 37)).alloc (.cells #[.float .f32 h] 37)).alloc (.cells #[.int .i64 0, .int .i64 0, .int .i64 0, .int .i64 0, .slice none 0 0] 36) = W0 at *
  obtain ⟨E0, P0, Q0, F0, B0⟩ := box_f2c w X Y Wn Hn (.slice (some ⟨b, o, none⟩) l.length c) #[.float .f32 s] #[.float .f32 h] 37 W0 hW0.symm
  clear hW0
  refine (KE.out _).mono ?_
  rintro e w1 ⟨rfl, b1⟩
  have HE1 := Lib.hid (E0.below b1 E0.lt)
  have HP1 := Lib.hid (P0.below b1 P0.lt)
  have HQ1 := Lib.hid (Q0.below b1 Q0.lt)
  have HF1 := Lib.hid (F0.below b1 F0.lt)
  have HL1 := Lib.hid ((HL.out.below B0).below b1)
  have HB1 := Lib.hid (B0.trans (b1.mono B0.size))
  clear b1 B0 F0 E0 P0 Q0 KE HL
  have l4 : w.heap.size + 1 + 1 + 1 < w1.heap.size := HF1.out.lt
  have l0 : w.heap.size < w1.heap.size := by omega
  obtain ⟨c0, c1, c2, c3, c4⟩ := HE1.out.cells
  go_wp2_with fail
  refine (KM.out _ _ _ _ HL1.out HE1.out HP1.out HQ1.out).mono ?_
  rintro e w7 ⟨⟨x, y, p, q, a, m, k, rfl, o7⟩, b7⟩
  have HOZ := Lib.hid o7
  have HFZ := Lib.hid (HF1.out.below b7 HF1.out.lt)
  have HBZ := Lib.hid (HB1.out.trans (b7.mono HB1.out.size))
  have HZB : Hid (w.heap.size + 1 + 1 + 1 < w1.heap.size) := HF1.out.lt
  have HBB : Hid (w.heap.size ≤ w1.heap.size) := HB1.out.size
  clear o7 b7 KM HE1 HP1 HQ1 HF1 HL1 HB1 c0 c1 c2 c3 c4 l0 l4
  obtain ⟨d0, d1, d2, d3, d4⟩ := HFZ.out.cells
  have qf0 := HFZ.out.frozen 0
  have qf1 := HFZ.out.frozen 1
  have qf2 := HFZ.out.frozen 2
  have qf3 := HFZ.out.frozen 3
  have qf4 := HFZ.out.frozen 4
  have lz := HFZ.out.lt
  go_wp2_with fail
  generalize hW5 : ((((w7.setCell ⟨w.heap.size + 1 + 1 + 1, 0, none⟩ (.int .i64 x)).setCell ⟨w.heap.size + 1 + 1 + 1, 1, none⟩ (.int .i64 y)).setCell ⟨w.heap.size + 1 + 1 + 1, 2, none⟩ (.int .i64 p)).setCell ⟨w.heap.size + 1 + 1 + 1, 3, none⟩ (.int .i64 q)).setCell ⟨w.heap.size + 1 + 1 + 1, 4, none⟩ (.slice a m k) = W5 at *
  obtain ⟨f5, bb5, oo5, _, z5⟩ := fld_store w7 (w.heap.size + 1 + 1 + 1) 0 0 0 0 _ x y p q (.slice a m k) HFZ.out W5 hW5.symm
  have hO5 := (HOZ.out.set oo5 HZB.out).base HBB.out
  have hB5 := HBZ.out.trans (bb5.mono (by omega))
  clear d0 d1 d2 d3 d4 qf0 qf1 qf2 qf3 qf4 hW5 oo5
  obtain ⟨d0, d1, d2, d3, d4⟩ := f5.cells
  exact bodyPost_ret (v := .tuple #[fldV x y p q a m k, .int .i64 C]) (by simp [results, Try.results72, go_sem, *]) rfl ⟨⟨x, y, p, q, a, m, k, rfl, hO5⟩, hB5⟩
end Go.Proofs.Ytnfebeebjelgbaa
