import Derived.Test.YtnfebeebjelgbaaStampOp
namespace Go.Proofs.Ytnfebeebjelgbaa
open Go.ChangeShapes Go.WideShapes Go.ChangeAt Go.RowKit
open Ieee.Format (fin finE htE allFin allHt all_true all_false mulF subF addF Ht Bd divF rootF floorF easeF mixF)
set_option linter.unusedVariables false

/-- the reference's made, each cell by its place and its value -/
theorem made_add (gn : Nat) (caps : Array Value) (φ : Int → Int → Nat → Nat) (X Y : Int) (Wn Hn : Nat) (l : List Nat) (w : World) (hr : Right X Y Wn Hn l)
    (eg : ∀ args w, (callFunc gn args).run Try.prog w = .ok (.enter gn args) w) (hφ : ∀ x y v, φ x y v < 4294967296)
    (hf : ∀ x y, X ≤ x → x < X + Wn → Y ≤ y → y < Y + Hn → ∀ W', Below w.heap.size w W' → Calls Try.prog gn (#[.int .i64 x, .int .i64 y] ++ caps) W' fun e w' => e = .returned (.float .f32 (φ x y (l.getD (cellNo X Y Wn x y).toNat 0))) ∧ Below W'.heap.size W' w') :
    Calls Try.prog 105 #[reg X Y Wn Hn, .func (.func gn) #[] caps] w fun e w' => OpP (resC (addL φ X Y Wn Hn l)) X Y Wn Hn (addL φ X Y Wn Hn l) w e w' := by
  have g1 := hr.w1; have g2 := hr.w2; have g3 := hr.h1; have g4 := hr.h2; have g5 := hr.x1; have g6 := hr.x2; have g7 := hr.y1; have g8 := hr.y2
  have := made_any gn caps (fun x y => φ x y (l.getD (cellNo X Y Wn x y).toNat 0)) X Y Wn Hn w (by omega) (by omega) (by omega) (by omega) (by omega) (by omega) (by omega) (by omega) eg (fun x y _ _ _ _ => hφ _ _ _) hf
  exact this.mono fun e w' h => h.res.op

set_option maxRecDepth 100000 in
theorem refstamp_bad (X Y : Int) (Wn Hn : Nat) (b o c : Nat) (l : List Nat) (k BX BY R : Int) (H : Nat) (w : World) (hl : SRow w (some ⟨b, o, none⟩) l) (hH : H < 4294967296) (hz : brushE k BX BY R H ≠ 0) :
    Calls Try.prog 63 #[fldV X Y Wn Hn (some ⟨b, o, none⟩) l.length c, brushV k BX BY R H] w fun e w' => e = .returned (.tuple #[fldV 0 0 0 0 none 0 0, .int .i64 (brushE k BX BY R H)]) ∧ Below w.heap.size w w' := by
  have HL := Lib.hid hl
  have KC := Lib.hid (fun w => refcheck_brush k BX BY R H w hH)
  clear hl hH
  generalize brushE k BX BY R H = a at *
  have hb' : (a != 0) = true := by rw [bne_iff_ne]; exact hz
  clear hz
  go_enter Try.func63, Try.ntmps63
  go_wp2_with fail
  generalize hW0 : ((w.alloc (.cells #[.int .i64 X, .int .i64 Y, .int .i64 Wn, .int .i64 Hn, .slice (some ⟨b, o, none⟩) l.length c] 36)).alloc (.cells #[.int .i64 k, .int .i64 BX, .int .i64 BY, .int .i64 R, .float .f32 H] 79)).alloc (.cells #[.int .i64 0, .int .i64 0, .int .i64 0, .int .i64 0, .slice none 0 0] 36) = W0 at *
  obtain ⟨E0, P0, F0, B0⟩ := box_fb w X Y Wn Hn (.slice (some ⟨b, o, none⟩) l.length c) #[.int .i64 k, .int .i64 BX, .int .i64 BY, .int .i64 R, .float .f32 H] 79 W0 hW0.symm
  clear hW0
  refine (KC.out _).mono ?_
  rintro e w2 ⟨rfl, b1⟩
  have HE2 := Lib.hid (E0.below b1 E0.lt)
  have HP2 := Lib.hid (P0.below b1 P0.lt)
  have HF2 := Lib.hid (F0.below b1 F0.lt)
  have HL2 := Lib.hid ((HL.out.below B0).below b1)
  have HB2 := Lib.hid (B0.trans (b1.mono B0.size))
  clear b1 B0 F0 E0 P0 HL
  have l2 : w.heap.size + 1 + 1 < w2.heap.size := HF2.out.lt
  obtain ⟨d0, d1, d2, d3, d4⟩ := HF2.out.cells
  have qf0 := HF2.out.frozen 0
  have qf1 := HF2.out.frozen 1
  have qf2 := HF2.out.frozen 2
  have qf3 := HF2.out.frozen 3
  have qf4 := HF2.out.frozen 4
  go_wp2_with fail
  have B3 := HB2.out
  exact bodyPost_ret (v := .tuple #[fldV 0 0 0 0 none 0 0, .int .i64 a]) (by simp [results, Try.results63, go_sem, *]) rfl ⟨rfl, (by have hszz := B3.size; repeat (first | with_reducible exact B3 | with_reducible apply Below.drew | with_reducible refine below_drewN ?_ _ | (with_reducible refine Below.setCell ?_ ?_ _; rotate_left; focus (first | omega | (simp <;> omega))) | (with_reducible refine Below.alloc ?_ ?_ _; rotate_left; focus (first | omega | (simp <;> omega)))))⟩

set_option maxRecDepth 100000 in
set_option maxHeartbeats 1000000 in
theorem refstamp_ok (X Y : Int) (Wn Hn : Nat) (b o c : Nat) (l : List Nat) (k BX BY R : Int) (H : Nat) (w : World) (hl : SRow w (some ⟨b, o, none⟩) l) (hr : Right X Y Wn Hn l) (hH : H < 4294967296) (hz : brushE k BX BY R H = 0) :
    Calls Try.prog 63 #[fldV X Y Wn Hn (some ⟨b, o, none⟩) l.length c, brushV k BX BY R H] w fun e w' => OpP (resC (addL (stA k BX BY R H) X Y Wn Hn l)) X Y Wn Hn (addL (stA k BX BY R H) X Y Wn Hn l) w e w' := by
  have HL := Lib.hid hl
  have KC := Lib.hid (fun w => refcheck_brush k BX BY R H w hH)
  rw [hz] at KC
  have KA := Lib.hid (fun q pb w (hl : SRow w (some ⟨b, o, none⟩) l) (hq : Fld w q X Y Wn Hn (.slice (some ⟨b, o, none⟩) l.length c)) (hb : Blk w pb (brCells k BX BY R H) 79) => made_add 154 #[.pointer (some ⟨q, 0, none⟩), .pointer (some ⟨pb, 0, none⟩)] (stA k BX BY R H) X Y Wn Hn l w hr (enters_of Try.func154 (by kernel_rfl) rfl) (fun x y v => stF_lt _ _ _)
    (fun x y h1 h2 h3 h4 W' hb' => refstamp_fn k BX BY R H X Y Wn Hn x y b o c q pb l W' (SRow.below hl hb') hr h1 h2 h3 h4 (hq.below hb' hq.lt) (hb.below hb' hb.lt) (brush_at hz hr h1 h2 h3 h4).1 (brush_at hz hr h1 h2 h3 h4).2))
  clear hl hr hH hz
  generalize addL (stA k BX BY R H) X Y Wn Hn l = S at *
  generalize resC S = C at *
  go_enter Try.func63, Try.ntmps63
  go_wp2_with fail
  generalize hW0 : ((w.alloc (.cells #[.int .i64 X, .int .i64 Y, .int .i64 Wn, .int .i64 Hn, .slice (some ⟨b, o, none⟩) l.length c] 36)).alloc (.cells #[.int .i64 k, .int .i64 BX, .int .i64 BY, .int .i64 R, .float .f32 H] 79)).alloc (.cells #[.int .i64 0, .int .i64 0, .int .i64 0, .int .i64 0, .slice none 0 0] 36) = W0 at *
  obtain ⟨E0, P0, F0, B0⟩ := box_fb w X Y Wn Hn (.slice (some ⟨b, o, none⟩) l.length c) #[.int .i64 k, .int .i64 BX, .int .i64 BY, .int .i64 R, .float .f32 H] 79 W0 hW0.symm
  clear hW0
  refine (KC.out _).mono ?_
  rintro e w2 ⟨rfl, b1⟩
  have HE2 := Lib.hid (E0.below b1 E0.lt)
  have HP2 := Lib.hid (P0.below b1 P0.lt)
  have HF2 := Lib.hid (F0.below b1 F0.lt)
  have HL2 := Lib.hid ((HL.out.below B0).below b1)
  have HB2 := Lib.hid (B0.trans (b1.mono B0.size))
  clear b1 B0 F0 E0 P0 HL
  obtain ⟨c0, c1, c2, c3, c4⟩ := HE2.out.cells
  have l2 : w.heap.size + 1 + 1 < w2.heap.size := HF2.out.lt
  have l0 : w.heap.size < w2.heap.size := by omega
  go_wp2_with fail
  refine (KA.out _ _ _ HL2.out HE2.out HP2.out).mono ?_
  rintro e w7 ⟨⟨x, y, p, q, a, m, kk, rfl, o7⟩, b7⟩
  have HOZ := Lib.hid o7
  have HFZ := Lib.hid (HF2.out.below b7 HF2.out.lt)
  have HBZ := Lib.hid (HB2.out.trans (b7.mono HB2.out.size))
  have HZB : Hid (w.heap.size + 1 + 1 < w2.heap.size) := HF2.out.lt
  have HBB : Hid (w.heap.size ≤ w2.heap.size) := HB2.out.size
  clear o7 b7 KA HE2 HP2 HF2 HL2 HB2 c0 c1 c2 c3 c4 l0 l2
  generalize k = bk at *
  generalize kk = k at *
  obtain ⟨d0, d1, d2, d3, d4⟩ := HFZ.out.cells
  have qf0 := HFZ.out.frozen 0
  have qf1 := HFZ.out.frozen 1
  have qf2 := HFZ.out.frozen 2
  have qf3 := HFZ.out.frozen 3
  have qf4 := HFZ.out.frozen 4
  have lz := HFZ.out.lt
  go_wp2_with fail
  generalize hW5 : ((((w7.setCell ⟨w.heap.size + 1 + 1, 0, none⟩ (.int .i64 x)).setCell ⟨w.heap.size + 1 + 1, 1, none⟩ (.int .i64 y)).setCell ⟨w.heap.size + 1 + 1, 2, none⟩ (.int .i64 p)).setCell ⟨w.heap.size + 1 + 1, 3, none⟩ (.int .i64 q)).setCell ⟨w.heap.size + 1 + 1, 4, none⟩ (.slice a m k) = W5 at *
  obtain ⟨f5, bb5, oo5, _, z5⟩ := fld_store w7 (w.heap.size + 1 + 1) 0 0 0 0 _ x y p q (.slice a m k) HFZ.out W5 hW5.symm
  have hO5 := (HOZ.out.set oo5 HZB.out).base HBB.out
  have hB5 := HBZ.out.trans (bb5.mono (by omega))
  clear d0 d1 d2 d3 d4 qf0 qf1 qf2 qf3 qf4 hW5 oo5
  obtain ⟨d0, d1, d2, d3, d4⟩ := f5.cells
  exact bodyPost_ret (v := .tuple #[fldV x y p q a m k, .int .i64 C]) (by simp [results, Try.results63, go_sem, *]) rfl ⟨⟨x, y, p, q, a, m, k, rfl, hO5⟩, hB5⟩

theorem stamp_pair (k BX BY R : Int) (H : Nat) (hH : H < 4294967296) (X Y : Int) (Wn Hn : Nat) (b o c : Nat) (l : List Nat) (hr : Right X Y Wn Hn l) :
    ∃ (C X1 Y1 W1 H1 : Int) (S : List Nat), S.length ≤ 1099511627776 ∧
      (∀ w, SRow w (some ⟨b, o, none⟩) l → Calls Try.prog 62 #[fldV X Y Wn Hn (some ⟨b, o, none⟩) l.length c, brushV k BX BY R H] w fun e w' => OpP C X1 Y1 W1 H1 S w e w') ∧
      (∀ w, SRow w (some ⟨b, o, none⟩) l → Calls Try.prog 63 #[fldV X Y Wn Hn (some ⟨b, o, none⟩) l.length c, brushV k BX BY R H] w fun e w' => OpP C X1 Y1 W1 H1 S w e w') := by
  by_cases h : brushE k BX BY R H = 0
  · exact ⟨_, X, Y, Wn, Hn, _, addL_small (stA k BX BY R H) hr, fun w hl => stamp_ok X Y Wn Hn b o c l k BX BY R H w hl hr hH h, fun w hl => refstamp_ok X Y Wn Hn b o c l k BX BY R H w hl hr hH h⟩
  · refine ⟨brushE k BX BY R H, 0, 0, 0, 0, [], by simp, fun w hl => ?_, fun w hl => ?_⟩
    · exact (stamp_bad X Y Wn Hn b o c l k BX BY R H w hl hr hH h).mono fun e w' ⟨a1, a2⟩ => OpP.err h a1 a2
    · exact (refstamp_bad X Y Wn Hn b o c l k BX BY R H w hl hH h).mono fun e w' ⟨a1, a2⟩ => OpP.err h a1 a2
end Go.Proofs.Ytnfebeebjelgbaa
