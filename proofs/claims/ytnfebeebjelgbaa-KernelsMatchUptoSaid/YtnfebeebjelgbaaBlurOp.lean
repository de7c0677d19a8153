import Derived.Test.YtnfebeebjelgbaaPad
namespace Go.Proofs.Ytnfebeebjelgbaa
open Go.ChangeShapes Go.WideShapes Go.ChangeAt Go.RowKit
open Ieee.Format (fin finE htE allFin allHt all_true all_false mulF subF addF Ht Bd divF rootF floorF easeF mixF)
set_option linter.unusedVariables false

theorem pad_world (w : World) (X Y W H n : Int) : ∀ W0, W0 = (w.alloc (.cells #[.int .i64 X, .int .i64 Y, .int .i64 W, .int .i64 H] 23)).alloc (.cells #[.int .i64 n] 3) →
    Reg W0 w.heap.size X Y W H ∧ Blk W0 (w.heap.size + 1) #[.int .i64 n] 3 ∧ Below w.heap.size w W0 := by
  rintro _ rfl
  refine ⟨(Reg.new w X Y W H).alloc _, ?_, (by repeat (first | with_reducible exact Below.refl _ _ | with_reducible apply Below.drew | with_reducible refine below_drewN ?_ _ | (with_reducible refine Below.setCell ?_ ?_ _; rotate_left; focus (first | omega | (simp <;> omega))) | (with_reducible refine Below.alloc ?_ ?_ _; rotate_left; focus (first | omega | (simp <;> omega)))))⟩
  have := Blk.new (w.alloc (.cells #[.int .i64 X, .int .i64 Y, .int .i64 W, .int .i64 H] 23)) #[.int .i64 n] 3
  simpa using this
theorem box_fi (w : World) (X Y W H : Int) (v : Value) (c1 : Array Value) (t1 : TypeId) : ∀ W0, W0 = ((w.alloc (.cells #[.int .i64 X, .int .i64 Y, .int .i64 W, .int .i64 H, v] 36)).alloc (.cells c1 t1)).alloc (.cells #[.int .i64 0, .int .i64 0, .int .i64 0, .int .i64 0, .slice none 0 0] 36) →
    Fld W0 w.heap.size X Y W H v ∧ Blk W0 (w.heap.size + 1) c1 t1 ∧ Fld W0 (w.heap.size + 1 + 1) 0 0 0 0 (.slice none 0 0) ∧ Below w.heap.size w W0 := by
  rintro _ rfl
  refine ⟨((Fld.new w X Y W H v).alloc _).alloc _, ?_, ?_, (by repeat (first | with_reducible exact Below.refl _ _ | with_reducible apply Below.drew | with_reducible refine below_drewN ?_ _ | (with_reducible refine Below.setCell ?_ ?_ _; rotate_left; focus (first | omega | (simp <;> omega))) | (with_reducible refine Below.alloc ?_ ?_ _; rotate_left; focus (first | omega | (simp <;> omega)))))⟩
  · have := (Blk.new (w.alloc (.cells #[.int .i64 X, .int .i64 Y, .int .i64 W, .int .i64 H, v] 36)) c1 t1).alloc (.cells #[.int .i64 0, .int .i64 0, .int .i64 0, .int .i64 0, .slice none 0 0] 36)
    simpa using this
  · have := Fld.new ((w.alloc (.cells #[.int .i64 X, .int .i64 Y, .int .i64 W, .int .i64 H, v] 36)).alloc (.cells c1 t1)) 0 0 0 0 (.slice none 0 0)
    simpa using this

set_option maxRecDepth 100000 in
theorem blur_rng (X Y : Int) (Wn Hn : Nat) (R : Int) (b o c : Nat) (l : List Nat) (w : World) (hl : SRow w (some ⟨b, o, none⟩) l) (hr : Right X Y Wn Hn l) (h : R < 0 ∨ 16 < R) :
    Calls Try.prog 48 #[fldV X Y Wn Hn (some ⟨b, o, none⟩) l.length c, .int .i64 R] w fun e w' => e = .returned (.tuple #[fldV 0 0 0 0 none 0 0, .int .i64 3]) ∧ Below w.heap.size w w' := by
  have K := Lib.hid (fun w h => check_field X Y Wn Hn (some ⟨b, o, none⟩) c l w h)
  rw [hr.chk] at K
  have HL := Lib.hid hl
  clear hl hr
  by_cases h1 : R < 0
  · clear h
    go_enter Try.func48, Try.ntmps48
    go_wp2_with fail
    generalize hW0 : (w.alloc (.cells #[.int .i64 X, .int .i64 Y, .int .i64 Wn, .int .i64 Hn, .slice (some ⟨b, o, none⟩) l.length c] 36)).alloc (.cells #[.int .i64 0, .int .i64 0, .int .i64 0, .int .i64 0, .slice none 0 0] 36) = W0 at *
    obtain ⟨E0, F0, B0, z0⟩ := two_fields w X Y Wn Hn (.slice (some ⟨b, o, none⟩) l.length c) W0 hW0.symm
    clear hW0
    refine (K.out _ (HL.out.below B0)).mono ?_
    rintro e w1 ⟨rfl, b1⟩
    have HE1 := Lib.hid (E0.below b1 E0.lt)
    have HF1 := Lib.hid (F0.below b1 F0.lt)
    have HL1 := Lib.hid ((HL.out.below B0).below b1)
    have HB1 := Lib.hid (B0.trans (b1.mono B0.size))
    clear b1 B0 F0 E0 z0 K HL
    obtain ⟨d0, d1, d2, d3, d4⟩ := HF1.out.cells
    have qf0 := HF1.out.frozen 0
    have qf1 := HF1.out.frozen 1
    have qf2 := HF1.out.frozen 2
    have qf3 := HF1.out.frozen 3
    have qf4 := HF1.out.frozen 4
    have lz := HF1.out.lt
    go_wp2_with fail
    have B3 := HB1.out
    exact bodyPost_ret (v := .tuple #[fldV 0 0 0 0 none 0 0, .int .i64 3]) (by simp [results, Try.results48, go_sem, *]) rfl ⟨rfl, (by have hszz := B3.size; repeat (first | with_reducible exact B3 | with_reducible apply Below.drew | with_reducible refine below_drewN ?_ _ | (with_reducible refine Below.setCell ?_ ?_ _; rotate_left; focus (first | omega | (simp <;> omega))) | (with_reducible refine Below.alloc ?_ ?_ _; rotate_left; focus (first | omega | (simp <;> omega)))))⟩
  · have h2 : 16 < R := by omega
    clear h
    go_enter Try.func48, Try.ntmps48
    go_wp2_with fail
    generalize hW0 : (w.alloc (.cells #[.int .i64 X, .int .i64 Y, .int .i64 Wn, .int .i64 Hn, .slice (some ⟨b, o, none⟩) l.length c] 36)).alloc (.cells #[.int .i64 0, .int .i64 0, .int .i64 0, .int .i64 0, .slice none 0 0] 36) = W0 at *
    obtain ⟨E0, F0, B0, z0⟩ := two_fields w X Y Wn Hn (.slice (some ⟨b, o, none⟩) l.length c) W0 hW0.symm
    clear hW0
    refine (K.out _ (HL.out.below B0)).mono ?_
    rintro e w1 ⟨rfl, b1⟩
    have HE1 := Lib.hid (E0.below b1 E0.lt)
    have HF1 := Lib.hid (F0.below b1 F0.lt)
    have HL1 := Lib.hid ((HL.out.below B0).below b1)
    have HB1 := Lib.hid (B0.trans (b1.mono B0.size))
    clear b1 B0 F0 E0 z0 K HL
    obtain ⟨d0, d1, d2, d3, d4⟩ := HF1.out.cells
    have qf0 := HF1.out.frozen 0
    have qf1 := HF1.out.frozen 1
    have qf2 := HF1.out.frozen 2
    have qf3 := HF1.out.frozen 3
    have qf4 := HF1.out.frozen 4
    have lz := HF1.out.lt
    go_wp2_with fail
    have B3 := HB1.out
    exact bodyPost_ret (v := .tuple #[fldV 0 0 0 0 none 0 0, .int .i64 3]) (by simp [results, Try.results48, go_sem, *]) rfl ⟨rfl, (by have hszz := B3.size; repeat (first | with_reducible exact B3 | with_reducible apply Below.drew | with_reducible refine below_drewN ?_ _ | (with_reducible refine Below.setCell ?_ ?_ _; rotate_left; focus (first | omega | (simp <;> omega))) | (with_reducible refine Below.alloc ?_ ?_ _; rotate_left; focus (first | omega | (simp <;> omega)))))⟩

set_option maxRecDepth 100000 in
theorem blur_no (X Y : Int) (Wn Hn N : Nat) (b o c : Nat) (l : List Nat) (w : World) (hl : SRow w (some ⟨b, o, none⟩) l) (hr : Right X Y Wn Hn l) (hN : N ≤ 16) (h : Wn < 2 * N + 1 ∨ Hn < 2 * N + 1) :
    Calls Try.prog 48 #[fldV X Y Wn Hn (some ⟨b, o, none⟩) l.length c, .int .i64 N] w fun e w' => e = .returned (.tuple #[fldV 0 0 0 0 none 0 0, .int .i64 10]) ∧ Below w.heap.size w w' := by
  have K := Lib.hid (fun w h => check_field X Y Wn Hn (some ⟨b, o, none⟩) c l w h)
  rw [hr.chk] at K
  have HL := Lib.hid hl
  have g1 := hr.w2; have g2 := hr.h2; have g3 := hr.x1; have g4 := hr.x2; have g5 := hr.y1; have g6 := hr.y2; have g7 := hr.w1; have g8 := hr.h1
  have KS := Lib.hid (fun w => fsmaller_no X Y Wn Hn N w (by omega) (by omega) (by omega) (by omega) (by omega) (by omega) (by omega) (by omega) (by omega) (by omega) (by omega))
  have k1 : ¬ (N : Int) < 0 := by omega
  have k2 : ¬ 16 < (N : Int) := by omega
  clear hl hr g1 g2 g3 g4 g5 g6 g7 g8 h hN
  generalize (N : Int) = R at *
  generalize X + R = X1 at *
  generalize Y + R = Y1 at *
  generalize (Wn : Int) - 2 * R = P at *
  generalize (Hn : Int) - 2 * R = Q at *
  go_enter Try.func48, Try.ntmps48
  go_wp2_with fail
  generalize hW0 : (w.alloc (.cells #[.int .i64 X, .int .i64 Y, .int .i64 Wn, .int .i64 Hn, .slice (some ⟨b, o, none⟩) l.length c] 36)).alloc (.cells #[.int .i64 0, .int .i64 0, .int .i64 0, .int .i64 0, .slice none 0 0] 36) = W0 at *
  obtain ⟨E0, F0, B0, z0⟩ := two_fields w X Y Wn Hn (.slice (some ⟨b, o, none⟩) l.length c) W0 hW0.symm
  clear hW0
  refine (K.out _ (HL.out.below B0)).mono ?_
  rintro e w1 ⟨rfl, b1⟩
  have HE1 := Lib.hid (E0.below b1 E0.lt)
  have HF1 := Lib.hid (F0.below b1 F0.lt)
  have HL1 := Lib.hid ((HL.out.below B0).below b1)
  have HB1 := Lib.hid (B0.trans (b1.mono B0.size))
  clear b1 B0 F0 E0 z0 K HL
  obtain ⟨c0, c1, c2, c3, c4⟩ := HE1.out.cells
  have lz := HE1.out.lt
  go_wp2_with fail
  refine (KS.out _).mono ?_
  rintro e w2 ⟨rfl, b2⟩
  have HF2 := Lib.hid (HF1.out.below b2 HF1.out.lt)
  have HB2 := Lib.hid (HB1.out.trans (b2.mono HB1.out.size))
  clear b2 c0 c1 c2 c3 c4 HF1 HB1 HE1 HL1 lz
  obtain ⟨d0, d1, d2, d3, d4⟩ := HF2.out.cells
  have qf0 := HF2.out.frozen 0
  have qf1 := HF2.out.frozen 1
  have qf2 := HF2.out.frozen 2
  have qf3 := HF2.out.frozen 3
  have qf4 := HF2.out.frozen 4
  have lz := HF2.out.lt
  go_wp2_with fail
  have B3 := HB2.out
  exact bodyPost_ret (v := .tuple #[fldV 0 0 0 0 none 0 0, .int .i64 10]) (by simp [results, Try.results48, go_sem, *]) rfl ⟨rfl, (by have hszz := B3.size; repeat (first | with_reducible exact B3 | with_reducible apply Below.drew | with_reducible refine below_drewN ?_ _ | (with_reducible refine Below.setCell ?_ ?_ _; rotate_left; focus (first | omega | (simp <;> omega))) | (with_reducible refine Below.alloc ?_ ?_ _; rotate_left; focus (first | omega | (simp <;> omega)))))⟩

set_option maxRecDepth 100000 in
set_option maxHeartbeats 1000000 in
theorem blur_yes (X Y : Int) (Wn Hn N : Nat) (b o c : Nat) (l : List Nat) (w : World) (hl : SRow w (some ⟨b, o, none⟩) l) (hr : Right X Y Wn Hn l) (hN : N ≤ 16) (h3 : 2 * N + 1 ≤ Wn) (h4 : 2 * N + 1 ≤ Hn) :
    Calls Try.prog 48 #[fldV X Y Wn Hn (some ⟨b, o, none⟩) l.length c, .int .i64 N] w fun e w' => OpP (resC (padL (blurV l X Y Wn N) X Y Wn Hn N)) (X + N) (Y + N) ((Wn - 2 * N : Nat) : Int) ((Hn - 2 * N : Nat) : Int) (padL (blurV l X Y Wn N) X Y Wn Hn N) w e w' := by
  have K := Lib.hid (fun w h => check_field X Y Wn Hn (some ⟨b, o, none⟩) c l w h)
  rw [hr.chk] at K
  have HL := Lib.hid hl
  have g1 := hr.w2; have g2 := hr.h2; have g3 := hr.x1; have g4 := hr.x2; have g5 := hr.y1; have g6 := hr.y2
  have KS := Lib.hid (fun w => fsmaller_yes X Y Wn Hn N w (by omega) (by omega) (by omega) (by omega) (by omega) (by omega) (by omega) (by omega) (by omega) (by omega))
  rw [show (Wn : Int) - 2 * (N : Int) = ((Wn - 2 * N : Nat) : Int) from by omega, show (Hn : Int) - 2 * (N : Int) = ((Hn - 2 * N : Nat) : Int) from by omega] at KS
  have KM := Lib.hid (fun q pr pn w hl (hq : Fld w q X Y Wn Hn (.slice (some ⟨b, o, none⟩) l.length c)) (hg : Reg w pr (X + N) (Y + N) ((Wn - 2 * N : Nat) : Int) ((Hn - 2 * N : Nat) : Int)) (hpn : Blk w pn #[.int .i64 (2 * (N : Int) + 1)] 3) =>
    make_pad 137 #[.pointer (some ⟨pr, 0, none⟩), .pointer (some ⟨q, 0, none⟩), .pointer (some ⟨pn, 0, none⟩)] (blurV l X Y Wn N) X Y Wn Hn N l w hr h3 h4 (enters_of Try.func137 (by kernel_rfl) rfl) (fun x y => blurF_lt _ _)
      (fun x y a1 a2 a3 a4 W' hb => blurfn_any l X Y Wn Hn N (2 * N + 1) x y b o c q pr pn (corner X Y Wn N x y) W' (SRow.below hl hb) hr rfl hN a1 a2 a3 a4 (hq.below hb hq.lt) (hg.below hb hg.lt) (by rw [show ((2 * N + 1 : Nat) : Int) = 2 * (N : Int) + 1 from by omega]; exact hpn.below hb hpn.lt) (corner_eq a1 a3)))
  have KR := Lib.hid (fun X1 Y1 W1 H1 g cap B w ho => result_any X1 Y1 W1 H1 g cap B (padL (blurV l X Y Wn N) X Y Wn Hn N) w ho (padL_small _ N hr))
  have k1 : ¬ (N : Int) < 0 := by omega
  have k2 : ¬ 16 < (N : Int) := by omega
  clear hl hr g1 g2 g3 g4 g5 g6 h3 h4 hN
  generalize padL (blurV l X Y Wn N) X Y Wn Hn N = S at *
  generalize resC S = C at *
  generalize Wn - 2 * N = P at *
  generalize Hn - 2 * N = Q at *
  generalize (N : Int) = R at *
  generalize X + R = X1 at *
  generalize Y + R = Y1 at *
  go_enter Try.func48, Try.ntmps48
  go_wp2_with fail
  generalize hW0 : (w.alloc (.cells #[.int .i64 X, .int .i64 Y, .int .i64 Wn, .int .i64 Hn, .slice (some ⟨b, o, none⟩) l.length c] 36)).alloc (.cells #[.int .i64 0, .int .i64 0, .int .i64 0, .int .i64 0, .slice none 0 0] 36) = W0 at *
  obtain ⟨E0, F0, B0, z0⟩ := two_fields w X Y Wn Hn (.slice (some ⟨b, o, none⟩) l.length c) W0 hW0.symm
  clear hW0
  refine (K.out _ (HL.out.below B0)).mono ?_
  rintro e w1 ⟨rfl, b1⟩
  have HE1 := Lib.hid (E0.below b1 E0.lt)
  have HF1 := Lib.hid (F0.below b1 F0.lt)
  have HL1 := Lib.hid ((HL.out.below B0).below b1)
  have HB1 := Lib.hid (B0.trans (b1.mono B0.size))
  clear b1 B0 F0 E0 z0 K HL
  obtain ⟨c0, c1, c2, c3, c4⟩ := HE1.out.cells
  have lz := HE1.out.lt
  go_wp2_with fail
  refine (KS.out _).mono ?_
  rintro e w2 ⟨rfl, b2⟩
  have HE2 := Lib.hid (HE1.out.below b2 HE1.out.lt)
  have HF2 := Lib.hid (HF1.out.below b2 HF1.out.lt)
  have HL2 := Lib.hid (HL1.out.below b2)
  have HB2 := Lib.hid (HB1.out.trans (b2.mono HB1.out.size))
  clear b2 c0 c1 c2 c3 c4 HF1 HB1 HE1 HL1 lz KS
  go_wp2_with fail
  generalize hW4 : (w2.alloc (.cells #[.int .i64 X1, .int .i64 Y1, .int .i64 (P : Int), .int .i64 (Q : Int)] 23)).alloc (.cells #[.int .i64 (2 * R + 1)] 3) = W4 at *
  obtain ⟨R4, P4, B4⟩ := pad_world w2 X1 Y1 P Q (2 * R + 1) W4 hW4.symm
  clear hW4
  have HF4 := Lib.hid (HF2.out.below B4 HF2.out.lt)
  have HB4 := Lib.hid (HB2.out.trans (B4.mono HB2.out.size))
  refine (KM.out _ _ _ _ (HL2.out.below B4) (HE2.out.below B4 HE2.out.lt) R4 P4).mono ?_
  rintro e w3 ⟨⟨g, cap, rfl, ho⟩, b3⟩
  have HO3 := Lib.hid ho
  have HF3 := Lib.hid (HF4.out.below b3 HF4.out.lt)
  have HB3 := Lib.hid (HB4.out.trans (b3.mono HB4.out.size))
  have HZB : Hid (w.heap.size + 1 < W4.heap.size) := HF4.out.lt
  have HBB : Hid (w.heap.size ≤ W4.heap.size) := HB4.out.size
  clear ho b3 KM HE2 HL2 R4 P4 B4 HF2 HB2 HF4 HB4
  go_wp2_with fail
  refine (KR.out _ _ _ _ _ _ _ _ HO3.out).mono ?_
  rintro e w4 ⟨⟨x, y, p, q, a, m, k, rfl, o4⟩, b4⟩
  have HOZ := Lib.hid o4
  have HFZ := Lib.hid (HF3.out.below b4 HF3.out.lt)
  have HBZ := Lib.hid (HB3.out.trans (b4.mono HB3.out.size))
  clear o4 b4 KR HO3 HF3 HB3
  obtain ⟨d0, d1, d2, d3, d4⟩ := HFZ.out.cells
  have qf0 := HFZ.out.frozen 0
  have qf1 := HFZ.out.frozen 1
  have qf2 := HFZ.out.frozen 2
  have qf3 := HFZ.out.frozen 3
  have qf4 := HFZ.out.frozen 4
  have lz := HFZ.out.lt
  go_wp2_with fail
  generalize hW5 : ((((w4.setCell ⟨w.heap.size + 1, 0, none⟩ (.int .i64 x)).setCell ⟨w.heap.size + 1, 1, none⟩ (.int .i64 y)).setCell ⟨w.heap.size + 1, 2, none⟩ (.int .i64 p)).setCell ⟨w.heap.size + 1, 3, none⟩ (.int .i64 q)).setCell ⟨w.heap.size + 1, 4, none⟩ (.slice a m k) = W5 at *
  obtain ⟨f5, bb5, oo5, _, z5⟩ := fld_store w4 (w.heap.size + 1) 0 0 0 0 _ x y p q (.slice a m k) HFZ.out W5 hW5.symm
  have hO5 := (HOZ.out.set oo5 HZB.out).base HBB.out
  have hB5 := HBZ.out.trans (bb5.mono (by omega))
  clear d0 d1 d2 d3 d4 qf0 qf1 qf2 qf3 qf4 hW5 oo5
  obtain ⟨d0, d1, d2, d3, d4⟩ := f5.cells
  exact bodyPost_ret (v := .tuple #[fldV x y p q a m k, .int .i64 C]) (by simp [results, Try.results48, go_sem, *]) rfl ⟨⟨x, y, p, q, a, m, k, rfl, hO5⟩, hB5⟩
end Go.Proofs.Ytnfebeebjelgbaa
