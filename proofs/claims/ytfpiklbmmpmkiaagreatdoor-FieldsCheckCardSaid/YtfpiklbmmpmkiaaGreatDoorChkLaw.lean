import Derived.Test.YtfpiklbmmpmkiaaGreatDoorChkOps
namespace Go.Proofs.YtfpiklbmmpmkiaaGreatDoor
open Go.ChangeShapes Go.WideShapes Go.ChangeAt Go.RowKit
open Ieee.Format (fin finE htE allFin allHt all_true all_false mulF subF addF Ht Bd htE_ok htE_far htE_bad allHt_iff)
set_option linter.unusedVariables false

set_option maxRecDepth 100000 in
theorem at_in (X Y : Int) (Wn Hn b o c : Nat) (l : List Nat) (x y : Int) (w : World) (hl : SRow w (some ⟨b, o, none⟩) l) (hr : Right X Y Wn Hn l) (h : inR X Y Wn Hn x y) :
    Calls Tryz.prog 7 #[fldV X Y Wn Hn (some ⟨b, o, none⟩) l.length c, .int .i64 x, .int .i64 y] w fun e w' => e = .returned (.tuple #[.float .f32 (l.getD (cellNo X Y Wn x y).toNat 0), .int .i64 0]) ∧ Below w.heap.size w w' := by
  have w1 := hr.w1; have w2 := hr.w2; have h1 := hr.h1; have h2 := hr.h2; have x1 := hr.x1; have x2 := hr.x2; have y1 := hr.y1; have y2 := hr.y2
  have K := Lib.hid (fun W' h' => check_field X Y Wn Hn (some ⟨b, o, none⟩) c l W' h')
  rw [hr.chk] at K
  obtain ⟨m0, m1, m2, m3⟩ := cellNo_in (show (1 : Int) ≤ Wn by omega) (by omega) (show (1 : Int) ≤ Hn by omega) (by omega) h.1 h.2.1 h.2.2.1 h.2.2.2
  obtain ⟨k, hk⟩ : ∃ k : Nat, cellNo X Y Wn x y = (k : Int) := ⟨(cellNo X Y Wn x y).toNat, by unfold cellNo at *; omega⟩
  have hkl : k < l.length := by
    have e : ((Wn : Int) * (Hn : Int)) = (l.length : Int) := by rw [hr.len, Int.natCast_mul, Int.mul_comm]
    unfold cellNo at *
    omega
  have KP := Lib.hid (fun W' => place_in X Y Wn Hn x y k W' w1 w2 h1 h2 (by omega) (by omega) (by omega) (by omega) h hk)
  rw [hk, Int.toNat_natCast]
  have hd := hl.at_ hkl
  have HL := Lib.hid hl
  have hll := hl.1.1
  have hkl' : (k : Int) < (l.length : Int) := by omega
  clear hl hr h hk m0 m1 m2 m3 w1 w2 h1 h2 x1 x2 y1 y2 hkl
  have BA : Below w.heap.size w (w.alloc (.cells #[.int .i64 X, .int .i64 Y, .int .i64 (Wn : Int), .int .i64 (Hn : Int), .slice (some ⟨b, o, none⟩) l.length c] 26)) := (by repeat (first | with_reducible exact Below.refl _ _ | with_reducible apply Below.drew | with_reducible refine below_drewN ?_ _ | (with_reducible refine Below.setCell ?_ ?_ _; rotate_left; focus (first | omega | (simp <;> omega))) | (with_reducible refine Below.alloc ?_ ?_ _; rotate_left; focus (first | omega | (simp <;> omega)))))
  have F0 := Fld.new w X Y Wn Hn (.slice (some ⟨b, o, none⟩) l.length c)
  generalize l.getD k 0 = v at *
  go_enter Tryz.func7, Tryz.ntmps7
  go_wp2_with fail
  generalize w.alloc (.cells #[.int .i64 X, .int .i64 Y, .int .i64 (Wn : Int), .int .i64 (Hn : Int), .slice (some ⟨b, o, none⟩) l.length c] 26) = W0 at *
  refine (K.out _ (HL.out.below BA)).mono ?_
  rintro e w1 ⟨rfl, b1⟩
  have F1 := F0.below b1 F0.lt
  have B1 := BA.trans (b1.mono BA.size)
  have HF1 := Lib.hid F1
  have HB1 := Lib.hid B1
  clear b1 F0 BA F1 B1
  obtain ⟨c0, c1, c2, c3, c4⟩ := HF1.out.cells
  go_wp2_with fail
  refine (KP.out _).mono ?_
  rintro e w2 ⟨rfl, b2⟩
  have HF2 := Lib.hid (HF1.out.below b2 HF1.out.lt)
  have HB2 := Lib.hid (HB1.out.trans (b2.mono HB1.out.size))
  clear c0 c1 c2 c3 c4 b2 HF1 HB1
  obtain ⟨c0, c1, c2, c3, c4⟩ := HF2.out.cells
  have hd2 := (HB2.out.cell (World.block_lt_of_cell? w _ hd)).trans hd
  clear hd
  go_wp2_with fail
  go_ret2
  exact ⟨rfl, HB2.out⟩
set_option maxRecDepth 100000 in
theorem at_out (X Y : Int) (Wn Hn b o c : Nat) (l : List Nat) (x y : Int) (w : World) (hl : SRow w (some ⟨b, o, none⟩) l) (hr : Right X Y Wn Hn l) (h : ¬ inR X Y Wn Hn x y) :
    Calls Tryz.prog 7 #[fldV X Y Wn Hn (some ⟨b, o, none⟩) l.length c, .int .i64 x, .int .i64 y] w fun e w' => e = .returned (.tuple #[.float .f32 0, .int .i64 5]) ∧ Below w.heap.size w w' := by
  have w1 := hr.w1; have w2 := hr.w2; have h1 := hr.h1; have h2 := hr.h2; have x1 := hr.x1; have x2 := hr.x2; have y1 := hr.y1; have y2 := hr.y2
  have K := Lib.hid (fun W' h' => check_field X Y Wn Hn (some ⟨b, o, none⟩) c l W' h')
  rw [hr.chk] at K
  have KP := Lib.hid (fun W' => place_out X Y Wn Hn x y W' w1 w2 h1 h2 (by omega) (by omega) (by omega) (by omega) h)
  have HL := Lib.hid hl
  clear hl hr h w1 w2 h1 h2 x1 x2 y1 y2
  have BA : Below w.heap.size w (w.alloc (.cells #[.int .i64 X, .int .i64 Y, .int .i64 (Wn : Int), .int .i64 (Hn : Int), .slice (some ⟨b, o, none⟩) l.length c] 26)) := (by repeat (first | with_reducible exact Below.refl _ _ | with_reducible apply Below.drew | with_reducible refine below_drewN ?_ _ | (with_reducible refine Below.setCell ?_ ?_ _; rotate_left; focus (first | omega | (simp <;> omega))) | (with_reducible refine Below.alloc ?_ ?_ _; rotate_left; focus (first | omega | (simp <;> omega)))))
  have F0 := Fld.new w X Y Wn Hn (.slice (some ⟨b, o, none⟩) l.length c)
  go_enter Tryz.func7, Tryz.ntmps7
  go_wp2_with fail
  generalize w.alloc (.cells #[.int .i64 X, .int .i64 Y, .int .i64 (Wn : Int), .int .i64 (Hn : Int), .slice (some ⟨b, o, none⟩) l.length c] 26) = W0 at *
  refine (K.out _ (HL.out.below BA)).mono ?_
  rintro e w1 ⟨rfl, b1⟩
  have HF1 := Lib.hid (F0.below b1 F0.lt)
  have HB1 := Lib.hid (BA.trans (b1.mono BA.size))
  clear b1 F0 BA
  obtain ⟨c0, c1, c2, c3, c4⟩ := HF1.out.cells
  go_wp2_with fail
  refine (KP.out _).mono ?_
  rintro e w2 ⟨rfl, b2⟩
  have HB2 := Lib.hid (HB1.out.trans (b2.mono HB1.out.size))
  clear b2
  go_wp2_with fail
  go_ret2
  exact ⟨rfl, HB2.out⟩

set_option maxRecDepth 100000 in
set_option maxHeartbeats 1000000 in
theorem fieldscheck_bad (X Y W H : Int) (a : Option Addr) (c : Nat) (l : List Nat) (x y : Int) (w : World) (hl : Row63 w a l) (h : chkF X Y W H l ≠ 0) :
    Calls Tryz.prog 3 #[fldV X Y W H a l.length c, .int .i64 x, .int .i64 y] w fun e w' => e = .returned (.bool true) ∧ Below w.heap.size w w' := by
  have KR := Lib.hid (fun W' h' => refcheck63 X Y W H a c l W' h')
  have KC := Lib.hid (fun W' h' => check63 X Y W H a c l W' h')
  have K1 := Lib.hid (fun W' h' => at_bad X Y W H a c l x y W' h' h)
  have K2 := Lib.hid (fun W' h' => scale_bad X Y W H a c l 1065353216 0 W' h' h)
  have K3 := Lib.hid (fun W' h' => sum_bad X Y W H a c l 1 W' h' h)
  have K4 := Lib.hid (fun W' h' => print_bad X Y W H a c l W' h' h)
  have K5 := Lib.hid (fun W' h' => range_bad X Y W H a c l W' h' h)
  have HL := Lib.hid hl
  have hb : (chkF X Y W H l != 0) = true := by rw [bne_iff_ne]; exact h
  clear h hl
  generalize chkF X Y W H l = q at *
  have BA : Below w.heap.size w (w.alloc (.cells #[.int .i64 X, .int .i64 Y, .int .i64 W, .int .i64 H, .slice a l.length c] 26)) := (by repeat (first | with_reducible exact Below.refl _ _ | with_reducible apply Below.drew | with_reducible refine below_drewN ?_ _ | (with_reducible refine Below.setCell ?_ ?_ _; rotate_left; focus (first | omega | (simp <;> omega))) | (with_reducible refine Below.alloc ?_ ?_ _; rotate_left; focus (first | omega | (simp <;> omega)))))
  have F0 := Fld.new w X Y W H (.slice a l.length c)
  go_enter Tryz.func3, Tryz.ntmps3
  go_wp2_with fail
  generalize w.alloc (.cells #[.int .i64 X, .int .i64 Y, .int .i64 W, .int .i64 H, .slice a l.length c] 26) = W0 at *
  refine (landed_bel _).mono ?_
  rintro e w1 ⟨rfl, b1⟩
  have HF1 := Lib.hid (F0.below b1 F0.lt)
  have HB1 := Lib.hid (BA.trans (b1.mono BA.size))
  clear b1 F0 BA
  obtain ⟨c0, c1, c2, c3, c4⟩ := HF1.out.cells
  go_wp2_with fail
  refine (KR.out _ (HL.out.below HB1.out)).mono ?_
  rintro e w2 ⟨rfl, b2⟩
  have HF2 := Lib.hid (HF1.out.below b2 HF1.out.lt)
  have HB2 := Lib.hid (HB1.out.trans (b2.mono HB1.out.size))
  clear c0 c1 c2 c3 c4 b2 HF1
  obtain ⟨c0, c1, c2, c3, c4⟩ := HF2.out.cells
  go_wp2_with fail
  refine (KC.out _ (HL.out.below HB2.out)).mono ?_
  rintro e w3 ⟨rfl, b3⟩
  have HF3 := Lib.hid (HF2.out.below b3 HF2.out.lt)
  have HB3 := Lib.hid (HB2.out.trans (b3.mono HB2.out.size))
  clear c0 c1 c2 c3 c4 b3 HF2
  obtain ⟨c0, c1, c2, c3, c4⟩ := HF3.out.cells
  go_wp2_with fail
  refine (K1.out _ (HL.out.below HB3.out)).mono ?_
  rintro e w4 ⟨rfl, b4⟩
  have HF4 := Lib.hid (HF3.out.below b4 HF3.out.lt)
  have HB4 := Lib.hid (HB3.out.trans (b4.mono HB3.out.size))
  clear c0 c1 c2 c3 c4 b4 HF3
  obtain ⟨c0, c1, c2, c3, c4⟩ := HF4.out.cells
  go_wp2_with fail
  refine (K2.out _ (HL.out.below HB4.out)).mono ?_
  rintro e w5 ⟨rfl, b5⟩
  have HF5 := Lib.hid (HF4.out.below b5 HF4.out.lt)
  have HB5 := Lib.hid (HB4.out.trans (b5.mono HB4.out.size))
  clear c0 c1 c2 c3 c4 b5 HF4
  obtain ⟨c0, c1, c2, c3, c4⟩ := HF5.out.cells
  have b6 : Below w5.heap.size w5 (w5.alloc (.cells #[.int .i64 0, .int .i64 0, .int .i64 0, .int .i64 0, .slice none 0 0] 26)) := (by repeat (first | with_reducible exact Below.refl _ _ | with_reducible apply Below.drew | with_reducible refine below_drewN ?_ _ | (with_reducible refine Below.setCell ?_ ?_ _; rotate_left; focus (first | omega | (simp <;> omega))) | (with_reducible refine Below.alloc ?_ ?_ _; rotate_left; focus (first | omega | (simp <;> omega)))))
  have HF6 := Lib.hid (HF5.out.below b6 HF5.out.lt)
  have HB6 := Lib.hid (HB5.out.trans (b6.mono HB5.out.size))
  clear c0 c1 c2 c3 c4 b6 HF5
  obtain ⟨c0, c1, c2, c3, c4⟩ := HF6.out.cells
  go_wp2_with fail
  generalize w5.alloc (.cells #[.int .i64 0, .int .i64 0, .int .i64 0, .int .i64 0, .slice none 0 0] 26) = w6 at *
  refine (K3.out _ (HL.out.below HB6.out)).mono ?_
  rintro e w7 ⟨rfl, b7⟩
  have HF7 := Lib.hid (HF6.out.below b7 HF6.out.lt)
  have HB7 := Lib.hid (HB6.out.trans (b7.mono HB6.out.size))
  clear c0 c1 c2 c3 c4 b7 HF6
  obtain ⟨c0, c1, c2, c3, c4⟩ := HF7.out.cells
  go_wp2_with fail
  refine (K4.out _ (HL.out.below HB7.out)).mono ?_
  rintro e w8 ⟨rfl, b8⟩
  have HF8 := Lib.hid (HF7.out.below b8 HF7.out.lt)
  have HB8 := Lib.hid (HB7.out.trans (b8.mono HB7.out.size))
  clear c0 c1 c2 c3 c4 b8 HF7
  obtain ⟨c0, c1, c2, c3, c4⟩ := HF8.out.cells
  go_wp2_with fail
  refine (K5.out _ (HL.out.below HB8.out)).mono ?_
  rintro e w9 ⟨rfl, b9⟩
  have HB9 := Lib.hid (HB8.out.trans (b9.mono HB8.out.size))
  clear b9
  go_wp2_with fail
  go_ret
  exact ⟨rfl, HB9.out⟩
set_option maxRecDepth 100000 in
set_option maxHeartbeats 1000000 in
theorem fieldscheck_ok (X Y : Int) (Wn Hn b o c : Nat) (l : List Nat) (x y : Int) (w : World) (hl : SRow w (some ⟨b, o, none⟩) l) (hl63 : Row63 w (some ⟨b, o, none⟩) l) (hr : Right X Y Wn Hn l) :
    Calls Tryz.prog 3 #[fldV X Y Wn Hn (some ⟨b, o, none⟩) l.length c, .int .i64 x, .int .i64 y] w fun e w' => e = .returned (.bool true) ∧ Below w.heap.size w w' := by
  have w1 := hr.w1; have w2 := hr.w2; have h1 := hr.h1; have h2 := hr.h2; have x1 := hr.x1; have x2 := hr.x2; have y1 := hr.y1; have y2 := hr.y2
  have KR := Lib.hid (fun W' h' => refcheck63 X Y Wn Hn (some ⟨b, o, none⟩) c l W' h')
  have KC := Lib.hid (fun W' h' => check63 X Y Wn Hn (some ⟨b, o, none⟩) c l W' h')
  rw [hr.chk] at KR KC
  have KI := Lib.hid (fun W' => refinside_one X Y Wn Hn x y W' (by omega) (by omega) (by omega) (by omega) (by omega) (by omega) (by omega) (by omega))
  have KS := Lib.hid (fun W' (h' : SRow W' (some ⟨b, o, none⟩) l) => show Calls Tryz.prog 15 #[fldV X Y Wn Hn (some ⟨b, o, none⟩) l.length c, fldV X Y Wn Hn (some ⟨b, o, none⟩) l.length c] W' fun e w' => e = .returned (.bool true) ∧ Below W'.heap.size W' w' from by
    have := fieldsame_any X Y Wn Hn b o c l X Y Wn Hn b o c l W' h' h'
    have e : smB X Y Wn Hn X Y Wn Hn l l = true := by unfold smB; simp
    rwa [e] at this)
  have HS := Lib.hid hl
  have HL := Lib.hid hl63
  have BA : Below w.heap.size w (w.alloc (.cells #[.int .i64 X, .int .i64 Y, .int .i64 (Wn : Int), .int .i64 (Hn : Int), .slice (some ⟨b, o, none⟩) l.length c] 26)) := (by repeat (first | with_reducible exact Below.refl _ _ | with_reducible apply Below.drew | with_reducible refine below_drewN ?_ _ | (with_reducible refine Below.setCell ?_ ?_ _; rotate_left; focus (first | omega | (simp <;> omega))) | (with_reducible refine Below.alloc ?_ ?_ _; rotate_left; focus (first | omega | (simp <;> omega)))))
  have F0 := Fld.new w X Y Wn Hn (.slice (some ⟨b, o, none⟩) l.length c)
  clear w1 w2 h1 h2 x1 x2 y1 y2
  have hb0 : ((0 : Int) != 0) = false := rfl
  by_cases hi : inR X Y Wn Hn x y
  · have K1 := Lib.hid (fun W' h' => at_in X Y Wn Hn b o c l x y W' h' hr hi)
    have K2 := Lib.hid (fun W' h' => at_right X Y Wn Hn x y b o c l W' h' hr hi.1 hi.2.1 hi.2.2.1 hi.2.2.2)
    have K3 := Lib.hid (fun W' => one_ok (l.getD (cellNo X Y Wn x y).toNat 0) (l.getD (cellNo X Y Wn x y).toNat 0) W')
    rw [decide_eq_true rfl] at K3
    rw [decide_eq_true hi] at KI
    clear hl hl63 hr hi
    generalize l.getD (cellNo X Y Wn x y).toNat 0 = v at *
    go_enter Tryz.func3, Tryz.ntmps3
    go_wp2_with fail
    generalize w.alloc (.cells #[.int .i64 X, .int .i64 Y, .int .i64 (Wn : Int), .int .i64 (Hn : Int), .slice (some ⟨b, o, none⟩) l.length c] 26) = W0 at *
    refine (landed_bel _).mono ?_
    rintro e w1 ⟨rfl, b1⟩
    have HF1 := Lib.hid (F0.below b1 F0.lt)
    have HB1 := Lib.hid (BA.trans (b1.mono BA.size))
    clear b1 F0 BA
    obtain ⟨c0, c1, c2, c3, c4⟩ := HF1.out.cells
    go_wp2_with fail
    refine (KR.out _ (HL.out.below HB1.out)).mono ?_
    rintro e w2 ⟨rfl, b2⟩
    have HF2 := Lib.hid (HF1.out.below b2 HF1.out.lt)
    have HB2 := Lib.hid (HB1.out.trans (b2.mono HB1.out.size))
    clear c0 c1 c2 c3 c4 b2 HF1
    obtain ⟨c0, c1, c2, c3, c4⟩ := HF2.out.cells
    go_wp2_with fail
    refine (KC.out _ (HL.out.below HB2.out)).mono ?_
    rintro e w3 ⟨rfl, b3⟩
    have HF3 := Lib.hid (HF2.out.below b3 HF2.out.lt)
    have HB3 := Lib.hid (HB2.out.trans (b3.mono HB2.out.size))
    clear c0 c1 c2 c3 c4 b3 HF2
    obtain ⟨c0, c1, c2, c3, c4⟩ := HF3.out.cells
    go_wp2_with fail
    refine (K1.out _ (HS.out.below HB3.out)).mono ?_
    rintro e w4 ⟨rfl, b4⟩
    have HF4 := Lib.hid (HF3.out.below b4 HF3.out.lt)
    have HB4 := Lib.hid (HB3.out.trans (b4.mono HB3.out.size))
    clear c0 c1 c2 c3 c4 b4 HF3
    obtain ⟨c0, c1, c2, c3, c4⟩ := HF4.out.cells
    go_wp2_with fail
    refine (KI.out _).mono ?_
    rintro e w5 ⟨rfl, b5⟩
    have HF5 := Lib.hid (HF4.out.below b5 HF4.out.lt)
    have HB5 := Lib.hid (HB4.out.trans (b5.mono HB4.out.size))
    clear c0 c1 c2 c3 c4 b5 HF4
    obtain ⟨c0, c1, c2, c3, c4⟩ := HF5.out.cells
    go_wp2_with fail
    refine (K2.out _ (HS.out.below HB5.out)).mono ?_
    rintro e w6 ⟨rfl, b6⟩
    have HF6 := Lib.hid (HF5.out.below b6 HF5.out.lt)
    have HB6 := Lib.hid (HB5.out.trans (b6.mono HB5.out.size))
    clear c0 c1 c2 c3 c4 b6 HF5
    obtain ⟨c0, c1, c2, c3, c4⟩ := HF6.out.cells
    go_wp2_with fail
    refine (K3.out _).mono ?_
    rintro e w7 ⟨rfl, rfl⟩
    go_wp2_with fail
    refine (KS.out _ (HS.out.below HB6.out)).mono ?_
    rintro e w8 ⟨rfl, b8⟩
    have HB8 := Lib.hid (HB6.out.trans (b8.mono HB6.out.size))
    clear b8
    go_wp2_with fail
    go_ret
    exact ⟨rfl, HB8.out⟩
  · have K1 := Lib.hid (fun W' h' => at_out X Y Wn Hn b o c l x y W' h' hr hi)
    rw [decide_eq_false hi] at KI
    have z0 : (FloatKind.f32.format.order 0 0 == some .eq) = true := by decide
    clear hl hl63 hr hi
    go_enter Tryz.func3, Tryz.ntmps3
    go_wp2_with fail
    generalize w.alloc (.cells #[.int .i64 X, .int .i64 Y, .int .i64 (Wn : Int), .int .i64 (Hn : Int), .slice (some ⟨b, o, none⟩) l.length c] 26) = W0 at *
    refine (landed_bel _).mono ?_
    rintro e w1 ⟨rfl, b1⟩
    have HF1 := Lib.hid (F0.below b1 F0.lt)
    have HB1 := Lib.hid (BA.trans (b1.mono BA.size))
    clear b1 F0 BA
    obtain ⟨c0, c1, c2, c3, c4⟩ := HF1.out.cells
    go_wp2_with fail
    refine (KR.out _ (HL.out.below HB1.out)).mono ?_
    rintro e w2 ⟨rfl, b2⟩
    have HF2 := Lib.hid (HF1.out.below b2 HF1.out.lt)
    have HB2 := Lib.hid (HB1.out.trans (b2.mono HB1.out.size))
    clear c0 c1 c2 c3 c4 b2 HF1
    obtain ⟨c0, c1, c2, c3, c4⟩ := HF2.out.cells
    go_wp2_with fail
    refine (KC.out _ (HL.out.below HB2.out)).mono ?_
    rintro e w3 ⟨rfl, b3⟩
    have HF3 := Lib.hid (HF2.out.below b3 HF2.out.lt)
    have HB3 := Lib.hid (HB2.out.trans (b3.mono HB2.out.size))
    clear c0 c1 c2 c3 c4 b3 HF2
    obtain ⟨c0, c1, c2, c3, c4⟩ := HF3.out.cells
    go_wp2_with fail
    refine (K1.out _ (HS.out.below HB3.out)).mono ?_
    rintro e w4 ⟨rfl, b4⟩
    have HF4 := Lib.hid (HF3.out.below b4 HF3.out.lt)
    have HB4 := Lib.hid (HB3.out.trans (b4.mono HB3.out.size))
    clear c0 c1 c2 c3 c4 b4 HF3
    obtain ⟨c0, c1, c2, c3, c4⟩ := HF4.out.cells
    go_wp2_with fail
    refine (KI.out _).mono ?_
    rintro e w5 ⟨rfl, b5⟩
    have HB5 := Lib.hid (HB4.out.trans (b5.mono HB4.out.size))
    clear b5
    go_wp2_with fail
    go_ret
    exact ⟨rfl, HB5.out⟩
theorem fieldscheck_law (X Y W H : Int) (a : Option Addr) (l : List Nat) (c : Nat) (x y : Int) (w : World) (hl : Row63 w a l) :
    Calls Tryz.prog 3 #[fldV X Y W H a l.length c, .int .i64 x, .int .i64 y] w fun e w' => e = .returned (.bool true) ∧ Below w.heap.size w w' := by
  by_cases h : chkF X Y W H l = 0
  · obtain ⟨Wn, Hn, rfl, rfl, hr⟩ := right_of h
    have hlen : l.length ≤ 65536 := by rw [hr.len, Nat.mul_comm]; exact hr.wh
    have hs := hl.srow hlen
    rcases hs.2 with h0 | ⟨b, o, rfl, _⟩
    · exact absurd h0 hr.ne
    · exact fieldscheck_ok X Y Wn Hn b o c l x y w hs hl hr
  · exact fieldscheck_bad X Y W H a c l x y w hl h
end Go.Proofs.YtfpiklbmmpmkiaaGreatDoor
