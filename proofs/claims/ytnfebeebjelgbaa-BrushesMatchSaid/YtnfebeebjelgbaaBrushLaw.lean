import Derived.Test.YtnfebeebjelgbaaBrushP
import Derived.Deep.RegionHeld3
namespace Go.Proofs.Ytnfebeebjelgbaa
open Go.ChangeShapes Go.WideShapes Go.ChangeAt Go.RowKit
open Ieee.Format (fin finE htE allFin allHt all_true all_false mulF subF addF Ht Bd divF rootF floorF easeF mixF)
set_option linter.unusedVariables false

theorem bits_one (a : Nat) (w : World) : Calls Try.prog 27 #[.float .f32 a, .float .f32 a] w fun e w' => e = .returned (.bool true) ∧ w = w' := by
  have := bits_any a a w
  rw [show decide (a = a) = true from decide_eq_true rfl] at this
  exact this
theorem law_world (w : World) (cs : Array Value) (X Y W H : Int) (v : Value) : ∀ W0, W0 = (w.alloc (.cells cs 79)).alloc (.cells #[.int .i64 X, .int .i64 Y, .int .i64 W, .int .i64 H, v] 36) → Blk W0 w.heap.size cs 79 ∧ Fld W0 (w.heap.size + 1) X Y W H v ∧ Below w.heap.size w W0 := by
  rintro _ rfl
  refine ⟨(Blk.new w _ _).alloc _, ?_, (by repeat (first | with_reducible exact Below.refl _ _ | with_reducible apply Below.drew | with_reducible refine below_drewN ?_ _ | (with_reducible refine Below.setCell ?_ ?_ _; rotate_left; focus (first | omega | (simp <;> omega))) | (with_reducible refine Below.alloc ?_ ?_ _; rotate_left; focus (first | omega | (simp <;> omega)))))⟩
  have := Fld.new (w.alloc (.cells cs 79)) X Y W H v
  simpa using this


set_option maxRecDepth 100000 in
set_option maxHeartbeats 2000000 in
theorem brushes_bad (k BX BY R : Int) (H : Nat) (X Y A B : Int) (a : Option Addr) (l : List Nat) (cap : Nat) (px py : Int) (w : World) (hl : Row63 w a l) (hH : H < 4294967296) (C : Int) (hC : C ≠ 0)
    (KE1 : Hid (∀ w, Calls Try.prog 58 #[brushV k BX BY R H] w fun e w' => e = .returned (.int .i64 C) ∧ Below w.heap.size w w'))
    (KE2 : Hid (∀ w, Calls Try.prog 59 #[brushV k BX BY R H] w fun e w' => e = .returned (.int .i64 C) ∧ Below w.heap.size w w'))
    (KW : Hid (∀ w, Calls Try.prog 60 #[brushV k BX BY R H, .int .i64 px, .int .i64 py] w fun e w' => e = .returned (.tuple #[.float .f32 0, .int .i64 C]) ∧ Below w.heap.size w w'))
    (KX : Hid (∀ w, Calls Try.prog 61 #[brushV k BX BY R H] w fun e w' => e = .returned (.tuple #[reg 0 0 0 0, .int .i64 C]) ∧ Below w.heap.size w w')) :
    Calls Try.prog 10 #[brushV k BX BY R H, fldV X Y A B a l.length cap, .int .i64 px, .int .i64 py] w fun e w' => e = .returned (.bool true) ∧ Below w.heap.size w w' := by
  have HL := Lib.hid hl
  clear hl
  have Q1 := Lib.hid (fun X Y Wn Hn b o c l hr => stamp_pair k BX BY R H hH X Y Wn Hn b o c l hr)
  clear hH
  have hb' : (C != 0) = true := by rw [bne_iff_ne]; exact hC
  clear hC
  obtain ⟨u, hu⟩ : ∃ u : Nat, u = 0 := ⟨_, rfl⟩
  obtain ⟨x0, hx0⟩ : ∃ u : Int, u = 0 := ⟨_, rfl⟩
  obtain ⟨y0, hy0⟩ : ∃ u : Int, u = 0 := ⟨_, rfl⟩
  obtain ⟨w0, hw0⟩ : ∃ u : Int, u = 0 := ⟨_, rfl⟩
  obtain ⟨h0, hh0⟩ : ∃ u : Int, u = 0 := ⟨_, rfl⟩
  rw [← hu] at KW
  have KX : Hid (∀ w, Calls Try.prog 61 #[brushV k BX BY R H] w fun e w' => e = .returned (.tuple #[reg x0 y0 w0 h0, .int .i64 C]) ∧ Below w.heap.size w w') := by subst hx0 hy0 hw0 hh0; exact KX
  have HU := Lib.hid hu
  have HZ := Lib.hid (And.intro hx0 (And.intro hy0 (And.intro hw0 hh0)))
  clear hu hx0 hy0 hw0 hh0
  go_enter Try.func10, Try.ntmps10
  go_wp2_with fail
  generalize hW0 : (w.alloc (.cells #[.int .i64 k, .int .i64 BX, .int .i64 BY, .int .i64 R, .float .f32 H] 79)).alloc (.cells #[.int .i64 X, .int .i64 Y, .int .i64 A, .int .i64 B, .slice a l.length cap] 36) = W0 at *
  obtain ⟨P0, F0, B0⟩ := law_world w #[.int .i64 k, .int .i64 BX, .int .i64 BY, .int .i64 R, .float .f32 H] X Y A B (.slice a l.length cap) W0 hW0.symm
  clear hW0
  refine (landed_bel _).mono ?_
  rintro e w1 ⟨rfl, b1⟩
  have HP1 := Lib.hid (P0.below b1 P0.lt)
  have HF1 := Lib.hid (F0.below b1 F0.lt)
  have HB1 := Lib.hid (B0.trans (b1.mono B0.size))
  clear b1 F0 B0 P0
  have t_0 : w1.cell? ⟨w.heap.size, 0, none⟩ = some (.int .i64 k) := HP1.out.cell 0
  have t_1 : w1.cell? ⟨w.heap.size, 1, none⟩ = some (.int .i64 BX) := HP1.out.cell 1
  have t_2 : w1.cell? ⟨w.heap.size, 2, none⟩ = some (.int .i64 BY) := HP1.out.cell 2
  have t_3 : w1.cell? ⟨w.heap.size, 3, none⟩ = some (.int .i64 R) := HP1.out.cell 3
  have t_4 : w1.cell? ⟨w.heap.size, 4, none⟩ = some (.float .f32 H) := HP1.out.cell 4
  have l0 : w.heap.size < w1.heap.size := HP1.out.lt
  go_wp2_with fail
  refine (KE1.out _).mono ?_
  rintro e w2 ⟨rfl, b2⟩
  have HP2 := Lib.hid (HP1.out.below b2 HP1.out.lt)
  have HF2 := Lib.hid (HF1.out.below b2 HF1.out.lt)
  have HB2 := Lib.hid (HB1.out.trans (b2.mono HB1.out.size))
  clear b2 t_0 t_1 t_2 t_3 t_4 l0 HP1 HF1 HB1 KE1
  have t_0 : w2.cell? ⟨w.heap.size, 0, none⟩ = some (.int .i64 k) := HP2.out.cell 0
  have t_1 : w2.cell? ⟨w.heap.size, 1, none⟩ = some (.int .i64 BX) := HP2.out.cell 1
  have t_2 : w2.cell? ⟨w.heap.size, 2, none⟩ = some (.int .i64 BY) := HP2.out.cell 2
  have t_3 : w2.cell? ⟨w.heap.size, 3, none⟩ = some (.int .i64 R) := HP2.out.cell 3
  have t_4 : w2.cell? ⟨w.heap.size, 4, none⟩ = some (.float .f32 H) := HP2.out.cell 4
  have l0 : w.heap.size < w2.heap.size := HP2.out.lt
  go_wp2_with fail
  refine (KE2.out _).mono ?_
  rintro e w3 ⟨rfl, b3⟩
  have HP3 := Lib.hid (HP2.out.below b3 HP2.out.lt)
  have HF3 := Lib.hid (HF2.out.below b3 HF2.out.lt)
  have HB3 := Lib.hid (HB2.out.trans (b3.mono HB2.out.size))
  clear b3 t_0 t_1 t_2 t_3 t_4 l0 HP2 HF2 HB2 KE2
  have t_0 : w3.cell? ⟨w.heap.size, 0, none⟩ = some (.int .i64 k) := HP3.out.cell 0
  have t_1 : w3.cell? ⟨w.heap.size, 1, none⟩ = some (.int .i64 BX) := HP3.out.cell 1
  have t_2 : w3.cell? ⟨w.heap.size, 2, none⟩ = some (.int .i64 BY) := HP3.out.cell 2
  have t_3 : w3.cell? ⟨w.heap.size, 3, none⟩ = some (.int .i64 R) := HP3.out.cell 3
  have t_4 : w3.cell? ⟨w.heap.size, 4, none⟩ = some (.float .f32 H) := HP3.out.cell 4
  have l0 : w.heap.size < w3.heap.size := HP3.out.lt
  go_wp2_with fail
  refine (KW.out _).mono ?_
  rintro e w4 ⟨rfl, b4⟩
  have HP4 := Lib.hid (HP3.out.below b4 HP3.out.lt)
  have HF4 := Lib.hid (HF3.out.below b4 HF3.out.lt)
  have HB4 := Lib.hid (HB3.out.trans (b4.mono HB3.out.size))
  clear b4 t_0 t_1 t_2 t_3 t_4 l0 HP3 HF3 HB3 KW
  have t_0 : w4.cell? ⟨w.heap.size, 0, none⟩ = some (.int .i64 k) := HP4.out.cell 0
  have t_1 : w4.cell? ⟨w.heap.size, 1, none⟩ = some (.int .i64 BX) := HP4.out.cell 1
  have t_2 : w4.cell? ⟨w.heap.size, 2, none⟩ = some (.int .i64 BY) := HP4.out.cell 2
  have t_3 : w4.cell? ⟨w.heap.size, 3, none⟩ = some (.int .i64 R) := HP4.out.cell 3
  have t_4 : w4.cell? ⟨w.heap.size, 4, none⟩ = some (.float .f32 H) := HP4.out.cell 4
  have l0 : w.heap.size < w4.heap.size := HP4.out.lt
  go_wp2_with fail
  refine (KX.out _).mono ?_
  rintro e w5 ⟨rfl, b5⟩
  have HP5 := Lib.hid (HP4.out.below b5 HP4.out.lt)
  have HF5 := Lib.hid (HF4.out.below b5 HF4.out.lt)
  have HB5 := Lib.hid (HB4.out.trans (b5.mono HB4.out.size))
  have b6 : Below w5.heap.size w5 (w5.alloc (.cells #[.int .i64 x0, .int .i64 y0, .int .i64 w0, .int .i64 h0] 23)) := (by repeat (first | with_reducible exact Below.refl _ _ | with_reducible apply Below.drew | with_reducible refine below_drewN ?_ _ | (with_reducible refine Below.setCell ?_ ?_ _; rotate_left; focus (first | omega | (simp <;> omega))) | (with_reducible refine Below.alloc ?_ ?_ _; rotate_left; focus (first | omega | (simp <;> omega)))))
  have HG6 : Hid (Reg (w5.alloc (.cells #[.int .i64 x0, .int .i64 y0, .int .i64 w0, .int .i64 h0] 23)) w5.heap.size x0 y0 w0 h0) := Reg.new _ _ _ _ _
  have HP6 := Lib.hid (HP5.out.below b6 HP5.out.lt)
  have HF6 := Lib.hid (HF5.out.below b6 HF5.out.lt)
  have HB6 := Lib.hid (HB5.out.trans (b6.mono HB5.out.size))
  have hkf : w.heap.size + 1 < w5.heap.size := HF5.out.lt
  clear b5 b6 t_0 t_1 t_2 t_3 t_4 l0 HP4 HF4 HB4 HP5 HF5 HB5 KX
  obtain ⟨c0, c1, c2, c3, c4⟩ := HF6.out.cells
  go_wp2_with fail
  generalize w5.alloc (.cells #[.int .i64 x0, .int .i64 y0, .int .i64 w0, .int .i64 h0] 23) = w6 at *
  generalize w5.heap.size = kx at *
  refine (fit_any X Y A B a cap l w6 (HL.out.below HB6.out)).mono ?_
  rintro e w7 ⟨X', Y', Wn, Hn, g, cap', l', rfl, hr, hsm, ho, b7⟩
  have F7 := HF6.out.below b7 HF6.out.lt
  have HP7 := Lib.hid (HP6.out.below b7 HP6.out.lt)
  have HG7 := Lib.hid (HG6.out.below b7 HG6.out.lt)
  have HB7 := Lib.hid (HB6.out.trans (b7.mono HB6.out.size))
  have HGN : Hid (g ≠ w.heap.size + 1) := by have := ho.lt.1; have := HF6.out.lt; unfold Hid; omega
  have HO7 := Lib.hid ho
  have HML : Hid (l'.length ≤ 1099511627776) := by
    have h1 := Nat.mul_le_mul hr.h2 hr.w2
    rw [← hr.len] at h1
    unfold Hid; omega
  obtain ⟨D, X1, Y1, W1, H1, S, hS, hp1, hp2⟩ := Q1.out X' Y' Wn Hn g 0 cap' l' hr
  have P1 := Lib.hid hp1
  have P2 := Lib.hid hp2
  have HS := Lib.hid hS
  clear b7 hr ho hsm hp1 hp2 hS Q1 HF6 HP6 HG6 HB6 HL c0 c1 c2 c3 c4
  obtain ⟨c0, c1, c2, c3, c4⟩ := F7.cells
  have qf0 := F7.frozen 0
  have qf1 := F7.frozen 1
  have qf2 := F7.frozen 2
  have qf3 := F7.frozen 3
  have qf4 := F7.frozen 4
  have HF7 := Lib.hid F7
  have hkg : Hid (kx < w7.heap.size) := HG7.out.lt
  have l0 : w.heap.size + 1 < w7.heap.size := F7.lt
  clear F7
  have t_0 : w7.cell? ⟨w.heap.size, 0, none⟩ = some (.int .i64 k) := HP7.out.cell 0
  have t_1 : w7.cell? ⟨w.heap.size, 1, none⟩ = some (.int .i64 BX) := HP7.out.cell 1
  have t_2 : w7.cell? ⟨w.heap.size, 2, none⟩ = some (.int .i64 BY) := HP7.out.cell 2
  have t_3 : w7.cell? ⟨w.heap.size, 3, none⟩ = some (.int .i64 R) := HP7.out.cell 3
  have t_4 : w7.cell? ⟨w.heap.size, 4, none⟩ = some (.float .f32 H) := HP7.out.cell 4
  go_wp2_with fail
  generalize hW8 : ((((w7.setCell ⟨w.heap.size + 1, 0, none⟩ (.int .i64 X')).setCell ⟨w.heap.size + 1, 1, none⟩ (.int .i64 Y')).setCell ⟨w.heap.size + 1, 2, none⟩ (.int .i64 (Wn : Int))).setCell ⟨w.heap.size + 1, 3, none⟩ (.int .i64 (Hn : Int))).setCell ⟨w.heap.size + 1, 4, none⟩ (.slice (some ⟨g, 0, none⟩) l'.length cap') = W8 at *
  obtain ⟨f8, bb8, oo8, _, z8⟩ := fld_store w7 (w.heap.size + 1) X Y A B _ X' Y' Wn Hn (.slice (some ⟨g, 0, none⟩) l'.length cap') HF7.out W8 hW8.symm
  have HF8 := Lib.hid f8
  have HB8 := Lib.hid (HB7.out.trans (bb8.mono (by omega)))
  have HP8 := Lib.hid (HP7.out.below bb8 (by omega))
  have HO8 := Lib.hid (oo8 _ _ _ _ HO7.out HGN.out)
  have HQ8 := Lib.hid (HO8.out.row HML.out)
  have HG8 : Hid (Reg W8 kx x0 y0 w0 h0) := by
    have h := HG7.out
    subst hW8
    exact ((((h.setCell (by simp; omega) _).setCell (by simp; omega) _).setCell (by simp; omega) _).setCell (by simp; omega) _).setCell (by simp; omega) _
  clear t_0 t_1 t_2 t_3 t_4 l0 hW8 f8 bb8 oo8 z8 HO7 HF7 HB7 HP7 HG7 c0 c1 c2 c3 c4 qf0 qf1 qf2 qf3 qf4 HGN hkg
  refine (P1.out W8 HQ8.out).mono ?_
  rintro e w9 ⟨⟨x, y, p, q, aa, n1, kk, rfl, o9⟩, b9⟩
  have HF9 := Lib.hid (HF8.out.below b9 HF8.out.lt)
  have HP9 := Lib.hid (HP8.out.below b9 HP8.out.lt)
  have HG9 := Lib.hid (HG8.out.below b9 HG8.out.lt)
  have HQ9 := Lib.hid (HQ8.out.below b9)
  have HB9 := Lib.hid (HB8.out.trans (b9.mono HB8.out.size))
  have hk9 : w.heap.size + 1 < w9.heap.size := HF9.out.lt
  have hk8 : w.heap.size < w9.heap.size := by omega
  have HV9 := Lib.hid o9
  clear b9 o9 HF8 HP8 HG8 HQ8 HB8 P1
  obtain ⟨c0, c1, c2, c3, c4⟩ := HF9.out.cells
  have t_0 : w9.cell? ⟨w.heap.size, 0, none⟩ = some (.int .i64 k) := HP9.out.cell 0
  have t_1 : w9.cell? ⟨w.heap.size, 1, none⟩ = some (.int .i64 BX) := HP9.out.cell 1
  have t_2 : w9.cell? ⟨w.heap.size, 2, none⟩ = some (.int .i64 BY) := HP9.out.cell 2
  have t_3 : w9.cell? ⟨w.heap.size, 3, none⟩ = some (.int .i64 R) := HP9.out.cell 3
  have t_4 : w9.cell? ⟨w.heap.size, 4, none⟩ = some (.float .f32 H) := HP9.out.cell 4
  go_wp2_with fail
  generalize hW10 : w9.alloc (.cells #[.int .i64 x, .int .i64 y, .int .i64 p, .int .i64 q, .slice aa n1 kk] 36) = W10 at *
  have HM10 : Hid (Fld W10 w9.heap.size x y p q (.slice aa n1 kk)) := by subst hW10; exact Fld.new _ _ _ _ _ _
  have b10 : Below w9.heap.size w9 W10 := by subst hW10; exact (by repeat (first | with_reducible exact Below.refl _ _ | with_reducible apply Below.drew | with_reducible refine below_drewN ?_ _ | (with_reducible refine Below.setCell ?_ ?_ _; rotate_left; focus (first | omega | (simp <;> omega))) | (with_reducible refine Below.alloc ?_ ?_ _; rotate_left; focus (first | omega | (simp <;> omega)))))
  have HV10 := Lib.hid (HV9.out.below b10)
  have HF10 := Lib.hid (HF9.out.below b10 HF9.out.lt)
  have HP10 := Lib.hid (HP9.out.below b10 HP9.out.lt)
  have HG10 := Lib.hid (HG9.out.below b10 HG9.out.lt)
  have HQ10 := Lib.hid (HQ9.out.below b10)
  have HB10 := Lib.hid (HB9.out.trans (b10.mono HB9.out.size))
  clear hW10 b10 HV9 HF9 HP9 HG9 HQ9 HB9 c0 c1 c2 c3 c4 t_0 t_1 t_2 t_3 t_4
  generalize w9.heap.size = ka at *
  refine (P2.out W10 HQ10.out).mono ?_
  rintro e w11 ⟨⟨x2, y2, p2, q2, aa2, n2, k2, rfl, o11⟩, b11⟩
  have HP11 := Lib.hid (HP10.out.below b11 HP10.out.lt)
  have HG11 := Lib.hid (HG10.out.below b11 HG10.out.lt)
  have HM11 := Lib.hid (HM10.out.below b11 HM10.out.lt)
  have HB11 := Lib.hid (HB10.out.trans (b11.mono HB10.out.size))
  have HV11 := Lib.hid (HV10.out.below b11)
  have HU11 := Lib.hid o11
  have hk11 : ka < w11.heap.size := HM11.out.lt
  clear b11 o11 HF10 HP10 HG10 HQ10 HB10 HM10 HV10 P2
  obtain ⟨d0, d1, d2, d3, d4⟩ := HM11.out.cells
  go_wp2_with fail
  generalize hW12 : w11.alloc (.cells #[.int .i64 x2, .int .i64 y2, .int .i64 p2, .int .i64 q2, .slice aa2 n2 k2] 36) = W12 at *
  have b12 : Below w11.heap.size w11 W12 := by subst hW12; exact (by repeat (first | with_reducible exact Below.refl _ _ | with_reducible apply Below.drew | with_reducible refine below_drewN ?_ _ | (with_reducible refine Below.setCell ?_ ?_ _; rotate_left; focus (first | omega | (simp <;> omega))) | (with_reducible refine Below.alloc ?_ ?_ _; rotate_left; focus (first | omega | (simp <;> omega)))))
  have HV12 := Lib.hid (HV11.out.below b12)
  have HU12 := Lib.hid (HU11.out.below b12)
  have HP12 := Lib.hid (HP11.out.below b12 HP11.out.lt)
  have HG12 := Lib.hid (HG11.out.below b12 HG11.out.lt)
  have HB12 := Lib.hid (HB11.out.trans (b12.mono HB11.out.size))
  clear hW12 b12 HV11 HU11 HP11 HG11 HB11 HM11 d0 d1 d2 d3 d4
  refine (same_out HV12.out HU12.out HS.out).mono ?_
  rintro e w13 ⟨rfl, b13⟩
  have HP13 := Lib.hid (HP12.out.below b13 HP12.out.lt)
  have HG13 := Lib.hid (HG12.out.below b13 HG12.out.lt)
  have HB13 := Lib.hid (HB12.out.trans (b13.mono HB12.out.size))
  clear b13 HV12 HU12 HP12 HG12 HB12 hk8 hk9 hk11 hkf HML HS HO8
  obtain ⟨rfl, rfl, rfl, rfl⟩ := HZ.out
  obtain rfl := HU.out
  obtain ⟨d0, d1, d2, d3⟩ := HG13.out.cells
  have kn := fun w => eqlReg 0 0 0 0 0 0 0 0 w
  have kg := fun x y w => eqGuardReg .eql x y 0 0 0 0 0 0 0 0 w
  have ke := zero_eq
  have lk := HG13.out.lt
  go_wp2_with fail
  go_ret
  exact ⟨rfl, (by have h := HB13.out; exact (by have hszz := h.size; repeat (first | with_reducible exact h | with_reducible apply Below.drew | with_reducible refine below_drewN ?_ _ | (with_reducible refine Below.setCell ?_ ?_ _; rotate_left; focus (first | omega | (simp <;> omega))) | (with_reducible refine Below.alloc ?_ ?_ _; rotate_left; focus (first | omega | (simp <;> omega))))))⟩

set_option maxRecDepth 100000 in
set_option maxHeartbeats 2000000 in
theorem brushes_out (k BX BY R : Int) (H : Nat) (X Y A B : Int) (a : Option Addr) (l : List Nat) (cap : Nat) (px py : Int) (w : World) (hl : Row63 w a l) (hH : H < 4294967296) (x0 y0 w0 h0 : Int) (hp : ¬ (-4194304 ≤ px ∧ px ≤ 4194304 ∧ -4194304 ≤ py ∧ py ≤ 4194304))
    (KE1 : Hid (∀ w, Calls Try.prog 58 #[brushV k BX BY R H] w fun e w' => e = .returned (.int .i64 0) ∧ Below w.heap.size w w'))
    (KE2 : Hid (∀ w, Calls Try.prog 59 #[brushV k BX BY R H] w fun e w' => e = .returned (.int .i64 0) ∧ Below w.heap.size w w'))
    (KW : Hid (∀ w, Calls Try.prog 60 #[brushV k BX BY R H, .int .i64 px, .int .i64 py] w fun e w' => e = .returned (.tuple #[.float .f32 0, .int .i64 5]) ∧ Below w.heap.size w w'))
    (KX : Hid (∀ w, Calls Try.prog 61 #[brushV k BX BY R H] w fun e w' => e = .returned (.tuple #[reg x0 y0 w0 h0, .int .i64 0]) ∧ Below w.heap.size w w')) :
    Calls Try.prog 10 #[brushV k BX BY R H, fldV X Y A B a l.length cap, .int .i64 px, .int .i64 py] w fun e w' => e = .returned (.bool true) ∧ Below w.heap.size w w' := by
  have HL := Lib.hid hl
  clear hl
  have Q1 := Lib.hid (fun X Y Wn Hn b o c l hr => stamp_pair k BX BY R H hH X Y Wn Hn b o c l hr)
  clear hH
  have HPL := Lib.hid hp
  clear hp
  obtain ⟨u, hu⟩ : ∃ u : Nat, u = 0 := ⟨_, rfl⟩
  rw [← hu] at KW
  have HU := Lib.hid hu
  clear hu
  go_enter Try.func10, Try.ntmps10
  go_wp2_with fail
  generalize hW0 : (w.alloc (.cells #[.int .i64 k, .int .i64 BX, .int .i64 BY, .int .i64 R, .float .f32 H] 79)).alloc (.cells #[.int .i64 X, .int .i64 Y, .int .i64 A, .int .i64 B, .slice a l.length cap] 36) = W0 at *
  obtain ⟨P0, F0, B0⟩ := law_world w #[.int .i64 k, .int .i64 BX, .int .i64 BY, .int .i64 R, .float .f32 H] X Y A B (.slice a l.length cap) W0 hW0.symm
  clear hW0
  refine (landed_bel _).mono ?_
  rintro e w1 ⟨rfl, b1⟩
  have HP1 := Lib.hid (P0.below b1 P0.lt)
  have HF1 := Lib.hid (F0.below b1 F0.lt)
  have HB1 := Lib.hid (B0.trans (b1.mono B0.size))
  clear b1 F0 B0 P0
  have t_0 : w1.cell? ⟨w.heap.size, 0, none⟩ = some (.int .i64 k) := HP1.out.cell 0
  have t_1 : w1.cell? ⟨w.heap.size, 1, none⟩ = some (.int .i64 BX) := HP1.out.cell 1
  have t_2 : w1.cell? ⟨w.heap.size, 2, none⟩ = some (.int .i64 BY) := HP1.out.cell 2
  have t_3 : w1.cell? ⟨w.heap.size, 3, none⟩ = some (.int .i64 R) := HP1.out.cell 3
  have t_4 : w1.cell? ⟨w.heap.size, 4, none⟩ = some (.float .f32 H) := HP1.out.cell 4
  have l0 : w.heap.size < w1.heap.size := HP1.out.lt
  go_wp2_with fail
  refine (KE1.out _).mono ?_
  rintro e w2 ⟨rfl, b2⟩
  have HP2 := Lib.hid (HP1.out.below b2 HP1.out.lt)
  have HF2 := Lib.hid (HF1.out.below b2 HF1.out.lt)
  have HB2 := Lib.hid (HB1.out.trans (b2.mono HB1.out.size))
  clear b2 t_0 t_1 t_2 t_3 t_4 l0 HP1 HF1 HB1 KE1
  have t_0 : w2.cell? ⟨w.heap.size, 0, none⟩ = some (.int .i64 k) := HP2.out.cell 0
  have t_1 : w2.cell? ⟨w.heap.size, 1, none⟩ = some (.int .i64 BX) := HP2.out.cell 1
  have t_2 : w2.cell? ⟨w.heap.size, 2, none⟩ = some (.int .i64 BY) := HP2.out.cell 2
  have t_3 : w2.cell? ⟨w.heap.size, 3, none⟩ = some (.int .i64 R) := HP2.out.cell 3
  have t_4 : w2.cell? ⟨w.heap.size, 4, none⟩ = some (.float .f32 H) := HP2.out.cell 4
  have l0 : w.heap.size < w2.heap.size := HP2.out.lt
  go_wp2_with fail
  refine (KE2.out _).mono ?_
  rintro e w3 ⟨rfl, b3⟩
  have HP3 := Lib.hid (HP2.out.below b3 HP2.out.lt)
  have HF3 := Lib.hid (HF2.out.below b3 HF2.out.lt)
  have HB3 := Lib.hid (HB2.out.trans (b3.mono HB2.out.size))
  clear b3 t_0 t_1 t_2 t_3 t_4 l0 HP2 HF2 HB2 KE2
  have t_0 : w3.cell? ⟨w.heap.size, 0, none⟩ = some (.int .i64 k) := HP3.out.cell 0
  have t_1 : w3.cell? ⟨w.heap.size, 1, none⟩ = some (.int .i64 BX) := HP3.out.cell 1
  have t_2 : w3.cell? ⟨w.heap.size, 2, none⟩ = some (.int .i64 BY) := HP3.out.cell 2
  have t_3 : w3.cell? ⟨w.heap.size, 3, none⟩ = some (.int .i64 R) := HP3.out.cell 3
  have t_4 : w3.cell? ⟨w.heap.size, 4, none⟩ = some (.float .f32 H) := HP3.out.cell 4
  have l0 : w.heap.size < w3.heap.size := HP3.out.lt
  go_wp2_with fail
  refine (KW.out _).mono ?_
  rintro e w4 ⟨rfl, b4⟩
  have HP4 := Lib.hid (HP3.out.below b4 HP3.out.lt)
  have HF4 := Lib.hid (HF3.out.below b4 HF3.out.lt)
  have HB4 := Lib.hid (HB3.out.trans (b4.mono HB3.out.size))
  clear b4 t_0 t_1 t_2 t_3 t_4 l0 HP3 HF3 HB3 KW
  have t_0 : w4.cell? ⟨w.heap.size, 0, none⟩ = some (.int .i64 k) := HP4.out.cell 0
  have t_1 : w4.cell? ⟨w.heap.size, 1, none⟩ = some (.int .i64 BX) := HP4.out.cell 1
  have t_2 : w4.cell? ⟨w.heap.size, 2, none⟩ = some (.int .i64 BY) := HP4.out.cell 2
  have t_3 : w4.cell? ⟨w.heap.size, 3, none⟩ = some (.int .i64 R) := HP4.out.cell 3
  have t_4 : w4.cell? ⟨w.heap.size, 4, none⟩ = some (.float .f32 H) := HP4.out.cell 4
  have l0 : w.heap.size < w4.heap.size := HP4.out.lt
  go_wp2_with fail
  refine (KX.out _).mono ?_
  rintro e w5 ⟨rfl, b5⟩
  have HP5 := Lib.hid (HP4.out.below b5 HP4.out.lt)
  have HF5 := Lib.hid (HF4.out.below b5 HF4.out.lt)
  have HB5 := Lib.hid (HB4.out.trans (b5.mono HB4.out.size))
  have b6 : Below w5.heap.size w5 (w5.alloc (.cells #[.int .i64 x0, .int .i64 y0, .int .i64 w0, .int .i64 h0] 23)) := (by repeat (first | with_reducible exact Below.refl _ _ | with_reducible apply Below.drew | with_reducible refine below_drewN ?_ _ | (with_reducible refine Below.setCell ?_ ?_ _; rotate_left; focus (first | omega | (simp <;> omega))) | (with_reducible refine Below.alloc ?_ ?_ _; rotate_left; focus (first | omega | (simp <;> omega)))))
  have HG6 : Hid (Reg (w5.alloc (.cells #[.int .i64 x0, .int .i64 y0, .int .i64 w0, .int .i64 h0] 23)) w5.heap.size x0 y0 w0 h0) := Reg.new _ _ _ _ _
  have HP6 := Lib.hid (HP5.out.below b6 HP5.out.lt)
  have HF6 := Lib.hid (HF5.out.below b6 HF5.out.lt)
  have HB6 := Lib.hid (HB5.out.trans (b6.mono HB5.out.size))
  have hkf : w.heap.size + 1 < w5.heap.size := HF5.out.lt
  clear b5 b6 t_0 t_1 t_2 t_3 t_4 l0 HP4 HF4 HB4 HP5 HF5 HB5 KX
  obtain ⟨c0, c1, c2, c3, c4⟩ := HF6.out.cells
  go_wp2_with fail
  generalize w5.alloc (.cells #[.int .i64 x0, .int .i64 y0, .int .i64 w0, .int .i64 h0] 23) = w6 at *
  generalize w5.heap.size = kx at *
  refine (fit_any X Y A B a cap l w6 (HL.out.below HB6.out)).mono ?_
  rintro e w7 ⟨X', Y', Wn, Hn, g, cap', l', rfl, hr, hsm, ho, b7⟩
  have F7 := HF6.out.below b7 HF6.out.lt
  have HP7 := Lib.hid (HP6.out.below b7 HP6.out.lt)
  have HG7 := Lib.hid (HG6.out.below b7 HG6.out.lt)
  have HB7 := Lib.hid (HB6.out.trans (b7.mono HB6.out.size))
  have HGN : Hid (g ≠ w.heap.size + 1) := by have := ho.lt.1; have := HF6.out.lt; unfold Hid; omega
  have HO7 := Lib.hid ho
  have HML : Hid (l'.length ≤ 1099511627776) := by
    have h1 := Nat.mul_le_mul hr.h2 hr.w2
    rw [← hr.len] at h1
    unfold Hid; omega
  obtain ⟨D, X1, Y1, W1, H1, S, hS, hp1, hp2⟩ := Q1.out X' Y' Wn Hn g 0 cap' l' hr
  have P1 := Lib.hid hp1
  have P2 := Lib.hid hp2
  have HS := Lib.hid hS
  clear b7 hr ho hsm hp1 hp2 hS Q1 HF6 HP6 HG6 HB6 HL c0 c1 c2 c3 c4
  obtain ⟨c0, c1, c2, c3, c4⟩ := F7.cells
  have qf0 := F7.frozen 0
  have qf1 := F7.frozen 1
  have qf2 := F7.frozen 2
  have qf3 := F7.frozen 3
  have qf4 := F7.frozen 4
  have HF7 := Lib.hid F7
  have hkg : Hid (kx < w7.heap.size) := HG7.out.lt
  have l0 : w.heap.size + 1 < w7.heap.size := F7.lt
  clear F7
  have t_0 : w7.cell? ⟨w.heap.size, 0, none⟩ = some (.int .i64 k) := HP7.out.cell 0
  have t_1 : w7.cell? ⟨w.heap.size, 1, none⟩ = some (.int .i64 BX) := HP7.out.cell 1
  have t_2 : w7.cell? ⟨w.heap.size, 2, none⟩ = some (.int .i64 BY) := HP7.out.cell 2
  have t_3 : w7.cell? ⟨w.heap.size, 3, none⟩ = some (.int .i64 R) := HP7.out.cell 3
  have t_4 : w7.cell? ⟨w.heap.size, 4, none⟩ = some (.float .f32 H) := HP7.out.cell 4
  go_wp2_with fail
  generalize hW8 : ((((w7.setCell ⟨w.heap.size + 1, 0, none⟩ (.int .i64 X')).setCell ⟨w.heap.size + 1, 1, none⟩ (.int .i64 Y')).setCell ⟨w.heap.size + 1, 2, none⟩ (.int .i64 (Wn : Int))).setCell ⟨w.heap.size + 1, 3, none⟩ (.int .i64 (Hn : Int))).setCell ⟨w.heap.size + 1, 4, none⟩ (.slice (some ⟨g, 0, none⟩) l'.length cap') = W8 at *
  obtain ⟨f8, bb8, oo8, _, z8⟩ := fld_store w7 (w.heap.size + 1) X Y A B _ X' Y' Wn Hn (.slice (some ⟨g, 0, none⟩) l'.length cap') HF7.out W8 hW8.symm
  have HF8 := Lib.hid f8
  have HB8 := Lib.hid (HB7.out.trans (bb8.mono (by omega)))
  have HP8 := Lib.hid (HP7.out.below bb8 (by omega))
  have HO8 := Lib.hid (oo8 _ _ _ _ HO7.out HGN.out)
  have HQ8 := Lib.hid (HO8.out.row HML.out)
  have HG8 : Hid (Reg W8 kx x0 y0 w0 h0) := by
    have h := HG7.out
    subst hW8
    exact ((((h.setCell (by simp; omega) _).setCell (by simp; omega) _).setCell (by simp; omega) _).setCell (by simp; omega) _).setCell (by simp; omega) _
  clear t_0 t_1 t_2 t_3 t_4 l0 hW8 f8 bb8 oo8 z8 HO7 HF7 HB7 HP7 HG7 c0 c1 c2 c3 c4 qf0 qf1 qf2 qf3 qf4 HGN hkg
  refine (P1.out W8 HQ8.out).mono ?_
  rintro e w9 ⟨⟨x, y, p, q, aa, n1, kk, rfl, o9⟩, b9⟩
  have HF9 := Lib.hid (HF8.out.below b9 HF8.out.lt)
  have HP9 := Lib.hid (HP8.out.below b9 HP8.out.lt)
  have HG9 := Lib.hid (HG8.out.below b9 HG8.out.lt)
  have HQ9 := Lib.hid (HQ8.out.below b9)
  have HB9 := Lib.hid (HB8.out.trans (b9.mono HB8.out.size))
  have hk9 : w.heap.size + 1 < w9.heap.size := HF9.out.lt
  have hk8 : w.heap.size < w9.heap.size := by omega
  have HV9 := Lib.hid o9
  clear b9 o9 HF8 HP8 HG8 HQ8 HB8 P1
  obtain ⟨c0, c1, c2, c3, c4⟩ := HF9.out.cells
  have t_0 : w9.cell? ⟨w.heap.size, 0, none⟩ = some (.int .i64 k) := HP9.out.cell 0
  have t_1 : w9.cell? ⟨w.heap.size, 1, none⟩ = some (.int .i64 BX) := HP9.out.cell 1
  have t_2 : w9.cell? ⟨w.heap.size, 2, none⟩ = some (.int .i64 BY) := HP9.out.cell 2
  have t_3 : w9.cell? ⟨w.heap.size, 3, none⟩ = some (.int .i64 R) := HP9.out.cell 3
  have t_4 : w9.cell? ⟨w.heap.size, 4, none⟩ = some (.float .f32 H) := HP9.out.cell 4
  go_wp2_with fail
  generalize hW10 : w9.alloc (.cells #[.int .i64 x, .int .i64 y, .int .i64 p, .int .i64 q, .slice aa n1 kk] 36) = W10 at *
  have HM10 : Hid (Fld W10 w9.heap.size x y p q (.slice aa n1 kk)) := by subst hW10; exact Fld.new _ _ _ _ _ _
  have b10 : Below w9.heap.size w9 W10 := by subst hW10; exact (by repeat (first | with_reducible exact Below.refl _ _ | with_reducible apply Below.drew | with_reducible refine below_drewN ?_ _ | (with_reducible refine Below.setCell ?_ ?_ _; rotate_left; focus (first | omega | (simp <;> omega))) | (with_reducible refine Below.alloc ?_ ?_ _; rotate_left; focus (first | omega | (simp <;> omega)))))
  have HV10 := Lib.hid (HV9.out.below b10)
  have HF10 := Lib.hid (HF9.out.below b10 HF9.out.lt)
  have HP10 := Lib.hid (HP9.out.below b10 HP9.out.lt)
  have HG10 := Lib.hid (HG9.out.below b10 HG9.out.lt)
  have HQ10 := Lib.hid (HQ9.out.below b10)
  have HB10 := Lib.hid (HB9.out.trans (b10.mono HB9.out.size))
  clear hW10 b10 HV9 HF9 HP9 HG9 HQ9 HB9 c0 c1 c2 c3 c4 t_0 t_1 t_2 t_3 t_4
  generalize w9.heap.size = ka at *
  refine (P2.out W10 HQ10.out).mono ?_
  rintro e w11 ⟨⟨x2, y2, p2, q2, aa2, n2, k2, rfl, o11⟩, b11⟩
  have HP11 := Lib.hid (HP10.out.below b11 HP10.out.lt)
  have HG11 := Lib.hid (HG10.out.below b11 HG10.out.lt)
  have HM11 := Lib.hid (HM10.out.below b11 HM10.out.lt)
  have HB11 := Lib.hid (HB10.out.trans (b11.mono HB10.out.size))
  have HV11 := Lib.hid (HV10.out.below b11)
  have HU11 := Lib.hid o11
  have hk11 : ka < w11.heap.size := HM11.out.lt
  clear b11 o11 HF10 HP10 HG10 HQ10 HB10 HM10 HV10 P2
  obtain ⟨d0, d1, d2, d3, d4⟩ := HM11.out.cells
  go_wp2_with fail
  generalize hW12 : w11.alloc (.cells #[.int .i64 x2, .int .i64 y2, .int .i64 p2, .int .i64 q2, .slice aa2 n2 k2] 36) = W12 at *
  have b12 : Below w11.heap.size w11 W12 := by subst hW12; exact (by repeat (first | with_reducible exact Below.refl _ _ | with_reducible apply Below.drew | with_reducible refine below_drewN ?_ _ | (with_reducible refine Below.setCell ?_ ?_ _; rotate_left; focus (first | omega | (simp <;> omega))) | (with_reducible refine Below.alloc ?_ ?_ _; rotate_left; focus (first | omega | (simp <;> omega)))))
  have HV12 := Lib.hid (HV11.out.below b12)
  have HU12 := Lib.hid (HU11.out.below b12)
  have HP12 := Lib.hid (HP11.out.below b12 HP11.out.lt)
  have HG12 := Lib.hid (HG11.out.below b12 HG11.out.lt)
  have HB12 := Lib.hid (HB11.out.trans (b12.mono HB11.out.size))
  clear hW12 b12 HV11 HU11 HP11 HG11 HB11 HM11 d0 d1 d2 d3 d4
  refine (same_out HV12.out HU12.out HS.out).mono ?_
  rintro e w13 ⟨rfl, b13⟩
  have HP13 := Lib.hid (HP12.out.below b13 HP12.out.lt)
  have HG13 := Lib.hid (HG12.out.below b13 HG12.out.lt)
  have HB13 := Lib.hid (HB12.out.trans (b13.mono HB12.out.size))
  clear b13 HV12 HU12 HP12 HG12 HB12 hk8 hk9 hk11 hkf HML HS HO8
  obtain rfl := HU.out
  have ke := zero_eq
  by_cases q1 : px < -4194304
  · go_wp2_with fail
    go_ret
    exact ⟨rfl, (by have h := HB13.out; exact (by have hszz := h.size; repeat (first | with_reducible exact h | with_reducible apply Below.drew | with_reducible refine below_drewN ?_ _ | (with_reducible refine Below.setCell ?_ ?_ _; rotate_left; focus (first | omega | (simp <;> omega))) | (with_reducible refine Below.alloc ?_ ?_ _; rotate_left; focus (first | omega | (simp <;> omega))))))⟩
  · by_cases q2 : 4194304 < px
    · go_wp2_with fail
      go_ret
      exact ⟨rfl, (by have h := HB13.out; exact (by have hszz := h.size; repeat (first | with_reducible exact h | with_reducible apply Below.drew | with_reducible refine below_drewN ?_ _ | (with_reducible refine Below.setCell ?_ ?_ _; rotate_left; focus (first | omega | (simp <;> omega))) | (with_reducible refine Below.alloc ?_ ?_ _; rotate_left; focus (first | omega | (simp <;> omega))))))⟩
    · by_cases q3 : py < -4194304
      · go_wp2_with fail
        go_ret
        exact ⟨rfl, (by have h := HB13.out; exact (by have hszz := h.size; repeat (first | with_reducible exact h | with_reducible apply Below.drew | with_reducible refine below_drewN ?_ _ | (with_reducible refine Below.setCell ?_ ?_ _; rotate_left; focus (first | omega | (simp <;> omega))) | (with_reducible refine Below.alloc ?_ ?_ _; rotate_left; focus (first | omega | (simp <;> omega))))))⟩
      · by_cases q4 : 4194304 < py
        · go_wp2_with fail
          go_ret
          exact ⟨rfl, (by have h := HB13.out; exact (by have hszz := h.size; repeat (first | with_reducible exact h | with_reducible apply Below.drew | with_reducible refine below_drewN ?_ _ | (with_reducible refine Below.setCell ?_ ?_ _; rotate_left; focus (first | omega | (simp <;> omega))) | (with_reducible refine Below.alloc ?_ ?_ _; rotate_left; focus (first | omega | (simp <;> omega))))))⟩
        · exact absurd (by omega) HPL.out

set_option maxRecDepth 100000 in
set_option maxHeartbeats 2000000 in
theorem brushes_in (k BX BY R : Int) (H : Nat) (X Y A B : Int) (a : Option Addr) (l : List Nat) (cap : Nat) (px py : Int) (w : World) (hl : Row63 w a l) (hH : H < 4294967296) (x0 y0 w0 h0 : Int) (u : Nat) (inb : Bool) (hp : -4194304 ≤ px ∧ px ≤ 4194304 ∧ -4194304 ≤ py ∧ py ≤ 4194304) (hu : Share u) (hi : inb = false → u = 0)
    (KE1 : Hid (∀ w, Calls Try.prog 58 #[brushV k BX BY R H] w fun e w' => e = .returned (.int .i64 0) ∧ Below w.heap.size w w'))
    (KE2 : Hid (∀ w, Calls Try.prog 59 #[brushV k BX BY R H] w fun e w' => e = .returned (.int .i64 0) ∧ Below w.heap.size w w'))
    (KW : Hid (∀ w, Calls Try.prog 60 #[brushV k BX BY R H, .int .i64 px, .int .i64 py] w fun e w' => e = .returned (.tuple #[.float .f32 u, .int .i64 0]) ∧ Below w.heap.size w w'))
    (KI : Hid (∀ w, Calls Try.prog 17 #[reg px py 1 1, reg x0 y0 w0 h0] w fun e w' => e = .returned (.bool inb) ∧ Below w.heap.size w w'))
    (KV : Hid (∀ w, Calls Try.prog 64 #[brushV k BX BY R H, .int .i64 px, .int .i64 py] w fun e w' => e = .returned (.float .f32 u) ∧ Below w.heap.size w w'))
    (KY : Hid (∀ w, Calls Try.prog 65 #[brushV k BX BY R H] w fun e w' => e = .returned (reg x0 y0 w0 h0) ∧ Below w.heap.size w w'))
    (KX : Hid (∀ w, Calls Try.prog 61 #[brushV k BX BY R H] w fun e w' => e = .returned (.tuple #[reg x0 y0 w0 h0, .int .i64 0]) ∧ Below w.heap.size w w')) :
    Calls Try.prog 10 #[brushV k BX BY R H, fldV X Y A B a l.length cap, .int .i64 px, .int .i64 py] w fun e w' => e = .returned (.bool true) ∧ Below w.heap.size w w' := by
  have HL := Lib.hid hl
  clear hl
  have Q1 := Lib.hid (fun X Y Wn Hn b o c l hr => stamp_pair k BX BY R H hH X Y Wn Hn b o c l hr)
  clear hH
  have HSH := Lib.hid (share_tests hu)
  have HI := Lib.hid hi
  have HPL := Lib.hid hp
  clear hu hi hp
  go_enter Try.func10, Try.ntmps10
  go_wp2_with fail
  generalize hW0 : (w.alloc (.cells #[.int .i64 k, .int .i64 BX, .int .i64 BY, .int .i64 R, .float .f32 H] 79)).alloc (.cells #[.int .i64 X, .int .i64 Y, .int .i64 A, .int .i64 B, .slice a l.length cap] 36) = W0 at *
  obtain ⟨P0, F0, B0⟩ := law_world w #[.int .i64 k, .int .i64 BX, .int .i64 BY, .int .i64 R, .float .f32 H] X Y A B (.slice a l.length cap) W0 hW0.symm
  clear hW0
  refine (landed_bel _).mono ?_
  rintro e w1 ⟨rfl, b1⟩
  have HP1 := Lib.hid (P0.below b1 P0.lt)
  have HF1 := Lib.hid (F0.below b1 F0.lt)
  have HB1 := Lib.hid (B0.trans (b1.mono B0.size))
  clear b1 F0 B0 P0
  have t_0 : w1.cell? ⟨w.heap.size, 0, none⟩ = some (.int .i64 k) := HP1.out.cell 0
  have t_1 : w1.cell? ⟨w.heap.size, 1, none⟩ = some (.int .i64 BX) := HP1.out.cell 1
  have t_2 : w1.cell? ⟨w.heap.size, 2, none⟩ = some (.int .i64 BY) := HP1.out.cell 2
  have t_3 : w1.cell? ⟨w.heap.size, 3, none⟩ = some (.int .i64 R) := HP1.out.cell 3
  have t_4 : w1.cell? ⟨w.heap.size, 4, none⟩ = some (.float .f32 H) := HP1.out.cell 4
  have l0 : w.heap.size < w1.heap.size := HP1.out.lt
  go_wp2_with fail
  refine (KE1.out _).mono ?_
  rintro e w2 ⟨rfl, b2⟩
  have HP2 := Lib.hid (HP1.out.below b2 HP1.out.lt)
  have HF2 := Lib.hid (HF1.out.below b2 HF1.out.lt)
  have HB2 := Lib.hid (HB1.out.trans (b2.mono HB1.out.size))
  clear b2 t_0 t_1 t_2 t_3 t_4 l0 HP1 HF1 HB1 KE1
  have t_0 : w2.cell? ⟨w.heap.size, 0, none⟩ = some (.int .i64 k) := HP2.out.cell 0
  have t_1 : w2.cell? ⟨w.heap.size, 1, none⟩ = some (.int .i64 BX) := HP2.out.cell 1
  have t_2 : w2.cell? ⟨w.heap.size, 2, none⟩ = some (.int .i64 BY) := HP2.out.cell 2
  have t_3 : w2.cell? ⟨w.heap.size, 3, none⟩ = some (.int .i64 R) := HP2.out.cell 3
  have t_4 : w2.cell? ⟨w.heap.size, 4, none⟩ = some (.float .f32 H) := HP2.out.cell 4
  have l0 : w.heap.size < w2.heap.size := HP2.out.lt
  go_wp2_with fail
  refine (KE2.out _).mono ?_
  rintro e w3 ⟨rfl, b3⟩
  have HP3 := Lib.hid (HP2.out.below b3 HP2.out.lt)
  have HF3 := Lib.hid (HF2.out.below b3 HF2.out.lt)
  have HB3 := Lib.hid (HB2.out.trans (b3.mono HB2.out.size))
  clear b3 t_0 t_1 t_2 t_3 t_4 l0 HP2 HF2 HB2 KE2
  have t_0 : w3.cell? ⟨w.heap.size, 0, none⟩ = some (.int .i64 k) := HP3.out.cell 0
  have t_1 : w3.cell? ⟨w.heap.size, 1, none⟩ = some (.int .i64 BX) := HP3.out.cell 1
  have t_2 : w3.cell? ⟨w.heap.size, 2, none⟩ = some (.int .i64 BY) := HP3.out.cell 2
  have t_3 : w3.cell? ⟨w.heap.size, 3, none⟩ = some (.int .i64 R) := HP3.out.cell 3
  have t_4 : w3.cell? ⟨w.heap.size, 4, none⟩ = some (.float .f32 H) := HP3.out.cell 4
  have l0 : w.heap.size < w3.heap.size := HP3.out.lt
  go_wp2_with fail
  refine (KW.out _).mono ?_
  rintro e w4 ⟨rfl, b4⟩
  have HP4 := Lib.hid (HP3.out.below b4 HP3.out.lt)
  have HF4 := Lib.hid (HF3.out.below b4 HF3.out.lt)
  have HB4 := Lib.hid (HB3.out.trans (b4.mono HB3.out.size))
  clear b4 t_0 t_1 t_2 t_3 t_4 l0 HP3 HF3 HB3 KW
  have t_0 : w4.cell? ⟨w.heap.size, 0, none⟩ = some (.int .i64 k) := HP4.out.cell 0
  have t_1 : w4.cell? ⟨w.heap.size, 1, none⟩ = some (.int .i64 BX) := HP4.out.cell 1
  have t_2 : w4.cell? ⟨w.heap.size, 2, none⟩ = some (.int .i64 BY) := HP4.out.cell 2
  have t_3 : w4.cell? ⟨w.heap.size, 3, none⟩ = some (.int .i64 R) := HP4.out.cell 3
  have t_4 : w4.cell? ⟨w.heap.size, 4, none⟩ = some (.float .f32 H) := HP4.out.cell 4
  have l0 : w.heap.size < w4.heap.size := HP4.out.lt
  go_wp2_with fail
  refine (KX.out _).mono ?_
  rintro e w5 ⟨rfl, b5⟩
  have HP5 := Lib.hid (HP4.out.below b5 HP4.out.lt)
  have HF5 := Lib.hid (HF4.out.below b5 HF4.out.lt)
  have HB5 := Lib.hid (HB4.out.trans (b5.mono HB4.out.size))
  have b6 : Below w5.heap.size w5 (w5.alloc (.cells #[.int .i64 x0, .int .i64 y0, .int .i64 w0, .int .i64 h0] 23)) := (by repeat (first | with_reducible exact Below.refl _ _ | with_reducible apply Below.drew | with_reducible refine below_drewN ?_ _ | (with_reducible refine Below.setCell ?_ ?_ _; rotate_left; focus (first | omega | (simp <;> omega))) | (with_reducible refine Below.alloc ?_ ?_ _; rotate_left; focus (first | omega | (simp <;> omega)))))
  have HG6 : Hid (Reg (w5.alloc (.cells #[.int .i64 x0, .int .i64 y0, .int .i64 w0, .int .i64 h0] 23)) w5.heap.size x0 y0 w0 h0) := Reg.new _ _ _ _ _
  have HP6 := Lib.hid (HP5.out.below b6 HP5.out.lt)
  have HF6 := Lib.hid (HF5.out.below b6 HF5.out.lt)
  have HB6 := Lib.hid (HB5.out.trans (b6.mono HB5.out.size))
  have hkf : w.heap.size + 1 < w5.heap.size := HF5.out.lt
  clear b5 b6 t_0 t_1 t_2 t_3 t_4 l0 HP4 HF4 HB4 HP5 HF5 HB5 KX
  obtain ⟨c0, c1, c2, c3, c4⟩ := HF6.out.cells
  go_wp2_with fail
  generalize w5.alloc (.cells #[.int .i64 x0, .int .i64 y0, .int .i64 w0, .int .i64 h0] 23) = w6 at *
  generalize w5.heap.size = kx at *
  refine (fit_any X Y A B a cap l w6 (HL.out.below HB6.out)).mono ?_
  rintro e w7 ⟨X', Y', Wn, Hn, g, cap', l', rfl, hr, hsm, ho, b7⟩
  have F7 := HF6.out.below b7 HF6.out.lt
  have HP7 := Lib.hid (HP6.out.below b7 HP6.out.lt)
  have HG7 := Lib.hid (HG6.out.below b7 HG6.out.lt)
  have HB7 := Lib.hid (HB6.out.trans (b7.mono HB6.out.size))
  have HGN : Hid (g ≠ w.heap.size + 1) := by have := ho.lt.1; have := HF6.out.lt; unfold Hid; omega
  have HO7 := Lib.hid ho
  have HML : Hid (l'.length ≤ 1099511627776) := by
    have h1 := Nat.mul_le_mul hr.h2 hr.w2
    rw [← hr.len] at h1
    unfold Hid; omega
  obtain ⟨D, X1, Y1, W1, H1, S, hS, hp1, hp2⟩ := Q1.out X' Y' Wn Hn g 0 cap' l' hr
  have P1 := Lib.hid hp1
  have P2 := Lib.hid hp2
  have HS := Lib.hid hS
  clear b7 hr ho hsm hp1 hp2 hS Q1 HF6 HP6 HG6 HB6 HL c0 c1 c2 c3 c4
  obtain ⟨c0, c1, c2, c3, c4⟩ := F7.cells
  have qf0 := F7.frozen 0
  have qf1 := F7.frozen 1
  have qf2 := F7.frozen 2
  have qf3 := F7.frozen 3
  have qf4 := F7.frozen 4
  have HF7 := Lib.hid F7
  have hkg : Hid (kx < w7.heap.size) := HG7.out.lt
  have l0 : w.heap.size + 1 < w7.heap.size := F7.lt
  clear F7
  have t_0 : w7.cell? ⟨w.heap.size, 0, none⟩ = some (.int .i64 k) := HP7.out.cell 0
  have t_1 : w7.cell? ⟨w.heap.size, 1, none⟩ = some (.int .i64 BX) := HP7.out.cell 1
  have t_2 : w7.cell? ⟨w.heap.size, 2, none⟩ = some (.int .i64 BY) := HP7.out.cell 2
  have t_3 : w7.cell? ⟨w.heap.size, 3, none⟩ = some (.int .i64 R) := HP7.out.cell 3
  have t_4 : w7.cell? ⟨w.heap.size, 4, none⟩ = some (.float .f32 H) := HP7.out.cell 4
  go_wp2_with fail
  generalize hW8 : ((((w7.setCell ⟨w.heap.size + 1, 0, none⟩ (.int .i64 X')).setCell ⟨w.heap.size + 1, 1, none⟩ (.int .i64 Y')).setCell ⟨w.heap.size + 1, 2, none⟩ (.int .i64 (Wn : Int))).setCell ⟨w.heap.size + 1, 3, none⟩ (.int .i64 (Hn : Int))).setCell ⟨w.heap.size + 1, 4, none⟩ (.slice (some ⟨g, 0, none⟩) l'.length cap') = W8 at *
  obtain ⟨f8, bb8, oo8, _, z8⟩ := fld_store w7 (w.heap.size + 1) X Y A B _ X' Y' Wn Hn (.slice (some ⟨g, 0, none⟩) l'.length cap') HF7.out W8 hW8.symm
  have HF8 := Lib.hid f8
  have HB8 := Lib.hid (HB7.out.trans (bb8.mono (by omega)))
  have HP8 := Lib.hid (HP7.out.below bb8 (by omega))
  have HO8 := Lib.hid (oo8 _ _ _ _ HO7.out HGN.out)
  have HQ8 := Lib.hid (HO8.out.row HML.out)
  have HG8 : Hid (Reg W8 kx x0 y0 w0 h0) := by
    have h := HG7.out
    subst hW8
    exact ((((h.setCell (by simp; omega) _).setCell (by simp; omega) _).setCell (by simp; omega) _).setCell (by simp; omega) _).setCell (by simp; omega) _
  clear t_0 t_1 t_2 t_3 t_4 l0 hW8 f8 bb8 oo8 z8 HO7 HF7 HB7 HP7 HG7 c0 c1 c2 c3 c4 qf0 qf1 qf2 qf3 qf4 HGN hkg
  refine (P1.out W8 HQ8.out).mono ?_
  rintro e w9 ⟨⟨x, y, p, q, aa, n1, kk, rfl, o9⟩, b9⟩
  have HF9 := Lib.hid (HF8.out.below b9 HF8.out.lt)
  have HP9 := Lib.hid (HP8.out.below b9 HP8.out.lt)
  have HG9 := Lib.hid (HG8.out.below b9 HG8.out.lt)
  have HQ9 := Lib.hid (HQ8.out.below b9)
  have HB9 := Lib.hid (HB8.out.trans (b9.mono HB8.out.size))
  have hk9 : w.heap.size + 1 < w9.heap.size := HF9.out.lt
  have hk8 : w.heap.size < w9.heap.size := by omega
  have HV9 := Lib.hid o9
  clear b9 o9 HF8 HP8 HG8 HQ8 HB8 P1
  obtain ⟨c0, c1, c2, c3, c4⟩ := HF9.out.cells
  have t_0 : w9.cell? ⟨w.heap.size, 0, none⟩ = some (.int .i64 k) := HP9.out.cell 0
  have t_1 : w9.cell? ⟨w.heap.size, 1, none⟩ = some (.int .i64 BX) := HP9.out.cell 1
  have t_2 : w9.cell? ⟨w.heap.size, 2, none⟩ = some (.int .i64 BY) := HP9.out.cell 2
  have t_3 : w9.cell? ⟨w.heap.size, 3, none⟩ = some (.int .i64 R) := HP9.out.cell 3
  have t_4 : w9.cell? ⟨w.heap.size, 4, none⟩ = some (.float .f32 H) := HP9.out.cell 4
  go_wp2_with fail
  generalize hW10 : w9.alloc (.cells #[.int .i64 x, .int .i64 y, .int .i64 p, .int .i64 q, .slice aa n1 kk] 36) = W10 at *
  have HM10 : Hid (Fld W10 w9.heap.size x y p q (.slice aa n1 kk)) := by subst hW10; exact Fld.new _ _ _ _ _ _
  have b10 : Below w9.heap.size w9 W10 := by subst hW10; exact (by repeat (first | with_reducible exact Below.refl _ _ | with_reducible apply Below.drew | with_reducible refine below_drewN ?_ _ | (with_reducible refine Below.setCell ?_ ?_ _; rotate_left; focus (first | omega | (simp <;> omega))) | (with_reducible refine Below.alloc ?_ ?_ _; rotate_left; focus (first | omega | (simp <;> omega)))))
  have HV10 := Lib.hid (HV9.out.below b10)
  have HF10 := Lib.hid (HF9.out.below b10 HF9.out.lt)
  have HP10 := Lib.hid (HP9.out.below b10 HP9.out.lt)
  have HG10 := Lib.hid (HG9.out.below b10 HG9.out.lt)
  have HQ10 := Lib.hid (HQ9.out.below b10)
  have HB10 := Lib.hid (HB9.out.trans (b10.mono HB9.out.size))
  clear hW10 b10 HV9 HF9 HP9 HG9 HQ9 HB9 c0 c1 c2 c3 c4 t_0 t_1 t_2 t_3 t_4
  generalize w9.heap.size = ka at *
  refine (P2.out W10 HQ10.out).mono ?_
  rintro e w11 ⟨⟨x2, y2, p2, q2, aa2, n2, k2, rfl, o11⟩, b11⟩
  have HP11 := Lib.hid (HP10.out.below b11 HP10.out.lt)
  have HG11 := Lib.hid (HG10.out.below b11 HG10.out.lt)
  have HM11 := Lib.hid (HM10.out.below b11 HM10.out.lt)
  have HB11 := Lib.hid (HB10.out.trans (b11.mono HB10.out.size))
  have HV11 := Lib.hid (HV10.out.below b11)
  have HU11 := Lib.hid o11
  have hk11 : ka < w11.heap.size := HM11.out.lt
  clear b11 o11 HF10 HP10 HG10 HQ10 HB10 HM10 HV10 P2
  obtain ⟨d0, d1, d2, d3, d4⟩ := HM11.out.cells
  go_wp2_with fail
  generalize hW12 : w11.alloc (.cells #[.int .i64 x2, .int .i64 y2, .int .i64 p2, .int .i64 q2, .slice aa2 n2 k2] 36) = W12 at *
  have b12 : Below w11.heap.size w11 W12 := by subst hW12; exact (by repeat (first | with_reducible exact Below.refl _ _ | with_reducible apply Below.drew | with_reducible refine below_drewN ?_ _ | (with_reducible refine Below.setCell ?_ ?_ _; rotate_left; focus (first | omega | (simp <;> omega))) | (with_reducible refine Below.alloc ?_ ?_ _; rotate_left; focus (first | omega | (simp <;> omega)))))
  have HV12 := Lib.hid (HV11.out.below b12)
  have HU12 := Lib.hid (HU11.out.below b12)
  have HP12 := Lib.hid (HP11.out.below b12 HP11.out.lt)
  have HG12 := Lib.hid (HG11.out.below b12 HG11.out.lt)
  have HB12 := Lib.hid (HB11.out.trans (b12.mono HB11.out.size))
  clear hW12 b12 HV11 HU11 HP11 HG11 HB11 HM11 d0 d1 d2 d3 d4
  refine (same_out HV12.out HU12.out HS.out).mono ?_
  rintro e w13 ⟨rfl, b13⟩
  have HP13 := Lib.hid (HP12.out.below b13 HP12.out.lt)
  have HG13 := Lib.hid (HG12.out.below b13 HG12.out.lt)
  have HB13 := Lib.hid (HB12.out.trans (b13.mono HB12.out.size))
  clear b13 HV12 HU12 HP12 HG12 HB12 hk8 hk9 hk11 hkf HML HS HO8
  obtain ⟨q1, q2, q3, q4⟩ := HPL.out
  obtain ⟨d0, d1, d2, d3⟩ := HG13.out.cells
  have lk := HG13.out.lt
  go_wp2_with fail
  refine (KI.out _).mono ?_
  rintro e w14 ⟨rfl, b14⟩
  have HP14 := Lib.hid (HP13.out.below b14 HP13.out.lt)
  have HG14 := Lib.hid (HG13.out.below b14 HG13.out.lt)
  have HB14 := Lib.hid (HB13.out.trans (b14.mono HB13.out.size))
  clear b14 HP13 HG13 HB13 d0 d1 d2 d3 lk q1 q2 q3 q4 KI
  obtain ⟨d0, d1, d2, d3⟩ := HG14.out.cells
  have t_0 : w14.cell? ⟨w.heap.size, 0, none⟩ = some (.int .i64 k) := HP14.out.cell 0
  have t_1 : w14.cell? ⟨w.heap.size, 1, none⟩ = some (.int .i64 BX) := HP14.out.cell 1
  have t_2 : w14.cell? ⟨w.heap.size, 2, none⟩ = some (.int .i64 BY) := HP14.out.cell 2
  have t_3 : w14.cell? ⟨w.heap.size, 3, none⟩ = some (.int .i64 R) := HP14.out.cell 3
  have t_4 : w14.cell? ⟨w.heap.size, 4, none⟩ = some (.float .f32 H) := HP14.out.cell 4
  have lk := HG14.out.lt
  have l0 : w.heap.size < w14.heap.size := HP14.out.lt
  obtain ⟨s1, s2⟩ := HSH.out
  have kn := fun w => eqlReg x0 y0 w0 h0 x0 y0 w0 h0 w
  have kg := fun x y w => eqGuardReg .eql x y x0 y0 w0 h0 x0 y0 w0 h0 w
  simp only [beq_self_eq_true, Bool.and_true] at kn
  have KQ := Lib.hid (fun w => bits_one u w)
  cases inb with
  | true =>
    go_wp2_with fail
    first
    | (go_region_held (fun w' => w'.cell? ⟨w.heap.size, 0, none⟩ = some (.int .i64 k) ∧ w'.cell? ⟨w.heap.size, 1, none⟩ = some (.int .i64 BX) ∧ w'.cell? ⟨w.heap.size, 2, none⟩ = some (.int .i64 BY) ∧ w'.cell? ⟨w.heap.size, 3, none⟩ = some (.int .i64 R) ∧ w'.cell? ⟨w.heap.size, 4, none⟩ = some (.float .f32 H) ∧ w'.cell? ⟨kx, 0, none⟩ = some (.int .i64 x0) ∧ w'.cell? ⟨kx, 1, none⟩ = some (.int .i64 y0) ∧ w'.cell? ⟨kx, 2, none⟩ = some (.int .i64 w0) ∧ w'.cell? ⟨kx, 3, none⟩ = some (.int .i64 h0) ∧ Below w14.heap.size w14 w')
        (first
          | exact ⟨t_0, t_1, t_2, t_3, t_4, d0, d1, d2, d3, (Below.refl _ _).drew⟩
          | (go_split_ands
             have hs := hb.size
             have hs2 := (show Below w14.heap.size w14 _ by assumption).size
             refine ⟨?_, ?_, ?_, ?_, ?_, ?_, ?_, ?_, ?_, ?_⟩
             all_goals first
               | (rw [hb.cell (by simp; omega)]; assumption)
               | exact Below.trans (by assumption) (hb.mono (by omega)))
          | (go_split_ands; refine ⟨?_, ?_, ?_, ?_, ?_, ?_, ?_, ?_, ?_, ?_⟩ <;> assumption))
        (first
          | (go_at_call 64; go_split_ands; refine (KV.out _).mono ?_; rintro e2 w2 ⟨rfl, hb⟩)
          | (go_at_call 27; go_split_ands; refine (KQ.out _).mono ?_; rintro e2 w2 ⟨rfl, rfl⟩)
          | (go_at_call 65; go_split_ands; refine (KY.out _).mono ?_; rintro e2 w2 ⟨rfl, hb⟩)))
    | fail
    rename_i hHeld
    have hB := HB14.out.trans (hHeld.2.2.2.2.2.2.2.2.2.mono HB14.out.size)
    clear hHeld
    go_wp2_with fail
    go_ret
    exact ⟨rfl, (by have hszz := hB.size; repeat (first | with_reducible exact hB | with_reducible apply Below.drew | with_reducible refine below_drewN ?_ _ | (with_reducible refine Below.setCell ?_ ?_ _; rotate_left; focus (first | omega | (simp <;> omega))) | (with_reducible refine Below.alloc ?_ ?_ _; rotate_left; focus (first | omega | (simp <;> omega)))))⟩
  | false =>
    obtain rfl := HI.out rfl
    have ke := zero_eq
    go_wp2_with fail
    go_region_held3 (fun w' => w'.cell? ⟨w.heap.size, 0, none⟩ = some (.int .i64 k) ∧ w'.cell? ⟨w.heap.size, 1, none⟩ = some (.int .i64 BX) ∧ w'.cell? ⟨w.heap.size, 2, none⟩ = some (.int .i64 BY) ∧ w'.cell? ⟨w.heap.size, 3, none⟩ = some (.int .i64 R) ∧ w'.cell? ⟨w.heap.size, 4, none⟩ = some (.float .f32 H) ∧ w'.cell? ⟨kx, 0, none⟩ = some (.int .i64 x0) ∧ w'.cell? ⟨kx, 1, none⟩ = some (.int .i64 y0) ∧ w'.cell? ⟨kx, 2, none⟩ = some (.int .i64 w0) ∧ w'.cell? ⟨kx, 3, none⟩ = some (.int .i64 h0) ∧ Below w14.heap.size w14 w')
        (first
          | exact ⟨t_0, t_1, t_2, t_3, t_4, d0, d1, d2, d3, (Below.refl _ _).drew⟩
          | (go_split_ands
             have hs := hb.size
             have hs2 := (show Below w14.heap.size w14 _ by assumption).size
             refine ⟨?_, ?_, ?_, ?_, ?_, ?_, ?_, ?_, ?_, ?_⟩
             all_goals first
               | (rw [hb.cell (by simp; omega)]; assumption)
               | exact Below.trans (by assumption) (hb.mono (by omega)))
          | (go_split_ands; refine ⟨?_, ?_, ?_, ?_, ?_, ?_, ?_, ?_, ?_, ?_⟩ <;> assumption))
        (first
          | (go_at_call 64; go_split_ands; refine (KV.out _).mono ?_; rintro e2 w2 ⟨rfl, hb⟩)
          | (go_at_call 27; go_split_ands; refine (KQ.out _).mono ?_; rintro e2 w2 ⟨rfl, rfl⟩)
          | (go_at_call 65; go_split_ands; refine (KY.out _).mono ?_; rintro e2 w2 ⟨rfl, hb⟩))
    rename_i hHeld
    have hB := HB14.out.trans (hHeld.2.2.2.2.2.2.2.2.2.mono HB14.out.size)
    clear hHeld
    go_wp2_with fail
    go_ret
    exact ⟨rfl, (by have hszz := hB.size; repeat (first | with_reducible exact hB | with_reducible apply Below.drew | with_reducible refine below_drewN ?_ _ | (with_reducible refine Below.setCell ?_ ?_ _; rotate_left; focus (first | omega | (simp <;> omega))) | (with_reducible refine Below.alloc ?_ ?_ _; rotate_left; focus (first | omega | (simp <;> omega)))))⟩
end Go.Proofs.Ytnfebeebjelgbaa
