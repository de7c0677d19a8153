import Derived.Test.YtnfebeebjelgbaaFillOp
namespace Go.Proofs.Ytnfebeebjelgbaa
open Go.ChangeShapes Go.WideShapes Go.ChangeAt Go.RowKit
open Ieee.Format (fin finE htE allFin allHt all_true all_false mulF subF addF Ht Bd divF rootF floorF easeF mixF)
set_option linter.unusedVariables false

/-! ### Cut -/
theorem box_fr (w : World) (X Y W H : Int) (v : Value) (P Q A B : Int) : ∀ W0, W0 = ((w.alloc (.cells #[.int .i64 X, .int .i64 Y, .int .i64 W, .int .i64 H, v] 36)).alloc (.cells #[.int .i64 P, .int .i64 Q, .int .i64 A, .int .i64 B] 23)).alloc (.cells #[.int .i64 0, .int .i64 0, .int .i64 0, .int .i64 0, .slice none 0 0] 36) →
    Fld W0 w.heap.size X Y W H v ∧ Reg W0 (w.heap.size + 1) P Q A B ∧ Fld W0 (w.heap.size + 1 + 1) 0 0 0 0 (.slice none 0 0) ∧ Below w.heap.size w W0 := by
  rintro _ rfl
  refine ⟨((Fld.new w X Y W H v).alloc _).alloc _, ?_, ?_, (by repeat (first | with_reducible exact Below.refl _ _ | with_reducible apply Below.drew | with_reducible refine below_drewN ?_ _ | (with_reducible refine Below.setCell ?_ ?_ _; rotate_left; focus (first | omega | (simp <;> omega))) | (with_reducible refine Below.alloc ?_ ?_ _; rotate_left; focus (first | omega | (simp <;> omega)))))⟩
  · have := (Reg.new (w.alloc (.cells #[.int .i64 X, .int .i64 Y, .int .i64 W, .int .i64 H, v] 36)) P Q A B).alloc (.cells #[.int .i64 0, .int .i64 0, .int .i64 0, .int .i64 0, .slice none 0 0] 36)
    simpa using this
  · have := Fld.new ((w.alloc (.cells #[.int .i64 X, .int .i64 Y, .int .i64 W, .int .i64 H, v] 36)).alloc (.cells #[.int .i64 P, .int .i64 Q, .int .i64 A, .int .i64 B] 23)) 0 0 0 0 (.slice none 0 0)
    simpa using this
theorem insB_parts {a b c d e f g h : Int} (hh : insB a b c d e f g h = true) : e ≤ a ∧ f ≤ b ∧ a + c ≤ e + g ∧ b + d ≤ f + h := by
  unfold insB at hh
  simp at hh
  omega

set_option maxRecDepth 100000 in
theorem cut_chk (X Y : Int) (Wn Hn : Nat) (b o c : Nat) (l : List Nat) (P Q A B : Int) (w : World) (hl : SRow w (some ⟨b, o, none⟩) l) (hr : Right X Y Wn Hn l) (hz : chk P Q A B ≠ 0) :
    Calls Try.prog 28 #[fldV X Y Wn Hn (some ⟨b, o, none⟩) l.length c, reg P Q A B] w fun e w' => e = .returned (.tuple #[fldV 0 0 0 0 none 0 0, .int .i64 (chk P Q A B)]) ∧ Below w.heap.size w w' := by
  have K := Lib.hid (fun w hl => check_field X Y Wn Hn (some ⟨b, o, none⟩) c l w hl)
  rw [hr.chk] at K
  have KC := Lib.hid (fun w => check1 P Q A B w)
  have HL := Lib.hid hl
  clear hl hr
  generalize chk P Q A B = a at *
  have hb' : (a != 0) = true := by rw [bne_iff_ne]; exact hz
  clear hz
  go_enter Try.func28, Try.ntmps28
  go_wp2_with fail
  generalize hW0 : ((w.alloc (.cells #[.int .i64 X, .int .i64 Y, .int .i64 Wn, .int .i64 Hn, .slice (some ⟨b, o, none⟩) l.length c] 36)).alloc (.cells #[.int .i64 P, .int .i64 Q, .int .i64 A, .int .i64 B] 23)).alloc (.cells #[.int .i64 0, .int .i64 0, .int .i64 0, .int .i64 0, .slice none 0 0] 36) = W0 at *
  obtain ⟨E0, P0, F0, B0⟩ := box_fr w X Y Wn Hn (.slice (some ⟨b, o, none⟩) l.length c) P Q A B W0 hW0.symm
  clear hW0
  refine (K.out _ (HL.out.below B0)).mono ?_
  rintro e w1 ⟨rfl, b1⟩
  have HE1 := Lib.hid (E0.below b1 E0.lt)
  have HP1 := Lib.hid (P0.below b1 P0.lt)
  have HF1 := Lib.hid (F0.below b1 F0.lt)
  have HB1 := Lib.hid (B0.trans (b1.mono B0.size))
  clear b1 B0 F0 E0 P0 K
  obtain ⟨p0, p1, p2, p3⟩ := HP1.out.cells
  have l1 := HP1.out.lt
  go_wp2_with fail
  refine (KC.out _).mono ?_
  rintro e w2 ⟨rfl, b2⟩
  have HE2 := Lib.hid (HE1.out.below b2 HE1.out.lt)
  have HP2 := Lib.hid (HP1.out.below b2 HP1.out.lt)
  have HF2 := Lib.hid (HF1.out.below b2 HF1.out.lt)
  have HB2 := Lib.hid (HB1.out.trans (b2.mono HB1.out.size))
  clear b2 p0 p1 p2 p3 l1 HE1 HP1 HF1 HB1 KC
  obtain ⟨d0, d1, d2, d3, d4⟩ := HF2.out.cells
  have qf0 := HF2.out.frozen 0
  have qf1 := HF2.out.frozen 1
  have qf2 := HF2.out.frozen 2
  have qf3 := HF2.out.frozen 3
  have qf4 := HF2.out.frozen 4
  have lz := HF2.out.lt
  go_wp2_with fail
  have B3 := HB2.out
  exact bodyPost_ret (v := .tuple #[fldV 0 0 0 0 none 0 0, .int .i64 a]) (by simp [results, Try.results28, go_sem, *]) rfl ⟨rfl, (by have hszz := B3.size; repeat (first | with_reducible exact B3 | with_reducible apply Below.drew | with_reducible refine below_drewN ?_ _ | (with_reducible refine Below.setCell ?_ ?_ _; rotate_left; focus (first | omega | (simp <;> omega))) | (with_reducible refine Below.alloc ?_ ?_ _; rotate_left; focus (first | omega | (simp <;> omega)))))⟩
set_option maxRecDepth 100000 in
theorem cut_out (X Y : Int) (Wn Hn : Nat) (b o c : Nat) (l : List Nat) (P Q A B : Int) (w : World) (hl : SRow w (some ⟨b, o, none⟩) l) (hr : Right X Y Wn Hn l) (hz : chk P Q A B = 0) (hi : insB P Q A B X Y Wn Hn = false) :
    Calls Try.prog 28 #[fldV X Y Wn Hn (some ⟨b, o, none⟩) l.length c, reg P Q A B] w fun e w' => e = .returned (.tuple #[fldV 0 0 0 0 none 0 0, .int .i64 5]) ∧ Below w.heap.size w w' := by
  have K := Lib.hid (fun w hl => check_field X Y Wn Hn (some ⟨b, o, none⟩) c l w hl)
  rw [hr.chk] at K
  have KC := Lib.hid (fun w => check1 P Q A B w)
  rw [hz] at KC
  obtain ⟨c1, c2, c3, c4, c5, c6, c7, c8, _⟩ := chk_zero hz
  have r1 := hr.w1; have r2 := hr.w2; have r3 := hr.h1; have r4 := hr.h2; have r5 := hr.x1; have r6 := hr.x2; have r7 := hr.y1; have r8 := hr.y2
  have KI := Lib.hid (fun w => inside1 P Q A B X Y Wn Hn w (by omega) (by omega) (by omega) (by omega) (by omega) (by omega) (by omega) (by omega) (by omega) (by omega) (by omega) (by omega) (by omega) (by omega) (by omega) (by omega))
  rw [hi] at KI
  have HL := Lib.hid hl
  clear hl hr hz hi c1 c2 c3 c4 c5 c6 c7 c8 r1 r2 r3 r4 r5 r6 r7 r8
  go_enter Try.func28, Try.ntmps28
  go_wp2_with fail
  generalize hW0 : ((w.alloc (.cells #[.int .i64 X, .int .i64 Y, .int .i64 Wn, .int .i64 Hn, .slice (some ⟨b, o, none⟩) l.length c] 36)).alloc (.cells #[.int .i64 P, .int .i64 Q, .int .i64 A, .int .i64 B] 23)).alloc (.cells #[.int .i64 0, .int .i64 0, .int .i64 0, .int .i64 0, .slice none 0 0] 36) = W0 at *
  obtain ⟨E0, P0, F0, B0⟩ := box_fr w X Y Wn Hn (.slice (some ⟨b, o, none⟩) l.length c) P Q A B W0 hW0.symm
  clear hW0
  refine (K.out _ (HL.out.below B0)).mono ?_
  rintro e w1 ⟨rfl, b1⟩
  have HE1 := Lib.hid (E0.below b1 E0.lt)
  have HP1 := Lib.hid (P0.below b1 P0.lt)
  have HF1 := Lib.hid (F0.below b1 F0.lt)
  have HB1 := Lib.hid (B0.trans (b1.mono B0.size))
  clear b1 B0 F0 E0 P0 K
  obtain ⟨p0, p1, p2, p3⟩ := HP1.out.cells
  have l1 := HP1.out.lt
  go_wp2_with fail
  refine (KC.out _).mono ?_
  rintro e w2 ⟨rfl, b2⟩
  have HE2 := Lib.hid (HE1.out.below b2 HE1.out.lt)
  have HP2 := Lib.hid (HP1.out.below b2 HP1.out.lt)
  have HF2 := Lib.hid (HF1.out.below b2 HF1.out.lt)
  have HB2 := Lib.hid (HB1.out.trans (b2.mono HB1.out.size))
  clear b2 p0 p1 p2 p3 l1 HE1 HP1 HF1 HB1 KC
  obtain ⟨p0, p1, p2, p3⟩ := HP2.out.cells
  have l1 := HP2.out.lt
  obtain ⟨f0, f1, f2, f3, f4⟩ := HE2.out.cells
  have l0 := HE2.out.lt
  go_wp2_with fail
  refine (KI.out _).mono ?_
  rintro e w3 ⟨rfl, b3⟩
  have HE3 := Lib.hid (HE2.out.below b3 HE2.out.lt)
  have HP3 := Lib.hid (HP2.out.below b3 HP2.out.lt)
  have HF3 := Lib.hid (HF2.out.below b3 HF2.out.lt)
  have HB3 := Lib.hid (HB2.out.trans (b3.mono HB2.out.size))
  clear b3 p0 p1 p2 p3 l1 l0 f0 f1 f2 f3 f4 HE2 HP2 HF2 HB2 KI
  obtain ⟨d0, d1, d2, d3, d4⟩ := HF3.out.cells
  have qf0 := HF3.out.frozen 0
  have qf1 := HF3.out.frozen 1
  have qf2 := HF3.out.frozen 2
  have qf3 := HF3.out.frozen 3
  have qf4 := HF3.out.frozen 4
  have lz := HF3.out.lt
  go_wp2_with fail
  have B3 := HB3.out
  exact bodyPost_ret (v := .tuple #[fldV 0 0 0 0 none 0 0, .int .i64 5]) (by simp [results, Try.results28, go_sem, *]) rfl ⟨rfl, (by have hszz := B3.size; repeat (first | with_reducible exact B3 | with_reducible apply Below.drew | with_reducible refine below_drewN ?_ _ | (with_reducible refine Below.setCell ?_ ?_ _; rotate_left; focus (first | omega | (simp <;> omega))) | (with_reducible refine Below.alloc ?_ ?_ _; rotate_left; focus (first | omega | (simp <;> omega)))))⟩

theorem NewF.outv {B : Nat} {X Y W H : Int} {m : List Nat} {w : World} {e : Ending} {w' : World} (hB : B = w.heap.size) (h : NewF B X Y W H m w e w') : (∃ x y p q a n k, e = .returned (fldV x y p q a n k) ∧ OutV 0 X Y W H m w' w.heap.size x y p q a n k) ∧ Below w.heap.size w w' := by
  subst hB
  obtain ⟨g, cap, he, ho, hb⟩ := h
  exact ⟨⟨X, Y, W, H, _, _, cap, he, .inr ⟨rfl, rfl, rfl, rfl, rfl, g, rfl, rfl, ho⟩⟩, hb⟩
set_option maxRecDepth 100000 in
set_option maxHeartbeats 1000000 in
theorem cut_ok (X Y : Int) (Wn Hn : Nat) (b o c : Nat) (l : List Nat) (P Q : Int) (A B : Nat) (w : World) (hl : SRow w (some ⟨b, o, none⟩) l) (hcap : l.length ≤ c) (hr : Right X Y Wn Hn l) (hz : chk P Q A B = 0) (hi : insB P Q A B X Y Wn Hn = true) :
    Calls Try.prog 28 #[fldV X Y Wn Hn (some ⟨b, o, none⟩) l.length c, reg P Q A B] w fun e w' => OpP 0 P Q A B (cutL l X Y Wn P Q A (B * A)) w e w' := by
  have K := Lib.hid (fun w hl => check_field X Y Wn Hn (some ⟨b, o, none⟩) c l w hl)
  rw [hr.chk] at K
  have KC := Lib.hid (fun w => check1 P Q A B w)
  rw [hz] at KC
  obtain ⟨c1, c2, c3, c4, c5, c6, c7, c8, _⟩ := chk_zero hz
  have r1 := hr.w1; have r2 := hr.w2; have r3 := hr.h1; have r4 := hr.h2; have r5 := hr.x1; have r6 := hr.x2; have r7 := hr.y1; have r8 := hr.y2
  have KI := Lib.hid (fun w => inside1 P Q A B X Y Wn Hn w (by omega) (by omega) (by omega) (by omega) (by omega) (by omega) (by omega) (by omega) (by omega) (by omega) (by omega) (by omega) (by omega) (by omega) (by omega) (by omega))
  rw [hi] at KI
  obtain ⟨i1, i2, i3, i4⟩ := insB_parts hi
  have KM := Lib.hid (fun w (hl : SRow w (some ⟨b, o, none⟩) l) => (part_any X Y Wn Hn b o c l P Q A B w hl hcap hr (by omega) (by omega) i1 i3 i2 i4).mono fun e w' h => NewF.outv rfl h)
  have HL := Lib.hid hl
  clear hl hr hz hi c1 c2 c3 c4 c5 c6 c7 c8 r1 r2 r3 r4 r5 r6 r7 r8 i1 i2 i3 i4 hcap
  generalize cutL l X Y Wn P Q A (B * A) = S at *
  go_enter Try.func28, Try.ntmps28
  have HLW := Lib.hid HL.out
  go_wp2_with fail
  generalize hW0 : ((w.alloc (.cells #[.int .i64 X, .int .i64 Y, .int .i64 Wn, .int .i64 Hn, .slice (some ⟨b, o, none⟩) l.length c] 36)).alloc (.cells #[.int .i64 P, .int .i64 Q, .int .i64 (A : Int), .int .i64 (B : Int)] 23)).alloc (.cells #[.int .i64 0, .int .i64 0, .int .i64 0, .int .i64 0, .slice none 0 0] 36) = W0 at *
  obtain ⟨E0, P0, F0, B0⟩ := box_fr w X Y Wn Hn (.slice (some ⟨b, o, none⟩) l.length c) P Q (A : Int) (B : Int) W0 hW0.symm
  clear hW0
  refine (K.out _ (HL.out.below B0)).mono ?_
  rintro e w1 ⟨rfl, b1⟩
  have HE1 := Lib.hid (E0.below b1 E0.lt)
  have HP1 := Lib.hid (P0.below b1 P0.lt)
  have HF1 := Lib.hid (F0.below b1 F0.lt)
  have HB1 := Lib.hid (B0.trans (b1.mono B0.size))
  clear b1 B0 F0 E0 P0 K
  obtain ⟨p0, p1, p2, p3⟩ := HP1.out.cells
  have l1 := HP1.out.lt
  go_wp2_with fail
  refine (KC.out _).mono ?_
  rintro e w2 ⟨rfl, b2⟩
  have HE2 := Lib.hid (HE1.out.below b2 HE1.out.lt)
  have HP2 := Lib.hid (HP1.out.below b2 HP1.out.lt)
  have HF2 := Lib.hid (HF1.out.below b2 HF1.out.lt)
  have HB2 := Lib.hid (HB1.out.trans (b2.mono HB1.out.size))
  clear b2 p0 p1 p2 p3 l1 HE1 HP1 HF1 HB1 KC
  obtain ⟨p0, p1, p2, p3⟩ := HP2.out.cells
  have l1 := HP2.out.lt
  obtain ⟨f0, f1, f2, f3, f4⟩ := HE2.out.cells
  have l0 := HE2.out.lt
  go_wp2_with fail
  refine (KI.out _).mono ?_
  rintro e w3 ⟨rfl, b3⟩
  have HE3 := Lib.hid (HE2.out.below b3 HE2.out.lt)
  have HP3 := Lib.hid (HP2.out.below b3 HP2.out.lt)
  have HF3 := Lib.hid (HF2.out.below b3 HF2.out.lt)
  have HB3 := Lib.hid (HB2.out.trans (b3.mono HB2.out.size))
  clear b3 p0 p1 p2 p3 l1 l0 f0 f1 f2 f3 f4 HE2 HP2 HF2 HB2 KI
  obtain ⟨p0, p1, p2, p3⟩ := HP3.out.cells
  have l1 := HP3.out.lt
  obtain ⟨f0, f1, f2, f3, f4⟩ := HE3.out.cells
  have l0 := HE3.out.lt
  go_wp2_with fail
  refine (KM.out _ (HLW.out.below HB3.out)).mono ?_
  rintro e w7 ⟨⟨x, y, p, q, a, m, k, rfl, o7⟩, b7⟩
  have HOZ := Lib.hid o7
  have HFZ := Lib.hid (HF3.out.below b7 HF3.out.lt)
  have HBZ := Lib.hid (HB3.out.trans (b7.mono HB3.out.size))
  have HZB : Hid (w.heap.size + 1 + 1 < w3.heap.size) := HF3.out.lt
  have HBB : Hid (w.heap.size ≤ w3.heap.size) := HB3.out.size
  clear o7 b7 KM HE3 HP3 HF3 HB3 p0 p1 p2 p3 l1 f0 f1 f2 f3 f4 l0
  obtain ⟨d0, d1, d2, d3, d4⟩ := HFZ.out.cells
  have qf0 := HFZ.out.frozen 0
  have qf1 := HFZ.out.frozen 1
  have qf2 := HFZ.out.frozen 2
  have qf3 := HFZ.out.frozen 3
  have qf4 := HFZ.out.frozen 4
  have lz := HFZ.out.lt
  go_wp2_with fail
  generalize hW5 : ((((w7.setCell ⟨w.heap.size + 1 + 1, 0, none⟩ (.int .i64 x)).setCell ⟨w.heap.size + 1 + 1, 1, none⟩ (.int .i64 y)).setCell ⟨w.heap.size + 1 + 1, 2, none⟩ (.int .i64 p)).setCell ⟨w.heap.size + 1 + 1, 3, none⟩ (.int .i64 q)).setCell ⟨w.heap.size + 1 + 1, 4, none⟩ (.slice a m k) = W5 at *
  obtain ⟨f5, bb5, oo5, _, z5⟩ := fld_store w7 (w.heap.size + 1 + 1) 0 0 0 0 _ x y p q (.slice a m k) HFZ.out W5 hW5.symm
  have hO5 := (HOZ.out.set oo5 HZB.out).base HBB.out
  have hB5 := HBZ.out.trans (bb5.mono (by omega))
  clear d0 d1 d2 d3 d4 qf0 qf1 qf2 qf3 qf4 hW5 oo5
  obtain ⟨d0, d1, d2, d3, d4⟩ := f5.cells
  exact bodyPost_ret (v := .tuple #[fldV x y p q a m k, .int .i64 0]) (by simp [results, Try.results28, go_sem, *]) rfl ⟨⟨x, y, p, q, a, m, k, rfl, hO5⟩, hB5⟩
end Go.Proofs.Ytnfebeebjelgbaa
