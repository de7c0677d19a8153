import Derived.Test.YtnfebeebjelgbaaAspP
namespace Go.Proofs.Ytnfebeebjelgbaa
open Go.ChangeShapes Go.WideShapes Go.ChangeAt Go.RowKit
open Ieee.Format (fin finE htE allFin allHt all_true all_false mulF subF addF Ht Bd divF rootF floorF easeF mixF)
set_option linter.unusedVariables false
open Ieee.Format (nxF nyF nzF)

theorem refinside_place (X Y : Int) (Wn Hn : Nat) (x y : Int) (w : World) (hw : 1 ≤ Wn) (hw2 : Wn ≤ 512) (hh : 1 ≤ Hn) (hh2 : Hn ≤ 512) (hx0 : -8388608 ≤ X) (hx1 : X ≤ 8388608) (hy0 : -8388608 ≤ Y) (hy1 : Y ≤ 8388608) :
    Calls Try.prog 17 #[reg x y 1 1, reg X Y Wn Hn] w fun e w' => e = .returned (.bool (decide (inR X Y Wn Hn x y))) ∧ Below w.heap.size w w' := by
  go_enter Try.func17, Try.ntmps17
  go_wp2
  all_goals
    go_ret
    refine ⟨ret_bool ?_, (by repeat (first | with_reducible exact Below.refl _ _ | with_reducible apply Below.drew | with_reducible refine below_drewN ?_ _ | (with_reducible refine Below.setCell ?_ ?_ _; rotate_left; focus (first | omega | (simp <;> omega))) | (with_reducible refine Below.alloc ?_ ?_ _; rotate_left; focus (first | omega | (simp <;> omega)))))⟩
    show _ = decide (inR X Y Wn Hn x y)
    unfold inR; grind


theorem normal_no (X Y : Int) (Wn Hn : Nat) (b o c : Nat) (l : List Nat) (x y : Int) (w : World) (hl : SRow w (some ⟨b, o, none⟩) l) (hr : Right X Y Wn Hn l) (h : Wn < 3 ∨ Hn < 3) :
    Calls Try.prog 86 #[fldV X Y Wn Hn (some ⟨b, o, none⟩) l.length c, .int .i64 x, .int .i64 y] w fun e w' => e = .returned (.tuple #[.float .f32 0, .float .f32 0, .float .f32 0, .int .i64 10]) ∧ Below w.heap.size w w' := by
  have KI := Lib.hid (fun w hl => inner_no X Y Wn Hn b o c l w hl hr h)
  have HL := Lib.hid hl
  clear hl hr h
  go_enter Try.func86, Try.ntmps86
  go_wp2_with fail
  generalize hW0 : w.alloc (.cells #[.int .i64 X, .int .i64 Y, .int .i64 Wn, .int .i64 Hn, .slice (some ⟨b, o, none⟩) l.length c] 36) = W0 at *
  have E0 : Fld W0 w.heap.size X Y Wn Hn (.slice (some ⟨b, o, none⟩) l.length c) := by subst hW0; exact Fld.new _ _ _ _ _ _
  have B0 : Below w.heap.size w W0 := by subst hW0; exact (by repeat (first | with_reducible exact Below.refl _ _ | with_reducible apply Below.drew | with_reducible refine below_drewN ?_ _ | (with_reducible refine Below.setCell ?_ ?_ _; rotate_left; focus (first | omega | (simp <;> omega))) | (with_reducible refine Below.alloc ?_ ?_ _; rotate_left; focus (first | omega | (simp <;> omega)))))
  clear hW0
  refine (KI.out _ (HL.out.below B0)).mono ?_
  rintro e w1 ⟨rfl, b1⟩
  have HE1 := Lib.hid (E0.below b1 E0.lt)
  have HL1 := Lib.hid ((HL.out.below B0).below b1)
  have HB1 := Lib.hid (B0.trans (b1.mono B0.size))
  clear b1 B0 E0 KI HL
  go_wp2_with fail
  have B1 := HB1.out
  exact bodyPost_ret (v := .tuple #[.float .f32 0, .float .f32 0, .float .f32 0, .int .i64 10]) (by simp [results, Try.results86, go_sem, *]) rfl ⟨rfl, (by have hszz := B1.size; repeat (first | with_reducible exact B1 | with_reducible apply Below.drew | with_reducible refine below_drewN ?_ _ | (with_reducible refine Below.setCell ?_ ?_ _; rotate_left; focus (first | omega | (simp <;> omega))) | (with_reducible refine Below.alloc ?_ ?_ _; rotate_left; focus (first | omega | (simp <;> omega)))))⟩
theorem refnormal_no (X Y : Int) (Wn Hn : Nat) (b o c : Nat) (l : List Nat) (x y : Int) (w : World) (hl : SRow w (some ⟨b, o, none⟩) l) (hr : Right X Y Wn Hn l) (hx : -1000000 ≤ X ∧ X ≤ 1000000 ∧ -1000000 ≤ Y ∧ Y ≤ 1000000) (h : Wn < 3 ∨ Hn < 3) :
    Calls Try.prog 87 #[fldV X Y Wn Hn (some ⟨b, o, none⟩) l.length c, .int .i64 x, .int .i64 y] w fun e w' => e = .returned (.tuple #[.float .f32 0, .float .f32 0, .float .f32 0, .int .i64 10]) ∧ Below w.heap.size w w' := by
  have KI := Lib.hid (fun w => refinner_rno X Y Wn Hn (some ⟨b, o, none⟩) l.length c l w hr hx h)
  have HL := Lib.hid hl
  clear hl hr h hx
  go_enter Try.func87, Try.ntmps87
  go_wp2_with fail
  generalize hW0 : w.alloc (.cells #[.int .i64 X, .int .i64 Y, .int .i64 Wn, .int .i64 Hn, .slice (some ⟨b, o, none⟩) l.length c] 36) = W0 at *
  have E0 : Fld W0 w.heap.size X Y Wn Hn (.slice (some ⟨b, o, none⟩) l.length c) := by subst hW0; exact Fld.new _ _ _ _ _ _
  have B0 : Below w.heap.size w W0 := by subst hW0; exact (by repeat (first | with_reducible exact Below.refl _ _ | with_reducible apply Below.drew | with_reducible refine below_drewN ?_ _ | (with_reducible refine Below.setCell ?_ ?_ _; rotate_left; focus (first | omega | (simp <;> omega))) | (with_reducible refine Below.alloc ?_ ?_ _; rotate_left; focus (first | omega | (simp <;> omega)))))
  clear hW0
  refine (KI.out _ ).mono ?_
  rintro e w1 ⟨rfl, b1⟩
  have HE1 := Lib.hid (E0.below b1 E0.lt)
  have HL1 := Lib.hid ((HL.out.below B0).below b1)
  have HB1 := Lib.hid (B0.trans (b1.mono B0.size))
  clear b1 B0 E0 KI HL
  go_wp2_with fail
  have B1 := HB1.out
  exact bodyPost_ret (v := .tuple #[.float .f32 0, .float .f32 0, .float .f32 0, .int .i64 10]) (by simp [results, Try.results87, go_sem, *]) rfl ⟨rfl, (by have hszz := B1.size; repeat (first | with_reducible exact B1 | with_reducible apply Below.drew | with_reducible refine below_drewN ?_ _ | (with_reducible refine Below.setCell ?_ ?_ _; rotate_left; focus (first | omega | (simp <;> omega))) | (with_reducible refine Below.alloc ?_ ?_ _; rotate_left; focus (first | omega | (simp <;> omega)))))⟩

/-- what of the rim's size is told -/
theorem rim {X Y : Int} {Wn Hn : Nat} {l : List Nat} (hr : Right X Y Wn Hn l) (h3 : 3 ≤ Wn) (h4 : 3 ≤ Hn) : 1 ≤ Wn - 2 ∧ Wn - 2 ≤ 512 ∧ 1 ≤ Hn - 2 ∧ Hn - 2 ≤ 512 ∧ -8388608 ≤ X + 1 ∧ X + 1 ≤ 8388608 ∧ -8388608 ≤ Y + 1 ∧ Y + 1 ≤ 8388608 := by
  have g1 := hr.w2; have g2 := hr.h2; have g3 := hr.x1; have g4 := hr.x2; have g5 := hr.y1; have g6 := hr.y2
  omega
theorem rim_in {X Y x y : Int} {Wn Hn : Nat} (h3 : 3 ≤ Wn) (h4 : 3 ≤ Hn) (h : inR (X + 1) (Y + 1) ((Wn - 2 : Nat) : Int) ((Hn - 2 : Nat) : Int) x y) : InnerAt X Y Wn Hn x y (cellNo X Y Wn x y).toNat := by
  obtain ⟨a1, a2, a3, a4⟩ := h
  exact InnerAt.of (by omega) (by omega) (by omega) (by omega)

set_option maxRecDepth 100000 in
theorem normal_out (X Y : Int) (Wn Hn : Nat) (b o c : Nat) (l : List Nat) (x y : Int) (w : World) (hl : SRow w (some ⟨b, o, none⟩) l) (hr : Right X Y Wn Hn l) (h3 : 3 ≤ Wn) (h4 : 3 ≤ Hn) (h : ¬ inR (X + 1) (Y + 1) ((Wn - 2 : Nat) : Int) ((Hn - 2 : Nat) : Int) x y) :
    Calls Try.prog 86 #[fldV X Y Wn Hn (some ⟨b, o, none⟩) l.length c, .int .i64 x, .int .i64 y] w fun e w' => e = .returned (.tuple #[.float .f32 0, .float .f32 0, .float .f32 0, .int .i64 5]) ∧ Below w.heap.size w w' := by
  have KI := Lib.hid (fun w hl => inner_ok X Y Wn Hn b o c l w hl hr h3 h4)
  obtain ⟨r1, r2, r3, r4, r5, r6, r7, r8⟩ := rim hr h3 h4
  have KP := Lib.hid (fun w => place_out (X + 1) (Y + 1) (Wn - 2) (Hn - 2) x y w r1 r2 r3 r4 r5 r6 r7 r8 h)
  have HL := Lib.hid hl
  clear hl hr h3 h4 h r1 r2 r3 r4 r5 r6 r7 r8
  generalize Wn - 2 = W2 at *
  generalize Hn - 2 = H2 at *
  go_enter Try.func86, Try.ntmps86
  go_wp2_with fail
  generalize hW0 : w.alloc (.cells #[.int .i64 X, .int .i64 Y, .int .i64 Wn, .int .i64 Hn, .slice (some ⟨b, o, none⟩) l.length c] 36) = W0 at *
  have E0 : Fld W0 w.heap.size X Y Wn Hn (.slice (some ⟨b, o, none⟩) l.length c) := by subst hW0; exact Fld.new _ _ _ _ _ _
  have B0 : Below w.heap.size w W0 := by subst hW0; exact (by repeat (first | with_reducible exact Below.refl _ _ | with_reducible apply Below.drew | with_reducible refine below_drewN ?_ _ | (with_reducible refine Below.setCell ?_ ?_ _; rotate_left; focus (first | omega | (simp <;> omega))) | (with_reducible refine Below.alloc ?_ ?_ _; rotate_left; focus (first | omega | (simp <;> omega)))))
  clear hW0
  refine (KI.out _ (HL.out.below B0)).mono ?_
  rintro e w1 ⟨rfl, b1⟩
  have HE1 := Lib.hid (E0.below b1 E0.lt)
  have HL1 := Lib.hid ((HL.out.below B0).below b1)
  have HB1 := Lib.hid (B0.trans (b1.mono B0.size))
  clear b1 B0 E0 KI HL
  have b2 : Below w1.heap.size w1 (w1.alloc (.cells #[.int .i64 (X + 1), .int .i64 (Y + 1), .int .i64 (W2 : Int), .int .i64 (H2 : Int)] 23)) := (by repeat (first | with_reducible exact Below.refl _ _ | with_reducible apply Below.drew | with_reducible refine below_drewN ?_ _ | (with_reducible refine Below.setCell ?_ ?_ _; rotate_left; focus (first | omega | (simp <;> omega))) | (with_reducible refine Below.alloc ?_ ?_ _; rotate_left; focus (first | omega | (simp <;> omega)))))
  have HE2 := Lib.hid (HE1.out.below b2 HE1.out.lt)
  have HL2 := Lib.hid (HL1.out.below b2)
  have HB2 := Lib.hid (HB1.out.trans (b2.mono HB1.out.size))
  clear HE1 HL1 HB1 b2
  go_wp2_with fail
  refine (KP.out _).mono ?_
  rintro e w3 ⟨rfl, b3⟩
  have HE3 := Lib.hid (HE2.out.below b3 HE2.out.lt)
  have HL3 := Lib.hid (HL2.out.below b3)
  have HB3 := Lib.hid (HB2.out.trans (b3.mono HB2.out.size))
  clear HE2 HL2 HB2 b3 KP
  obtain ⟨c0, c1, c2, c3, c4⟩ := HE3.out.cells
  have l0 := HE3.out.lt
  go_wp2_with fail
  have B1 := HB3.out
  exact bodyPost_ret (v := .tuple #[.float .f32 0, .float .f32 0, .float .f32 0, .int .i64 5]) (by simp [results, Try.results86, go_sem, *]) rfl ⟨rfl, (by have hszz := B1.size; repeat (first | with_reducible exact B1 | with_reducible apply Below.drew | with_reducible refine below_drewN ?_ _ | (with_reducible refine Below.setCell ?_ ?_ _; rotate_left; focus (first | omega | (simp <;> omega))) | (with_reducible refine Below.alloc ?_ ?_ _; rotate_left; focus (first | omega | (simp <;> omega)))))⟩
set_option maxRecDepth 100000 in
theorem refnormal_out (X Y : Int) (Wn Hn : Nat) (b o c : Nat) (l : List Nat) (x y : Int) (w : World) (hl : SRow w (some ⟨b, o, none⟩) l) (hr : Right X Y Wn Hn l) (h3 : 3 ≤ Wn) (h4 : 3 ≤ Hn) (h : ¬ inR (X + 1) (Y + 1) ((Wn - 2 : Nat) : Int) ((Hn - 2 : Nat) : Int) x y) :
    Calls Try.prog 87 #[fldV X Y Wn Hn (some ⟨b, o, none⟩) l.length c, .int .i64 x, .int .i64 y] w fun e w' => e = .returned (.tuple #[.float .f32 0, .float .f32 0, .float .f32 0, .int .i64 5]) ∧ Below w.heap.size w w' := by
  have KI := Lib.hid (fun w => refinner_ryes X Y Wn Hn (some ⟨b, o, none⟩) l.length c l w hr h3 h4)
  obtain ⟨r1, r2, r3, r4, r5, r6, r7, r8⟩ := rim hr h3 h4
  have KP := Lib.hid (fun w => refinside_place (X + 1) (Y + 1) (Wn - 2) (Hn - 2) x y w r1 r2 r3 r4 r5 r6 r7 r8)
  rw [decide_eq_false h] at KP
  have HL := Lib.hid hl
  clear hl hr h3 h4 h r1 r2 r3 r4 r5 r6 r7 r8
  generalize Wn - 2 = W2 at *
  generalize Hn - 2 = H2 at *
  go_enter Try.func87, Try.ntmps87
  go_wp2_with fail
  generalize hW0 : w.alloc (.cells #[.int .i64 X, .int .i64 Y, .int .i64 Wn, .int .i64 Hn, .slice (some ⟨b, o, none⟩) l.length c] 36) = W0 at *
  have E0 : Fld W0 w.heap.size X Y Wn Hn (.slice (some ⟨b, o, none⟩) l.length c) := by subst hW0; exact Fld.new _ _ _ _ _ _
  have B0 : Below w.heap.size w W0 := by subst hW0; exact (by repeat (first | with_reducible exact Below.refl _ _ | with_reducible apply Below.drew | with_reducible refine below_drewN ?_ _ | (with_reducible refine Below.setCell ?_ ?_ _; rotate_left; focus (first | omega | (simp <;> omega))) | (with_reducible refine Below.alloc ?_ ?_ _; rotate_left; focus (first | omega | (simp <;> omega)))))
  clear hW0
  refine (KI.out _ ).mono ?_
  rintro e w1 ⟨rfl, b1⟩
  have HE1 := Lib.hid (E0.below b1 E0.lt)
  have HL1 := Lib.hid ((HL.out.below B0).below b1)
  have HB1 := Lib.hid (B0.trans (b1.mono B0.size))
  clear b1 B0 E0 KI HL
  have b2 : Below w1.heap.size w1 (w1.alloc (.cells #[.int .i64 (X + 1), .int .i64 (Y + 1), .int .i64 (W2 : Int), .int .i64 (H2 : Int)] 23)) := (by repeat (first | with_reducible exact Below.refl _ _ | with_reducible apply Below.drew | with_reducible refine below_drewN ?_ _ | (with_reducible refine Below.setCell ?_ ?_ _; rotate_left; focus (first | omega | (simp <;> omega))) | (with_reducible refine Below.alloc ?_ ?_ _; rotate_left; focus (first | omega | (simp <;> omega)))))
  have HE2 := Lib.hid (HE1.out.below b2 HE1.out.lt)
  have HL2 := Lib.hid (HL1.out.below b2)
  have HB2 := Lib.hid (HB1.out.trans (b2.mono HB1.out.size))
  clear HE1 HL1 HB1 b2
  go_wp2_with fail
  refine (KP.out _).mono ?_
  rintro e w3 ⟨rfl, b3⟩
  have HE3 := Lib.hid (HE2.out.below b3 HE2.out.lt)
  have HL3 := Lib.hid (HL2.out.below b3)
  have HB3 := Lib.hid (HB2.out.trans (b3.mono HB2.out.size))
  clear HE2 HL2 HB2 b3 KP
  obtain ⟨c0, c1, c2, c3, c4⟩ := HE3.out.cells
  have l0 := HE3.out.lt
  go_wp2_with fail
  have B1 := HB3.out
  exact bodyPost_ret (v := .tuple #[.float .f32 0, .float .f32 0, .float .f32 0, .int .i64 5]) (by simp [results, Try.results87, go_sem, *]) rfl ⟨rfl, (by have hszz := B1.size; repeat (first | with_reducible exact B1 | with_reducible apply Below.drew | with_reducible refine below_drewN ?_ _ | (with_reducible refine Below.setCell ?_ ?_ _; rotate_left; focus (first | omega | (simp <;> omega))) | (with_reducible refine Below.alloc ?_ ?_ _; rotate_left; focus (first | omega | (simp <;> omega)))))⟩
set_option maxRecDepth 100000 in
theorem normal_in (X Y : Int) (Wn Hn : Nat) (b o c : Nat) (l : List Nat) (x y : Int) (k : Nat) (w : World) (hl : SRow w (some ⟨b, o, none⟩) l) (hr : Right X Y Wn Hn l) (h3 : 3 ≤ Wn) (h4 : 3 ≤ Hn) (h : inR (X + 1) (Y + 1) ((Wn - 2 : Nat) : Int) ((Hn - 2 : Nat) : Int) x y) (hk : InnerAt X Y Wn Hn x y k) :
    Calls Try.prog 86 #[fldV X Y Wn Hn (some ⟨b, o, none⟩) l.length c, .int .i64 x, .int .i64 y] w fun e w' => e = .returned (.tuple #[.float .f32 (nxF (l.getD (k - Wn) 0) (l.getD (k + Wn) 0) (l.getD (k + 1) 0) (l.getD (k - 1) 0)), .float .f32 (nyF (l.getD (k - Wn) 0) (l.getD (k + Wn) 0) (l.getD (k + 1) 0) (l.getD (k - 1) 0)), .float .f32 (nzF (l.getD (k - Wn) 0) (l.getD (k + Wn) 0) (l.getD (k + 1) 0) (l.getD (k - 1) 0)), .int .i64 0]) ∧ Below w.heap.size w w' := by
  have KI := Lib.hid (fun w hl => inner_ok X Y Wn Hn b o c l w hl hr h3 h4)
  obtain ⟨r1, r2, r3, r4, r5, r6, r7, r8⟩ := rim hr h3 h4
  have hq : 0 ≤ cellNo (X + 1) (Y + 1) ((Wn - 2 : Nat) : Int) x y := by
    obtain ⟨a1, a2, a3, a4⟩ := h
    have e1 := Int.mul_le_mul_of_nonneg_right (show 0 ≤ y - (Y + 1) by omega) (show (0 : Int) ≤ ((Wn - 2 : Nat) : Int) by omega)
    unfold cellNo; omega
  have KP := Lib.hid (fun w => place_in (X + 1) (Y + 1) (Wn - 2) (Hn - 2) x y (cellNo (X + 1) (Y + 1) ((Wn - 2 : Nat) : Int) x y).toNat w r1 r2 r3 r4 r5 r6 r7 r8 h (by omega))
  have KA := Lib.hid (fun w hl => around_at X Y Wn Hn x y b o c k l w hl hr hk)
  have KN := Lib.hid (fun w => normal_any (l.getD (k - Wn) 0) (l.getD (k + Wn) 0) (l.getD (k + 1) 0) (l.getD (k - 1) 0) (l.getD k 0) w (hr.bd _) (hr.bd _) (hr.bd _) (hr.bd _))
  have HL := Lib.hid hl
  clear hl hr h3 h4 h hk r1 r2 r3 r4 r5 r6 r7 r8 hq
  generalize (cellNo (X + 1) (Y + 1) ((Wn - 2 : Nat) : Int) x y).toNat = kk at *
  generalize l.getD k 0 = v at *
  generalize l.getD (k - Wn) 0 = n at *
  generalize l.getD (k + Wn) 0 = s at *
  generalize l.getD (k + 1) 0 = e at *
  generalize l.getD (k - 1) 0 = wv at *
  generalize nxF n s e wv = y1 at *
  generalize nyF n s e wv = y2 at *
  generalize nzF n s e wv = y3 at *
  generalize Wn - 2 = W2 at *
  generalize Hn - 2 = H2 at *
  go_enter Try.func86, Try.ntmps86
  go_wp2_with fail
  generalize hW0 : w.alloc (.cells #[.int .i64 X, .int .i64 Y, .int .i64 Wn, .int .i64 Hn, .slice (some ⟨b, o, none⟩) l.length c] 36) = W0 at *
  have E0 : Fld W0 w.heap.size X Y Wn Hn (.slice (some ⟨b, o, none⟩) l.length c) := by subst hW0; exact Fld.new _ _ _ _ _ _
  have B0 : Below w.heap.size w W0 := by subst hW0; exact (by repeat (first | with_reducible exact Below.refl _ _ | with_reducible apply Below.drew | with_reducible refine below_drewN ?_ _ | (with_reducible refine Below.setCell ?_ ?_ _; rotate_left; focus (first | omega | (simp <;> omega))) | (with_reducible refine Below.alloc ?_ ?_ _; rotate_left; focus (first | omega | (simp <;> omega)))))
  clear hW0
  refine (KI.out _ (HL.out.below B0)).mono ?_
  rintro e w1 ⟨rfl, b1⟩
  have HE1 := Lib.hid (E0.below b1 E0.lt)
  have HL1 := Lib.hid ((HL.out.below B0).below b1)
  have HB1 := Lib.hid (B0.trans (b1.mono B0.size))
  clear b1 B0 E0 KI HL
  have b2 : Below w1.heap.size w1 (w1.alloc (.cells #[.int .i64 (X + 1), .int .i64 (Y + 1), .int .i64 (W2 : Int), .int .i64 (H2 : Int)] 23)) := (by repeat (first | with_reducible exact Below.refl _ _ | with_reducible apply Below.drew | with_reducible refine below_drewN ?_ _ | (with_reducible refine Below.setCell ?_ ?_ _; rotate_left; focus (first | omega | (simp <;> omega))) | (with_reducible refine Below.alloc ?_ ?_ _; rotate_left; focus (first | omega | (simp <;> omega)))))
  have HE2 := Lib.hid (HE1.out.below b2 HE1.out.lt)
  have HL2 := Lib.hid (HL1.out.below b2)
  have HB2 := Lib.hid (HB1.out.trans (b2.mono HB1.out.size))
  clear HE1 HL1 HB1 b2
  go_wp2_with fail
  refine (KP.out _).mono ?_
  rintro e w3 ⟨rfl, b3⟩
  have HE3 := Lib.hid (HE2.out.below b3 HE2.out.lt)
  have HL3 := Lib.hid (HL2.out.below b3)
  have HB3 := Lib.hid (HB2.out.trans (b3.mono HB2.out.size))
  clear HE2 HL2 HB2 b3 KP
  obtain ⟨c0, c1, c2, c3, c4⟩ := HE3.out.cells
  have l0 := HE3.out.lt
  go_wp2_with fail
  refine (KA.out _ HL3.out).mono ?_
  rintro e w4 ⟨rfl, b4⟩
  have HB4 := Lib.hid (HB3.out.trans (b4.mono HB3.out.size))
  clear b4
  go_wp2_with fail
  refine (KN.out _).mono ?_
  rintro e w5 ⟨rfl, b5⟩
  have HB5 := Lib.hid (HB4.out.trans (b5.mono HB4.out.size))
  clear b5
  go_wp2_with fail
  have B1 := HB5.out
  exact bodyPost_ret (v := .tuple #[.float .f32 y1, .float .f32 y2, .float .f32 y3, .int .i64 0]) (by simp [results, Try.results86, go_sem, *]) rfl ⟨rfl, (by have hszz := B1.size; repeat (first | with_reducible exact B1 | with_reducible apply Below.drew | with_reducible refine below_drewN ?_ _ | (with_reducible refine Below.setCell ?_ ?_ _; rotate_left; focus (first | omega | (simp <;> omega))) | (with_reducible refine Below.alloc ?_ ?_ _; rotate_left; focus (first | omega | (simp <;> omega)))))⟩
set_option maxRecDepth 100000 in
theorem refnormal_in (X Y : Int) (Wn Hn : Nat) (b o c : Nat) (l : List Nat) (x y : Int) (k : Nat) (w : World) (hl : SRow w (some ⟨b, o, none⟩) l) (hr : Right X Y Wn Hn l) (h3 : 3 ≤ Wn) (h4 : 3 ≤ Hn) (h : inR (X + 1) (Y + 1) ((Wn - 2 : Nat) : Int) ((Hn - 2 : Nat) : Int) x y) (hk : InnerAt X Y Wn Hn x y k) :
    Calls Try.prog 87 #[fldV X Y Wn Hn (some ⟨b, o, none⟩) l.length c, .int .i64 x, .int .i64 y] w fun e w' => e = .returned (.tuple #[.float .f32 (nxF (l.getD (k - Wn) 0) (l.getD (k + Wn) 0) (l.getD (k + 1) 0) (l.getD (k - 1) 0)), .float .f32 (nyF (l.getD (k - Wn) 0) (l.getD (k + Wn) 0) (l.getD (k + 1) 0) (l.getD (k - 1) 0)), .float .f32 (nzF (l.getD (k - Wn) 0) (l.getD (k + Wn) 0) (l.getD (k + 1) 0) (l.getD (k - 1) 0)), .int .i64 0]) ∧ Below w.heap.size w w' := by
  have KI := Lib.hid (fun w => refinner_ryes X Y Wn Hn (some ⟨b, o, none⟩) l.length c l w hr h3 h4)
  obtain ⟨r1, r2, r3, r4, r5, r6, r7, r8⟩ := rim hr h3 h4
  have KP := Lib.hid (fun w => refinside_place (X + 1) (Y + 1) (Wn - 2) (Hn - 2) x y w r1 r2 r3 r4 r5 r6 r7 r8)
  rw [decide_eq_true h] at KP
  have KN := Lib.hid (fun w hl => refnormal_at X Y Wn Hn x y b o c k l w hl hr hk)
  have HL := Lib.hid hl
  clear hl hr h3 h4 h hk r1 r2 r3 r4 r5 r6 r7 r8
  generalize l.getD k 0 = v at *
  generalize l.getD (k - Wn) 0 = n at *
  generalize l.getD (k + Wn) 0 = s at *
  generalize l.getD (k + 1) 0 = e at *
  generalize l.getD (k - 1) 0 = wv at *
  generalize nxF n s e wv = y1 at *
  generalize nyF n s e wv = y2 at *
  generalize nzF n s e wv = y3 at *
  generalize Wn - 2 = W2 at *
  generalize Hn - 2 = H2 at *
  go_enter Try.func87, Try.ntmps87
  go_wp2_with fail
  generalize hW0 : w.alloc (.cells #[.int .i64 X, .int .i64 Y, .int .i64 Wn, .int .i64 Hn, .slice (some ⟨b, o, none⟩) l.length c] 36) = W0 at *
  have E0 : Fld W0 w.heap.size X Y Wn Hn (.slice (some ⟨b, o, none⟩) l.length c) := by subst hW0; exact Fld.new _ _ _ _ _ _
  have B0 : Below w.heap.size w W0 := by subst hW0; exact (by repeat (first | with_reducible exact Below.refl _ _ | with_reducible apply Below.drew | with_reducible refine below_drewN ?_ _ | (with_reducible refine Below.setCell ?_ ?_ _; rotate_left; focus (first | omega | (simp <;> omega))) | (with_reducible refine Below.alloc ?_ ?_ _; rotate_left; focus (first | omega | (simp <;> omega)))))
  clear hW0
  refine (KI.out _ ).mono ?_
  rintro e w1 ⟨rfl, b1⟩
  have HE1 := Lib.hid (E0.below b1 E0.lt)
  have HL1 := Lib.hid ((HL.out.below B0).below b1)
  have HB1 := Lib.hid (B0.trans (b1.mono B0.size))
  clear b1 B0 E0 KI HL
  have b2 : Below w1.heap.size w1 (w1.alloc (.cells #[.int .i64 (X + 1), .int .i64 (Y + 1), .int .i64 (W2 : Int), .int .i64 (H2 : Int)] 23)) := (by repeat (first | with_reducible exact Below.refl _ _ | with_reducible apply Below.drew | with_reducible refine below_drewN ?_ _ | (with_reducible refine Below.setCell ?_ ?_ _; rotate_left; focus (first | omega | (simp <;> omega))) | (with_reducible refine Below.alloc ?_ ?_ _; rotate_left; focus (first | omega | (simp <;> omega)))))
  have HE2 := Lib.hid (HE1.out.below b2 HE1.out.lt)
  have HL2 := Lib.hid (HL1.out.below b2)
  have HB2 := Lib.hid (HB1.out.trans (b2.mono HB1.out.size))
  clear HE1 HL1 HB1 b2
  go_wp2_with fail
  refine (KP.out _).mono ?_
  rintro e w3 ⟨rfl, b3⟩
  have HE3 := Lib.hid (HE2.out.below b3 HE2.out.lt)
  have HL3 := Lib.hid (HL2.out.below b3)
  have HB3 := Lib.hid (HB2.out.trans (b3.mono HB2.out.size))
  clear HE2 HL2 HB2 b3 KP
  obtain ⟨c0, c1, c2, c3, c4⟩ := HE3.out.cells
  have l0 := HE3.out.lt
  go_wp2_with fail
  refine (KN.out _ HL3.out).mono ?_
  rintro e w5 ⟨rfl, b5⟩
  have HB5 := Lib.hid (HB3.out.trans (b5.mono HB3.out.size))
  clear b5
  go_wp2_with fail
  have B1 := HB5.out
  exact bodyPost_ret (v := .tuple #[.float .f32 y1, .float .f32 y2, .float .f32 y3, .int .i64 0]) (by simp [results, Try.results87, go_sem, *]) rfl ⟨rfl, (by have hszz := B1.size; repeat (first | with_reducible exact B1 | with_reducible apply Below.drew | with_reducible refine below_drewN ?_ _ | (with_reducible refine Below.setCell ?_ ?_ _; rotate_left; focus (first | omega | (simp <;> omega))) | (with_reducible refine Below.alloc ?_ ?_ _; rotate_left; focus (first | omega | (simp <;> omega)))))⟩
end Go.Proofs.Ytnfebeebjelgbaa
