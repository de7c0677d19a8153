import Derived.Test.YtnfebeebjelgbaaBlurOp
namespace Go.Proofs.Ytnfebeebjelgbaa
open Go.ChangeShapes Go.WideShapes Go.ChangeAt Go.RowKit
open Ieee.Format (fin finE htE allFin allHt all_true all_false mulF subF addF Ht Bd divF rootF floorF easeF mixF)
set_option linter.unusedVariables false

set_option maxRecDepth 100000 in
theorem refblur_rng (X Y : Int) (Wn Hn : Nat) (R : Int) (b o c : Nat) (l : List Nat) (w : World) (h : R < 0 ∨ 16 < R) :
    Calls Try.prog 49 #[fldV X Y Wn Hn (some ⟨b, o, none⟩) l.length c, .int .i64 R] w fun e w' => e = .returned (.tuple #[fldV 0 0 0 0 none 0 0, .int .i64 3]) ∧ Below w.heap.size w w' := by
  by_cases h1 : R < 0
  · clear h
    go_enter Try.func49, Try.ntmps49
    go_wp2_with fail
    exact bodyPost_ret (v := .tuple #[fldV 0 0 0 0 none 0 0, .int .i64 3]) (by simp [results, Try.results49, go_sem, *]) rfl ⟨rfl, (by repeat (first | with_reducible exact Below.refl _ _ | with_reducible apply Below.drew | with_reducible refine below_drewN ?_ _ | (with_reducible refine Below.setCell ?_ ?_ _; rotate_left; focus (first | omega | (simp <;> omega))) | (with_reducible refine Below.alloc ?_ ?_ _; rotate_left; focus (first | omega | (simp <;> omega)))))⟩
  · have h2 : 16 < R := by omega
    clear h
    go_enter Try.func49, Try.ntmps49
    go_wp2_with fail
    exact bodyPost_ret (v := .tuple #[fldV 0 0 0 0 none 0 0, .int .i64 3]) (by simp [results, Try.results49, go_sem, *]) rfl ⟨rfl, (by repeat (first | with_reducible exact Below.refl _ _ | with_reducible apply Below.drew | with_reducible refine below_drewN ?_ _ | (with_reducible refine Below.setCell ?_ ?_ _; rotate_left; focus (first | omega | (simp <;> omega))) | (with_reducible refine Below.alloc ?_ ?_ _; rotate_left; focus (first | omega | (simp <;> omega)))))⟩

set_option maxRecDepth 100000 in
theorem refblur_no (X Y : Int) (Wn Hn N : Nat) (b o c : Nat) (l : List Nat) (w : World) (hr : Right X Y Wn Hn l) (hN : N ≤ 16) (h : Wn < 2 * N + 1 ∨ Hn < 2 * N + 1) :
    Calls Try.prog 49 #[fldV X Y Wn Hn (some ⟨b, o, none⟩) l.length c, .int .i64 N] w fun e w' => e = .returned (.tuple #[fldV 0 0 0 0 none 0 0, .int .i64 10]) ∧ Below w.heap.size w w' := by
  have g1 := hr.w2; have g2 := hr.h2; have g3 := hr.x1; have g4 := hr.x2; have g5 := hr.y1; have g6 := hr.y2; have g7 := hr.w1; have g8 := hr.h1
  have KG := Lib.hid (fun w' => grown_any X Y Wn Hn (-(N : Int)) w' (by omega) (by omega) (by omega) (by omega) (by omega) (by omega) (by omega) (by omega) (by omega) (by omega))
  have k1 : ¬ (N : Int) < 0 := by omega
  have k2 : ¬ 16 < (N : Int) := by omega
  have hh : (Wn : Int) + 2 * -(N : Int) < 1 ∨ (Hn : Int) + 2 * -(N : Int) < 1 := by omega
  clear hr g1 g2 g3 g4 g5 g6 g7 g8 h hN
  generalize (N : Int) = R at *
  generalize X - -R = X1 at *
  generalize Y - -R = Y1 at *
  generalize (Wn : Int) + 2 * -R = P at *
  generalize (Hn : Int) + 2 * -R = Q at *
  by_cases hp : P < 1
  · clear hh
    have hB0 : Below w.heap.size w (((w.alloc (.cells #[.int .i64 X, .int .i64 Y, .int .i64 Wn, .int .i64 Hn, .slice (some ⟨b, o, none⟩) l.length c] 36)).alloc (.cells #[.int .i64 R] 3)).alloc (.cells #[.int .i64 0, .int .i64 0, .int .i64 0, .int .i64 0, .slice none 0 0] 36)) := (by repeat (first | with_reducible exact Below.refl _ _ | with_reducible apply Below.drew | with_reducible refine below_drewN ?_ _ | (with_reducible refine Below.setCell ?_ ?_ _; rotate_left; focus (first | omega | (simp <;> omega))) | (with_reducible refine Below.alloc ?_ ?_ _; rotate_left; focus (first | omega | (simp <;> omega)))))
    obtain ⟨E0, P0, F0, _⟩ := box_fi w X Y Wn Hn (.slice (some ⟨b, o, none⟩) l.length c) #[.int .i64 R] 3 _ rfl
    have HE0 := Lib.hid E0
    have HP0 := Lib.hid P0
    have HF0 := Lib.hid F0
    have HB0 := Lib.hid hB0
    have HL0 : Hid (SRow w (some ⟨b, o, none⟩) l → SRow (((w.alloc (.cells #[.int .i64 X, .int .i64 Y, .int .i64 Wn, .int .i64 Hn, .slice (some ⟨b, o, none⟩) l.length c] 36)).alloc (.cells #[.int .i64 R] 3)).alloc (.cells #[.int .i64 0, .int .i64 0, .int .i64 0, .int .i64 0, .slice none 0 0] 36)) (some ⟨b, o, none⟩) l) := fun h => SRow.below h hB0
    clear hB0 E0 P0 F0
    go_enter Try.func49, Try.ntmps49
    go_wp2_with fail
    generalize hW0 : ((w.alloc (.cells #[.int .i64 X, .int .i64 Y, .int .i64 Wn, .int .i64 Hn, .slice (some ⟨b, o, none⟩) l.length c] 36)).alloc (.cells #[.int .i64 R] 3)).alloc (.cells #[.int .i64 0, .int .i64 0, .int .i64 0, .int .i64 0, .slice none 0 0] 36) = W0 at *
    clear hW0
    refine (KG.out _).mono ?_
    rintro e w2 ⟨rfl, b2⟩
    have HE2 := Lib.hid (HE0.out.below b2 HE0.out.lt)
    have HP2 := Lib.hid (HP0.out.below b2 HP0.out.lt)
    have HF2 := Lib.hid (HF0.out.below b2 HF0.out.lt)
    have HB2 := Lib.hid (HB0.out.trans (b2.mono HB0.out.size))
    clear b2 HE0 HP0 HF0 HB0 HL0 KG
    obtain ⟨d0, d1, d2, d3, d4⟩ := HF2.out.cells
    have qf0 := HF2.out.frozen 0
    have qf1 := HF2.out.frozen 1
    have qf2 := HF2.out.frozen 2
    have qf3 := HF2.out.frozen 3
    have qf4 := HF2.out.frozen 4
    have lz := HF2.out.lt
    go_wp2_with fail
    have B3 := HB2.out
    exact bodyPost_ret (v := .tuple #[fldV 0 0 0 0 none 0 0, .int .i64 10]) (by simp [results, Try.results49, go_sem, *]) rfl ⟨rfl, (by have hszz := B3.size; repeat (first | with_reducible exact B3 | with_reducible apply Below.drew | with_reducible refine below_drewN ?_ _ | (with_reducible refine Below.setCell ?_ ?_ _; rotate_left; focus (first | omega | (simp <;> omega))) | (with_reducible refine Below.alloc ?_ ?_ _; rotate_left; focus (first | omega | (simp <;> omega)))))⟩
  · have hq : Q < 1 := by omega
    clear hh
    have hB0 : Below w.heap.size w (((w.alloc (.cells #[.int .i64 X, .int .i64 Y, .int .i64 Wn, .int .i64 Hn, .slice (some ⟨b, o, none⟩) l.length c] 36)).alloc (.cells #[.int .i64 R] 3)).alloc (.cells #[.int .i64 0, .int .i64 0, .int .i64 0, .int .i64 0, .slice none 0 0] 36)) := (by repeat (first | with_reducible exact Below.refl _ _ | with_reducible apply Below.drew | with_reducible refine below_drewN ?_ _ | (with_reducible refine Below.setCell ?_ ?_ _; rotate_left; focus (first | omega | (simp <;> omega))) | (with_reducible refine Below.alloc ?_ ?_ _; rotate_left; focus (first | omega | (simp <;> omega)))))
    obtain ⟨E0, P0, F0, _⟩ := box_fi w X Y Wn Hn (.slice (some ⟨b, o, none⟩) l.length c) #[.int .i64 R] 3 _ rfl
    have HE0 := Lib.hid E0
    have HP0 := Lib.hid P0
    have HF0 := Lib.hid F0
    have HB0 := Lib.hid hB0
    have HL0 : Hid (SRow w (some ⟨b, o, none⟩) l → SRow (((w.alloc (.cells #[.int .i64 X, .int .i64 Y, .int .i64 Wn, .int .i64 Hn, .slice (some ⟨b, o, none⟩) l.length c] 36)).alloc (.cells #[.int .i64 R] 3)).alloc (.cells #[.int .i64 0, .int .i64 0, .int .i64 0, .int .i64 0, .slice none 0 0] 36)) (some ⟨b, o, none⟩) l) := fun h => SRow.below h hB0
    clear hB0 E0 P0 F0
    go_enter Try.func49, Try.ntmps49
    go_wp2_with fail
    generalize hW0 : ((w.alloc (.cells #[.int .i64 X, .int .i64 Y, .int .i64 Wn, .int .i64 Hn, .slice (some ⟨b, o, none⟩) l.length c] 36)).alloc (.cells #[.int .i64 R] 3)).alloc (.cells #[.int .i64 0, .int .i64 0, .int .i64 0, .int .i64 0, .slice none 0 0] 36) = W0 at *
    clear hW0
    refine (KG.out _).mono ?_
    rintro e w2 ⟨rfl, b2⟩
    have HE2 := Lib.hid (HE0.out.below b2 HE0.out.lt)
    have HP2 := Lib.hid (HP0.out.below b2 HP0.out.lt)
    have HF2 := Lib.hid (HF0.out.below b2 HF0.out.lt)
    have HB2 := Lib.hid (HB0.out.trans (b2.mono HB0.out.size))
    clear b2 HE0 HP0 HF0 HB0 HL0 KG
    obtain ⟨d0, d1, d2, d3, d4⟩ := HF2.out.cells
    have qf0 := HF2.out.frozen 0
    have qf1 := HF2.out.frozen 1
    have qf2 := HF2.out.frozen 2
    have qf3 := HF2.out.frozen 3
    have qf4 := HF2.out.frozen 4
    have lz := HF2.out.lt
    go_wp2_with fail
    have B3 := HB2.out
    exact bodyPost_ret (v := .tuple #[fldV 0 0 0 0 none 0 0, .int .i64 10]) (by simp [results, Try.results49, go_sem, *]) rfl ⟨rfl, (by have hszz := B3.size; repeat (first | with_reducible exact B3 | with_reducible apply Below.drew | with_reducible refine below_drewN ?_ _ | (with_reducible refine Below.setCell ?_ ?_ _; rotate_left; focus (first | omega | (simp <;> omega))) | (with_reducible refine Below.alloc ?_ ?_ _; rotate_left; focus (first | omega | (simp <;> omega)))))⟩

set_option maxRecDepth 100000 in
set_option maxHeartbeats 1000000 in
theorem refblur_yes (X Y : Int) (Wn Hn N : Nat) (b o c : Nat) (l : List Nat) (w : World) (hl : SRow w (some ⟨b, o, none⟩) l) (hr : Right X Y Wn Hn l) (hN : N ≤ 16) (h3 : 2 * N + 1 ≤ Wn) (h4 : 2 * N + 1 ≤ Hn) :
    Calls Try.prog 49 #[fldV X Y Wn Hn (some ⟨b, o, none⟩) l.length c, .int .i64 N] w fun e w' => OpP (resC (padL (blurV l X Y Wn N) X Y Wn Hn N)) (X + N) (Y + N) ((Wn - 2 * N : Nat) : Int) ((Hn - 2 * N : Nat) : Int) (padL (blurV l X Y Wn N) X Y Wn Hn N) w e w' := by
  have HL := Lib.hid hl
  have g1 := hr.w2; have g2 := hr.h2; have g3 := hr.x1; have g4 := hr.x2; have g5 := hr.y1; have g6 := hr.y2
  have KG := Lib.hid (fun w' => grown_any X Y Wn Hn (-(N : Int)) w' (by omega) (by omega) (by omega) (by omega) (by omega) (by omega) (by omega) (by omega) (by omega) (by omega))
  rw [show (Wn : Int) + 2 * -(N : Int) = ((Wn - 2 * N : Nat) : Int) from by omega, show (Hn : Int) + 2 * -(N : Int) = ((Hn - 2 * N : Nat) : Int) from by omega, show X - -(N : Int) = X + N from by omega, show Y - -(N : Int) = Y + N from by omega] at KG
  have KM := Lib.hid (fun q pr pn w hl (hq : Fld w q X Y Wn Hn (.slice (some ⟨b, o, none⟩) l.length c)) (hg : Blk w pr #[.int .i64 (N : Int)] 3) (hpn : Blk w pn #[.int .i64 (2 * (N : Int) + 1)] 3) =>
    made_pad 138 #[.pointer (some ⟨q, 0, none⟩), .pointer (some ⟨pr, 0, none⟩), .pointer (some ⟨pn, 0, none⟩)] (blurV l X Y Wn N) X Y Wn Hn N l w hr h3 h4 (enters_of Try.func138 (by kernel_rfl) rfl) (fun x y => blurF_lt _ _)
      (fun x y a1 a2 a3 a4 W' hb => refblurfn_any l X Y Wn Hn N (2 * N + 1) x y b o c q pr pn (corner X Y Wn N x y) W' (SRow.below hl hb) hr rfl hN a1 a2 a3 a4 (hq.below hb hq.lt) (hg.below hb hg.lt) (by rw [show ((2 * N + 1 : Nat) : Int) = 2 * (N : Int) + 1 from by omega]; exact hpn.below hb hpn.lt) (corner_eq a1 a3)))
  have k1 : ¬ (N : Int) < 0 := by omega
  have k2 : ¬ 16 < (N : Int) := by omega
  have hp : ¬ ((Wn - 2 * N : Nat) : Int) < 1 := by omega
  have hq : ¬ ((Hn - 2 * N : Nat) : Int) < 1 := by omega
  clear hl hr g1 g2 g3 g4 g5 g6 h3 h4 hN
  generalize padL (blurV l X Y Wn N) X Y Wn Hn N = S at *
  generalize resC S = C at *
  generalize hP : ((Wn - 2 * N : Nat) : Int) = P at *
  generalize hQ : ((Hn - 2 * N : Nat) : Int) = Q at *
  clear hP hQ
  generalize (N : Int) = R at *
  generalize X + R = X1 at *
  generalize Y + R = Y1 at *
  have hB0 : Below w.heap.size w (((w.alloc (.cells #[.int .i64 X, .int .i64 Y, .int .i64 Wn, .int .i64 Hn, .slice (some ⟨b, o, none⟩) l.length c] 36)).alloc (.cells #[.int .i64 R] 3)).alloc (.cells #[.int .i64 0, .int .i64 0, .int .i64 0, .int .i64 0, .slice none 0 0] 36)) := (by repeat (first | with_reducible exact Below.refl _ _ | with_reducible apply Below.drew | with_reducible refine below_drewN ?_ _ | (with_reducible refine Below.setCell ?_ ?_ _; rotate_left; focus (first | omega | (simp <;> omega))) | (with_reducible refine Below.alloc ?_ ?_ _; rotate_left; focus (first | omega | (simp <;> omega)))))
  obtain ⟨E0, P0, F0, _⟩ := box_fi w X Y Wn Hn (.slice (some ⟨b, o, none⟩) l.length c) #[.int .i64 R] 3 _ rfl
  have HE0 := Lib.hid E0
  have HP0 := Lib.hid P0
  have HF0 := Lib.hid F0
  have HB0 := Lib.hid hB0
  have HL0 : Hid (SRow w (some ⟨b, o, none⟩) l → SRow (((w.alloc (.cells #[.int .i64 X, .int .i64 Y, .int .i64 Wn, .int .i64 Hn, .slice (some ⟨b, o, none⟩) l.length c] 36)).alloc (.cells #[.int .i64 R] 3)).alloc (.cells #[.int .i64 0, .int .i64 0, .int .i64 0, .int .i64 0, .slice none 0 0] 36)) (some ⟨b, o, none⟩) l) := fun h => SRow.below h hB0
  clear hB0 E0 P0 F0
  go_enter Try.func49, Try.ntmps49
  go_wp2_with fail
  generalize hW0 : ((w.alloc (.cells #[.int .i64 X, .int .i64 Y, .int .i64 Wn, .int .i64 Hn, .slice (some ⟨b, o, none⟩) l.length c] 36)).alloc (.cells #[.int .i64 R] 3)).alloc (.cells #[.int .i64 0, .int .i64 0, .int .i64 0, .int .i64 0, .slice none 0 0] 36) = W0 at *
  clear hW0
  refine (KG.out _).mono ?_
  rintro e w2 ⟨rfl, b2⟩
  have HE2 := Lib.hid (HE0.out.below b2 HE0.out.lt)
  have HP2 := Lib.hid (HP0.out.below b2 HP0.out.lt)
  have HF2 := Lib.hid (HF0.out.below b2 HF0.out.lt)
  have HB2 := Lib.hid (HB0.out.trans (b2.mono HB0.out.size))
  have HL2 := Lib.hid (SRow.below (HL0.out HL.out) b2)
  clear b2 HE0 HP0 HF0 HB0 HL0 KG HL
  have q0 : w2.cell? ⟨w.heap.size + 1, 0, none⟩ = some (.int .i64 R) := HP2.out.cell 0
  have lz := HP2.out.lt
  go_wp2_with fail
  generalize hW4 : (w2.alloc (.cells #[.int .i64 X1, .int .i64 Y1, .int .i64 P, .int .i64 Q] 23)).alloc (.cells #[.int .i64 (2 * R + 1)] 3) = W4 at *
  obtain ⟨R4, P4, B4⟩ := pad_world w2 X1 Y1 P Q (2 * R + 1) W4 hW4.symm
  clear hW4
  have HF4 := Lib.hid (HF2.out.below B4 HF2.out.lt)
  have HB4 := Lib.hid (HB2.out.trans (B4.mono HB2.out.size))
  refine (KM.out _ _ _ _ (HL2.out.below B4) (HE2.out.below B4 HE2.out.lt) (HP2.out.below B4 HP2.out.lt) P4).mono ?_
  rintro e w4 ⟨⟨x, y, p, q, a, m, k, rfl, o4⟩, b4⟩
  have HZB : Hid (w.heap.size + 1 + 1 < W4.heap.size) := HF4.out.lt
  have HBB : Hid (w.heap.size ≤ W4.heap.size) := HB4.out.size
  have HOZ := Lib.hid o4
  have HFZ := Lib.hid (HF4.out.below b4 HF4.out.lt)
  have HBZ := Lib.hid (HB4.out.trans (b4.mono HB4.out.size))
  clear o4 b4 KM HE2 HL2 HP2 R4 P4 B4 HF2 HB2 HF4 HB4 q0 lz
  obtain ⟨d0, d1, d2, d3, d4⟩ := HFZ.out.cells
  have qf0 := HFZ.out.frozen 0
  have qf1 := HFZ.out.frozen 1
  have qf2 := HFZ.out.frozen 2
  have qf3 := HFZ.out.frozen 3
  have qf4 := HFZ.out.frozen 4
  have lz := HFZ.out.lt
  go_wp2_with fail
  generalize hW5 : ((((w4.setCell ⟨w.heap.size + 1 + 1, 0, none⟩ (.int .i64 x)).setCell ⟨w.heap.size + 1 + 1, 1, none⟩ (.int .i64 y)).setCell ⟨w.heap.size + 1 + 1, 2, none⟩ (.int .i64 p)).setCell ⟨w.heap.size + 1 + 1, 3, none⟩ (.int .i64 q)).setCell ⟨w.heap.size + 1 + 1, 4, none⟩ (.slice a m k) = W5 at *
  obtain ⟨f5, bb5, oo5, _, z5⟩ := fld_store w4 (w.heap.size + 1 + 1) 0 0 0 0 _ x y p q (.slice a m k) HFZ.out W5 hW5.symm
  have hO5 := (HOZ.out.set oo5 HZB.out).base HBB.out
  have hB5 := HBZ.out.trans (bb5.mono (by omega))
  clear d0 d1 d2 d3 d4 qf0 qf1 qf2 qf3 qf4 hW5 oo5
  obtain ⟨d0, d1, d2, d3, d4⟩ := f5.cells
  exact bodyPost_ret (v := .tuple #[fldV x y p q a m k, .int .i64 C]) (by simp [results, Try.results49, go_sem, *]) rfl ⟨⟨x, y, p, q, a, m, k, rfl, hO5⟩, hB5⟩

theorem blur_pair (R : Int) (X Y : Int) (Wn Hn : Nat) (b o c : Nat) (l : List Nat) (hr : Right X Y Wn Hn l) :
    ∃ (C X1 Y1 W1 H1 : Int) (S : List Nat), S.length ≤ 1099511627776 ∧
      (∀ w, SRow w (some ⟨b, o, none⟩) l → Calls Try.prog 48 #[fldV X Y Wn Hn (some ⟨b, o, none⟩) l.length c, .int .i64 R] w fun e w' => OpP C X1 Y1 W1 H1 S w e w') ∧
      (∀ w, SRow w (some ⟨b, o, none⟩) l → Calls Try.prog 49 #[fldV X Y Wn Hn (some ⟨b, o, none⟩) l.length c, .int .i64 R] w fun e w' => OpP C X1 Y1 W1 H1 S w e w') := by
  by_cases h : R < 0 ∨ 16 < R
  · refine ⟨3, 0, 0, 0, 0, [], by simp, fun w hl => ?_, fun w hl => ?_⟩
    · exact (blur_rng X Y Wn Hn R b o c l w hl hr h).mono fun e w' ⟨h1, h2⟩ => OpP.err (by decide) h1 h2
    · exact (refblur_rng X Y Wn Hn R b o c l w h).mono fun e w' ⟨h1, h2⟩ => OpP.err (by decide) h1 h2
  · obtain ⟨N, rfl⟩ : ∃ N : Nat, R = N := ⟨R.toNat, by omega⟩
    have hN : N ≤ 16 := by omega
    by_cases h5 : Wn < 2 * N + 1 ∨ Hn < 2 * N + 1
    · refine ⟨10, 0, 0, 0, 0, [], by simp, fun w hl => ?_, fun w hl => ?_⟩
      · exact (blur_no X Y Wn Hn N b o c l w hl hr hN h5).mono fun e w' ⟨h1, h2⟩ => OpP.err (by decide) h1 h2
      · exact (refblur_no X Y Wn Hn N b o c l w hr hN h5).mono fun e w' ⟨h1, h2⟩ => OpP.err (by decide) h1 h2
    · exact ⟨_, _, _, _, _, _, padL_small _ N hr, fun w hl => blur_yes X Y Wn Hn N b o c l w hl hr hN (by omega) (by omega), fun w hl => refblur_yes X Y Wn Hn N b o c l w hl hr hN (by omega) (by omega)⟩
end Go.Proofs.Ytnfebeebjelgbaa
