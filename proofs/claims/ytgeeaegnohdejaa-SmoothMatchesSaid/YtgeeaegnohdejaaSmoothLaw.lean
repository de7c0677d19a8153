import Derived.Test.YtgeeaegnohdejaaSmoothOp
namespace Go.Proofs.Ytgeeaegnohdejaa
open Go.Shelf
open Go.ChangeShapes Go.WideShapes Go.ChangeAt Go.RowKit
open Ieee.Format (fin finE htE allFin allHt all_true all_false mulF subF addF Ht Bd smoothF smooth_bd)
set_option linter.unusedVariables false

/-- both Smooths do the same -/
theorem smooth_pair (X Y : Int) (Wn Hn : Nat) (b o c : Nat) (n : Int) (l : List Nat) (hr : Right X Y Wn Hn l) (hw : Wn ≤ 16) (hx : -1000000 ≤ X ∧ X ≤ 1000000 ∧ -1000000 ≤ Y ∧ Y ≤ 1000000) :
    ∃ (C X1 Y1 W1 H1 : Int) (S : List Nat), S.length ≤ 1099511627776 ∧
      (∀ w, SRow w (some ⟨b, o, none⟩) l → Calls Try.prog 52 #[fldV X Y Wn Hn (some ⟨b, o, none⟩) l.length c, .int .i64 n] w fun e w' => OpP C X1 Y1 W1 H1 S w e w') ∧
      (∀ w, SRow w (some ⟨b, o, none⟩) l → Calls Try.prog 53 #[fldV X Y Wn Hn (some ⟨b, o, none⟩) l.length c, .int .i64 n] w fun e w' => OpP C X1 Y1 W1 H1 S w e w') := by
  by_cases h : n < 0 ∨ 64 < n
  · refine ⟨3, 0, 0, 0, 0, [], by simp, fun w hl => ?_, fun w hl => ?_⟩
    · exact (smooth_bad X Y Wn Hn b o c n l w hl hr h).mono fun e w' ⟨h1, h2⟩ => OpP.err (by decide) h1 h2
    · exact (refsmooth_bad X Y Wn Hn b o c n l w hl hr h).mono fun e w' ⟨h1, h2⟩ => OpP.err (by decide) h1 h2
  · obtain ⟨N, rfl⟩ : ∃ N : Nat, n = N := ⟨n.toNat, by omega⟩
    refine ⟨_, _, _, _, _, _, ?_, fun w hl => smooth_ok X Y Wn Hn b o c N l w hl hr hw (by omega), fun w hl => refsmooth_ok X Y Wn Hn b o c N l w hl hr hw hx (by omega)⟩
    rw [stepsL_len _ _ _ _ _ _ hr.len]
    have := hr.h2
    have := Nat.mul_le_mul (show Hn - 2 * N ≤ 512 by omega) (show Wn - 2 * N ≤ 512 by omega)
    omega

set_option maxRecDepth 100000 in
theorem smooth_law (X Y A B : Int) (a : Option Addr) (l : List Nat) (cap : Nat) (n : Int) (w : World) (hl : Row63 w a l) :
    Calls Try.prog 9 #[fldV X Y A B a l.length cap, .int .i64 n] w fun e w' => e = .returned (.bool true) ∧ Below w.heap.size w w' := by
  have HL := Lib.hid hl
  clear hl
  have hA : Below w.heap.size w (w.alloc (.cells #[.int .i64 X, .int .i64 Y, .int .i64 A, .int .i64 B, .slice a l.length cap] /-T-/66)) := (by repeat (first | with_reducible exact Below.refl _ _ | with_reducible apply Below.drew | with_reducible refine below_drewN ?_ _ | (with_reducible refine Below.setCell ?_ ?_ _; rotate_left; focus (first | omega | (simp <;> omega))) | (with_reducible refine Below.alloc ?_ ?_ _; rotate_left; focus (first | omega | (simp <;> omega)))))
  have HA := Lib.hid hA
  have hF := Fld.new w X Y A B (.slice a l.length cap)
  have HF := Lib.hid hF
  clear hA hF
  go_enter Try.func9, Try.ntmps9
  go_wp2_with fail
  refine (landed_bel _).mono ?_
  rintro e w1 ⟨rfl, b1⟩
  have F1 := HF.out.below b1 HF.out.lt
  have B1 := Lib.hid (HA.out.trans (b1.mono HA.out.size))
  clear b1
  obtain ⟨c0, c1, c2, c3, c4⟩ := F1.cells
  have HF1 := Lib.hid F1
  clear F1
  go_wp2_with fail
  refine (fit_any X Y A B a cap l w1 (HL.out.below B1.out)).mono ?_
  rintro e w2 ⟨X', Y', Wn, Hn, g, cap', l', rfl, hr, hsm, ho, b2⟩
  have F2 := HF1.out.below b2 HF1.out.lt
  have B2 := Lib.hid (B1.out.trans (b2.mono B1.out.size))
  have hgk : g ≠ w.heap.size := by have := ho.lt.1; have := HF1.out.lt; omega
  have HG := Lib.hid hgk
  have HO := Lib.hid ho
  have hml : Hid (l'.length ≤ 1099511627776) := by
    have h1 := Nat.mul_le_mul hr.h2 hr.w2
    rw [← hr.len] at h1
    unfold Hid; omega
  obtain ⟨C, X1, Y1, W1, H1, S, hS, hp1, hp2⟩ := smooth_pair X' Y' Wn Hn g 0 cap' n l' hr (by omega) (by omega)
  have P1 := Lib.hid hp1
  have P2 := Lib.hid hp2
  have HS := Lib.hid hS
  clear b2 hr ho hgk c0 c1 c2 c3 c4 hsm hp1 hp2 hS
  obtain ⟨c0, c1, c2, c3, c4⟩ := F2.cells
  have qf0 := F2.frozen 0
  have qf1 := F2.frozen 1
  have qf2 := F2.frozen 2
  have qf3 := F2.frozen 3
  have qf4 := F2.frozen 4
  have HF2 := Lib.hid F2
  clear F2
  go_wp2_with fail
  generalize hW3 : ((((w2.setCell ⟨w.heap.size, 0, none⟩ (.int .i64 X')).setCell ⟨w.heap.size, 1, none⟩ (.int .i64 Y')).setCell ⟨w.heap.size, 2, none⟩ (.int .i64 (Wn : Int))).setCell ⟨w.heap.size, 3, none⟩ (.int .i64 (Hn : Int))).setCell ⟨w.heap.size, 4, none⟩ (.slice (some ⟨g, 0, none⟩) l'.length cap') = W3 at *
  obtain ⟨f3, bb3, oo3, _, z3⟩ := fld_store w2 w.heap.size X Y A B _ X' Y' Wn Hn (.slice (some ⟨g, 0, none⟩) l'.length cap') HF2.out W3 hW3.symm
  have HF3 := Lib.hid f3
  have HB3 := Lib.hid (B2.out.trans bb3)
  have HO3 := Lib.hid (oo3 _ _ _ _ HO.out HG.out)
  have HQ3 := Lib.hid (HO3.out.row hml.out)
  clear hW3 f3 bb3 oo3 z3 HO HF2 HF1 HF HA B1 B2 c0 c1 c2 c3 c4 qf0 qf1 qf2 qf3 qf4 HL
  refine (P1.out W3 HQ3.out).mono ?_
  rintro e w4 ⟨⟨x, y, p, q, aa, n1, k, rfl, o4⟩, b4⟩
  have F4 := HF3.out.below b4 HF3.out.lt
  have HB4 := Lib.hid (HB3.out.trans (b4.mono HB3.out.size))
  have HQ4 := Lib.hid (HQ3.out.below b4)
  have HV4 := Lib.hid o4
  clear b4 o4
  obtain ⟨c0, c1, c2, c3, c4⟩ := F4.cells
  have HF4 := Lib.hid F4
  clear F4
  have hk0 : w.heap.size < w4.heap.size := HF4.out.lt
  go_wp2_with fail
  generalize hW5 : w4.alloc (.cells #[.int .i64 x, .int .i64 y, .int .i64 p, .int .i64 q, .slice aa n1 k] /-T-/66) = W5 at *
  have P5 : Fld W5 w4.heap.size x y p q (.slice aa n1 k) := by subst hW5; exact Fld.new _ _ _ _ _ _
  have B5 : Below w4.heap.size w4 W5 := by subst hW5; exact (by repeat (first | with_reducible exact Below.refl _ _ | with_reducible apply Below.drew | with_reducible refine below_drewN ?_ _ | (with_reducible refine Below.setCell ?_ ?_ _; rotate_left; focus (first | omega | (simp <;> omega))) | (with_reducible refine Below.alloc ?_ ?_ _; rotate_left; focus (first | omega | (simp <;> omega)))))
  have HB5 := Lib.hid (HB4.out.trans (B5.mono HB4.out.size))
  have HQ5 := Lib.hid (HQ4.out.below B5)
  have HV5 := Lib.hid (HV4.out.below B5)
  have HP5 := Lib.hid P5
  clear hW5 P5 B5 HB4 HQ4 HV4 HF4 HB3 HQ3 HO3 HF3 c0 c1 c2 c3 c4 HG hml
  have HK := Lib.hid hk0
  generalize w4.heap.size = k7 at *
  refine (P2.out W5 HQ5.out).mono ?_
  rintro e w6 ⟨⟨x2, y2, p2, q2, aa2, n2, k2, rfl, o6⟩, b6⟩
  have P6 := HP5.out.below b6 HP5.out.lt
  have HB6 := Lib.hid (HB5.out.trans (b6.mono HB5.out.size))
  have HV6 := Lib.hid (HV5.out.below b6)
  have HU6 := Lib.hid o6
  clear b6 o6
  obtain ⟨d0, d1, d2, d3, d4⟩ := P6.cells
  have HP6 := Lib.hid P6
  have lz1 : k7 < w6.heap.size := P6.lt
  clear P6 HV5 HP5 HQ5 HB5 hk0
  have hk1 : Hid (w.heap.size ≤ w6.heap.size) := HB6.out.size
  go_wp2_with fail
  generalize hW7 : w6.alloc (.cells #[.int .i64 x2, .int .i64 y2, .int .i64 p2, .int .i64 q2, .slice aa2 n2 k2] /-T-/66) = W7 at *
  have B7 : Below w6.heap.size w6 W7 := by subst hW7; exact (by repeat (first | with_reducible exact Below.refl _ _ | with_reducible apply Below.drew | with_reducible refine below_drewN ?_ _ | (with_reducible refine Below.setCell ?_ ?_ _; rotate_left; focus (first | omega | (simp <;> omega))) | (with_reducible refine Below.alloc ?_ ?_ _; rotate_left; focus (first | omega | (simp <;> omega)))))
  have HB7 := Lib.hid (HB6.out.trans (B7.mono HB6.out.size))
  have HV7 := Lib.hid (HV6.out.below B7)
  have HU7 := Lib.hid (HU6.out.below B7)
  clear hW7 B7 HB6 HV6 HU6 HP6 d0 d1 d2 d3 d4
  refine (same_out HV7.out HU7.out HS.out).mono ?_
  rintro e w8 ⟨rfl, b8⟩
  have B8 := HB7.out.trans (b8.mono HB7.out.size)
  clear b8
  go_wp2_with fail
  go_ret
  exact ⟨rfl, B8⟩
end Go.Proofs.Ytgeeaegnohdejaa
