import Derived.Test.YtgeeaegnohdejaaRefResample
namespace Go.Proofs.Ytgeeaegnohdejaa
open Go.Shelf
open Go.ChangeShapes Go.WideShapes Go.ChangeAt Go.RowKit
open Ieee.Format (fin finE htE allFin allHt all_true all_false mulF subF addF Ht Bd)
set_option linter.unusedVariables false

/-- both Resamples do the same -/
theorem resample_pair (X Y : Int) (Wn Hn : Nat) (b c : Nat) (A B P Q n d : Int) (l : List Nat) (hr : Right X Y Wn Hn l) :
    ∃ (C X1 Y1 W1 H1 : Int) (S : List Nat), S.length ≤ 1099511627776 ∧
      (∀ w, SRow w (some ⟨b, 0, none⟩) l → Calls Try.prog 54 #[fldV X Y Wn Hn (some ⟨b, 0, none⟩) l.length c, reg A B P Q, .int .i64 n, .int .i64 d] w fun e w' => OpP C X1 Y1 W1 H1 S w e w') ∧
      (∀ w, SRow w (some ⟨b, 0, none⟩) l → Calls Try.prog 55 #[fldV X Y Wn Hn (some ⟨b, 0, none⟩) l.length c, reg A B P Q, .int .i64 n, .int .i64 d] w fun e w' => OpP C X1 Y1 W1 H1 S w e w') := by
  by_cases hC : chk A B P Q = 0
  · by_cases hb : n < 1 ∨ 64 < n ∨ d < 1 ∨ 64 < d
    · refine ⟨3, 0, 0, 0, 0, [], by simp, fun w hl => ?_, fun w hl => ?_⟩
      · exact (resample_bad X Y Wn Hn b c l A B P Q n d w hl hr 3 (.inr ⟨hC, rfl, hb⟩)).mono fun e w' ⟨h1, h2⟩ => OpP.err (by decide) h1 h2
      · exact (refresample_bad X Y Wn Hn b c l A B P Q n d w hl hr 3 (.inr ⟨hC, rfl, hb⟩)).mono fun e w' ⟨h1, h2⟩ => OpP.err (by decide) h1 h2
    · obtain ⟨p1, p2, p3, p4, p5, p6, p7, p8, p9⟩ := chk_zero hC
      obtain ⟨n', rfl⟩ : ∃ n' : Nat, n = n' := ⟨n.toNat, by omega⟩
      obtain ⟨d', rfl⟩ : ∃ d' : Nat, d = d' := ⟨d.toNat, by omega⟩
      obtain ⟨P', rfl⟩ : ∃ P' : Nat, P = P' := ⟨P.toNat, by omega⟩
      obtain ⟨Q', rfl⟩ : ∃ Q' : Nat, Q = Q' := ⟨Q.toNat, by omega⟩
      refine ⟨_, _, _, _, _, _, ?_, fun w hl => resample_ok X Y Wn Hn b c l A B P' Q' n' d' w hl hr hC (by omega) (by omega) (by omega) (by omega), fun w hl => refresample_ok X Y Wn Hn b c l A B P' Q' n' d' w hl hr hC (by omega) (by omega) (by omega) (by omega)⟩
      have : ((resL X Y Wn Hn l n' d' A B P' Q').map fun r => r.getD 0).length = Q' * P' := by unfold resL placesL; simp
      rw [this]
      have := Nat.mul_le_mul (show Q' ≤ 512 by omega) (show P' ≤ 512 by omega)
      omega
  · refine ⟨chk A B P Q, 0, 0, 0, 0, [], by simp, fun w hl => ?_, fun w hl => ?_⟩
    · exact (resample_bad X Y Wn Hn b c l A B P Q n d w hl hr _ (.inl ⟨rfl, hC⟩)).mono fun e w' ⟨h1, h2⟩ => OpP.err hC h1 h2
    · exact (refresample_bad X Y Wn Hn b c l A B P Q n d w hl hr _ (.inl ⟨rfl, hC⟩)).mono fun e w' ⟨h1, h2⟩ => OpP.err hC h1 h2

theorem two_boxes (w : World) (X Y W H A B P Q : Int) (v : Value) : ∀ W0, W0 = (w.alloc (.cells #[.int .i64 X, .int .i64 Y, .int .i64 W, .int .i64 H, v] /-T-/66)).alloc (.cells #[.int .i64 A, .int .i64 B, .int .i64 P, .int .i64 Q] /-T-/30) →
    Fld W0 w.heap.size X Y W H v ∧ Reg W0 (w.heap.size + 1) A B P Q ∧ Below w.heap.size w W0 := by
  rintro _ rfl
  refine ⟨(Fld.new w X Y W H v).alloc _, ?_, (by repeat (first | with_reducible exact Below.refl _ _ | with_reducible apply Below.drew | with_reducible refine below_drewN ?_ _ | (with_reducible refine Below.setCell ?_ ?_ _; rotate_left; focus (first | omega | (simp <;> omega))) | (with_reducible refine Below.alloc ?_ ?_ _; rotate_left; focus (first | omega | (simp <;> omega)))))⟩
  have := Reg.new (w.alloc (.cells #[.int .i64 X, .int .i64 Y, .int .i64 W, .int .i64 H, v] /-T-/66)) A B P Q
  simpa using this

set_option maxRecDepth 100000 in
theorem resample_law (X Y A B : Int) (a : Option Addr) (l : List Nat) (cap : Nat) (R1 R2 R3 R4 n d : Int) (w : World) (hl : Row63 w a l) :
    Calls Try.prog 10 #[fldV X Y A B a l.length cap, reg R1 R2 R3 R4, .int .i64 n, .int .i64 d] w fun e w' => e = .returned (.bool true) ∧ Below w.heap.size w w' := by
  have HL := Lib.hid hl
  clear hl
  go_enter Try.func10, Try.ntmps10
  go_wp2_with fail
  generalize hW0 : (w.alloc (.cells #[.int .i64 X, .int .i64 Y, .int .i64 A, .int .i64 B, .slice a l.length cap] /-T-/66)).alloc (.cells #[.int .i64 R1, .int .i64 R2, .int .i64 R3, .int .i64 R4] /-T-/30) = W0 at *
  obtain ⟨f0, g0, b0⟩ := two_boxes w X Y A B R1 R2 R3 R4 (.slice a l.length cap) W0 hW0.symm
  have HF := Lib.hid f0
  have HA := Lib.hid b0
  have HG0 := Lib.hid g0
  clear hW0 f0 g0 b0
  refine (landed_bel _).mono ?_
  rintro e w1 ⟨rfl, b1⟩
  have HG1 := Lib.hid (HG0.out.below b1 HG0.out.lt)
  have F1 := HF.out.below b1 HF.out.lt
  have B1 := Lib.hid (HA.out.trans (b1.mono HA.out.size))
  clear b1
  obtain ⟨c0, c1, c2, c3, c4⟩ := F1.cells
  have HF1 := Lib.hid F1
  clear F1
  go_wp2_with fail
  refine (fit_any X Y A B a cap l w1 (HL.out.below B1.out)).mono ?_
  rintro e w2 ⟨X', Y', Wn, Hn, g, cap', l', rfl, hr, hsm, ho, b2⟩
  have HG2 := Lib.hid (HG1.out.below b2 HG1.out.lt)
  have F2 := HF1.out.below b2 HF1.out.lt
  have B2 := Lib.hid (B1.out.trans (b2.mono B1.out.size))
  have hgk : g ≠ w.heap.size := by have := ho.lt.1; have := HF1.out.lt; omega
  have HG := Lib.hid hgk
  have HO := Lib.hid ho
  have hml : Hid (l'.length ≤ 1099511627776) := by
    have h1 := Nat.mul_le_mul hr.h2 hr.w2
    rw [← hr.len] at h1
    unfold Hid; omega
  obtain ⟨C, X1, Y1, W1, H1, S, hS, hp1, hp2⟩ := resample_pair X' Y' Wn Hn g cap' R1 R2 R3 R4 n d l' hr
  have P1 := Lib.hid hp1
  have P2 := Lib.hid hp2
  have HS := Lib.hid hS
  clear b2 hr ho hgk c0 c1 c2 c3 c4 hsm hp1 hp2 hS
  obtain ⟨c0, c1, c2, c3, c4⟩ := F2.cells
  have qf0 := F2.frozen 0
  have qf1 := F2.frozen 1
  have qf2 := F2.frozen 2
  have qf3 := F2.frozen 3
  have qf4 := F2.frozen 4
  obtain ⟨e0, e1, e2, e3⟩ := HG2.out.cells
  have kl2 : w.heap.size + 1 < w2.heap.size := HG2.out.lt
  have HF2 := Lib.hid F2
  clear F2
  go_wp2_with fail
  generalize hW3 : ((((w2.setCell ⟨w.heap.size, 0, none⟩ (.int .i64 X')).setCell ⟨w.heap.size, 1, none⟩ (.int .i64 Y')).setCell ⟨w.heap.size, 2, none⟩ (.int .i64 (Wn : Int))).setCell ⟨w.heap.size, 3, none⟩ (.int .i64 (Hn : Int))).setCell ⟨w.heap.size, 4, none⟩ (.slice (some ⟨g, 0, none⟩) l'.length cap') = W3 at *
  obtain ⟨f3, bb3, oo3, _, z3⟩ := fld_store w2 w.heap.size X Y A B _ X' Y' Wn Hn (.slice (some ⟨g, 0, none⟩) l'.length cap') HF2.out W3 hW3.symm
  have HF3 := Lib.hid f3
  have HG3 := Lib.hid (show Reg W3 (w.heap.size + 1) R1 R2 R3 R4 by subst hW3; exact ((((HG2.out.setCell (by simp) _).setCell (by simp) _).setCell (by simp) _).setCell (by simp) _).setCell (by simp) _)
  have HB3 := Lib.hid (B2.out.trans bb3)
  have HO3 := Lib.hid (oo3 _ _ _ _ HO.out HG.out)
  have HQ3 := Lib.hid (HO3.out.row hml.out)
  clear e0 e1 e2 e3 kl2
  clear hW3 f3 bb3 oo3 z3 HO HF2 HF1 HF HA B1 B2 c0 c1 c2 c3 c4 qf0 qf1 qf2 qf3 qf4 HL
  refine (P1.out W3 HQ3.out).mono ?_
  rintro e w4 ⟨⟨x, y, p, q, aa, n1, k, rfl, o4⟩, b4⟩
  have F4 := HF3.out.below b4 HF3.out.lt
  have HG4 := Lib.hid (HG3.out.below b4 HG3.out.lt)
  have HB4 := Lib.hid (HB3.out.trans (b4.mono HB3.out.size))
  have HQ4 := Lib.hid (HQ3.out.below b4)
  have HV4 := Lib.hid o4
  clear b4 o4
  obtain ⟨c0, c1, c2, c3, c4⟩ := F4.cells
  have HF4 := Lib.hid F4
  clear F4
  have hk0 : w.heap.size < w4.heap.size := HF4.out.lt
  obtain ⟨e0, e1, e2, e3⟩ := HG4.out.cells
  have hk2 : w.heap.size + 1 < w4.heap.size := HG4.out.lt
  go_wp2_with fail
  generalize hW5 : w4.alloc (.cells #[.int .i64 x, .int .i64 y, .int .i64 p, .int .i64 q, .slice aa n1 k] /-T-/66) = W5 at *
  have P5 : Fld W5 w4.heap.size x y p q (.slice aa n1 k) := by subst hW5; exact Fld.new _ _ _ _ _ _
  have B5 : Below w4.heap.size w4 W5 := by subst hW5; exact (by repeat (first | with_reducible exact Below.refl _ _ | with_reducible apply Below.drew | with_reducible refine below_drewN ?_ _ | (with_reducible refine Below.setCell ?_ ?_ _; rotate_left; focus (first | omega | (simp <;> omega))) | (with_reducible refine Below.alloc ?_ ?_ _; rotate_left; focus (first | omega | (simp <;> omega)))))
  have HB5 := Lib.hid (HB4.out.trans (B5.mono HB4.out.size))
  have HQ5 := Lib.hid (HQ4.out.below B5)
  have HV5 := Lib.hid (HV4.out.below B5)
  have HP5 := Lib.hid P5
  clear hW5 P5 B5 HB4 HQ4 HV4 HF4 HB3 HQ3 HO3 HF3 c0 c1 c2 c3 c4 HG hml
  have HK := Lib.hid hk0
  generalize w4.heap.size = k7 at *
  refine (P2.out W5 HQ5.out).mono ?_
  rintro e w6 ⟨⟨x2, y2, p2, q2, aa2, n2, k2, rfl, o6⟩, b6⟩
  have P6 := HP5.out.below b6 HP5.out.lt
  have HB6 := Lib.hid (HB5.out.trans (b6.mono HB5.out.size))
  have HV6 := Lib.hid (HV5.out.below b6)
  have HU6 := Lib.hid o6
  clear b6 o6
  obtain ⟨d0, d1, d2, d3, d4⟩ := P6.cells
  have HP6 := Lib.hid P6
  have lz1 : k7 < w6.heap.size := P6.lt
  clear P6 HV5 HP5 HQ5 HB5 hk0
  have hk1 : Hid (w.heap.size ≤ w6.heap.size) := HB6.out.size
  go_wp2_with fail
  generalize hW7 : w6.alloc (.cells #[.int .i64 x2, .int .i64 y2, .int .i64 p2, .int .i64 q2, .slice aa2 n2 k2] /-T-/66) = W7 at *
  have B7 : Below w6.heap.size w6 W7 := by subst hW7; exact (by repeat (first | with_reducible exact Below.refl _ _ | with_reducible apply Below.drew | with_reducible refine below_drewN ?_ _ | (with_reducible refine Below.setCell ?_ ?_ _; rotate_left; focus (first | omega | (simp <;> omega))) | (with_reducible refine Below.alloc ?_ ?_ _; rotate_left; focus (first | omega | (simp <;> omega)))))
  have HB7 := Lib.hid (HB6.out.trans (B7.mono HB6.out.size))
  have HV7 := Lib.hid (HV6.out.below B7)
  have HU7 := Lib.hid (HU6.out.below B7)
  clear hW7 B7 HB6 HV6 HU6 HP6 d0 d1 d2 d3 d4
  refine (same_out HV7.out HU7.out HS.out).mono ?_
  rintro e w8 ⟨rfl, b8⟩
  have B8 := HB7.out.trans (b8.mono HB7.out.size)
  clear b8
  go_wp2_with fail
  go_ret
  exact ⟨rfl, B8⟩
end Go.Proofs.Ytgeeaegnohdejaa
