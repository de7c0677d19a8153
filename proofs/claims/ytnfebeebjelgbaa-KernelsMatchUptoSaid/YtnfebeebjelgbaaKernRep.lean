import Derived.Test.YtnfebeebjelgbaaKernLaw
namespace Go.Proofs.Ytnfebeebjelgbaa
open Go.ChangeShapes Go.WideShapes Go.ChangeAt Go.RowKit
open Ieee.Format (fin finE htE allFin allHt all_true all_false mulF subF addF Ht Bd divF rootF floorF easeF mixF)
set_option linter.unusedVariables false

set_option maxRecDepth 100000 in
set_option maxHeartbeats 2000000 in
theorem kernels_rep (X Y A B : Int) (a : Option Addr) (l : List Nat) (cap : Nat) (kb ko : Nat) (K : List Nat) (kc : Nat) (R T0 : Int) (w : World) (hl : Row63 w a l) (hk : Row63 w (some ⟨kb, ko, none⟩) K) (hkz : K.length ≤ 1048576) (h1 : 1 ≤ R) (h2 : R ≤ 5) (h3 : K.length ≠ 0) :
    Calls Try.prog 7 #[fldV X Y A B a l.length cap, .slice (some ⟨kb, ko, none⟩) K.length kc, .int .i64 R, .int .i64 T0] w fun e w' => e = .returned (.bool true) ∧ Below w.heap.size w w' := by
  have HL := Lib.hid hl
  have HKR := Lib.hid hk
  have KREP := Lib.hid (fun w (h : Row63 w (some ⟨kb, ko, none⟩) K) => show Calls Try.prog 35 #[.slice (some ⟨kb, ko, none⟩) K.length kc, .int .i64 30] w _ from repeat_any K 30 kb ko kc w ⟨⟨by omega, h.1.2⟩, h.2⟩ (by omega) (by omega) (by omega))
  have HLT := Lib.hid (repL_lt (c := 30) hk.1.2)
  have HLEN := Lib.hid (repL_len K 30)
  obtain ⟨nn, hnn⟩ : ∃ nn : Nat, R * R = (nn : Int) := ⟨(R * R).toNat, by have := Int.mul_nonneg (show 0 ≤ R by omega) (show 0 ≤ R by omega); omega⟩
  have n1 : 1 * 1 ≤ R * R := Int.mul_le_mul (by omega) (by omega) (by omega) (by omega)
  have n2 : R * R ≤ 5 * 5 := Int.mul_le_mul (by omega) (by omega) (by omega) (by omega)
  rw [hnn] at n1 n2
  have n3 : (nn : Int) ≤ ((K.length * 30 : Nat) : Int) := by omega
  have n4 : nn ≤ K.length * 30 := by omega
  have n5 : K.length * 30 ≤ 31457280 := by omega
  have Q1 := Lib.hid (fun kz X Y Wn Hn b o c l hr => kern_pair R (some ⟨kz, 0, none⟩) ((repL K 30).take nn) nn (K.length * 30) (by rw [List.length_take, repL_len]; omega) X Y Wn Hn b o c l hr)
  have Q2 := Lib.hid (fun X Y Wn Hn b o c l hr => blur_pair T0 X Y Wn Hn b o c l hr)
  generalize repL K 30 = L at *
  generalize hNN : K.length * 30 = NN at *
  clear hNN
  obtain ⟨kn, hkn⟩ : ∃ kn, K.length = kn := ⟨_, rfl⟩
  rw [hkn] at h3 hkz KREP
  rw [hkn]
  have h5 : (0 : Int) < (kn : Int) := by omega
  have h6 : 0 < kn := by omega
  clear hl hk hkn
  go_enter Try.func7, Try.ntmps7
  go_wp2_with fail
  generalize hW0 : w.alloc (.cells #[.int .i64 X, .int .i64 Y, .int .i64 A, .int .i64 B, .slice a l.length cap] 36) = W0 at *
  have F0 : Fld W0 w.heap.size X Y A B (.slice a l.length cap) := by subst hW0; exact Fld.new _ _ _ _ _ _
  have B0 : Below w.heap.size w W0 := by subst hW0; exact (by repeat (first | with_reducible exact Below.refl _ _ | with_reducible apply Below.drew | with_reducible refine below_drewN ?_ _ | (with_reducible refine Below.setCell ?_ ?_ _; rotate_left; focus (first | omega | (simp <;> omega))) | (with_reducible refine Below.alloc ?_ ?_ _; rotate_left; focus (first | omega | (simp <;> omega)))))
  clear hW0
  refine (landed_bel _).mono ?_
  rintro e w1 ⟨rfl, b1⟩
  have F1 := F0.below b1 F0.lt
  have B1 := Lib.hid (B0.trans (b1.mono B0.size))
  clear b1 F0 B0
  obtain ⟨c0, c1, c2, c3, c4⟩ := F1.cells
  have HF1 := Lib.hid F1
  clear F1
  go_wp2_with fail
  refine (fit_any X Y A B a cap l w1 (HL.out.below B1.out)).mono ?_
  rintro e w2 ⟨X', Y', Wn, Hn, g, cap', l', rfl, hr, hsm, ho, b2⟩
  have F2 := HF1.out.below b2 HF1.out.lt
  have B2 := Lib.hid (B1.out.trans (b2.mono B1.out.size))
  have HG : Hid (g ≠ w.heap.size) := by have := ho.lt.1; have := HF1.out.lt; unfold Hid; omega
  have HO := Lib.hid ho
  have HML : Hid (l'.length ≤ 1099511627776) := by
    have h1 := Nat.mul_le_mul hr.h2 hr.w2
    rw [← hr.len] at h1
    unfold Hid; omega
  have HRR := Lib.hid hr
  clear b2 hr ho c0 c1 c2 c3 c4 hsm
  obtain ⟨c0, c1, c2, c3, c4⟩ := F2.cells
  have qf0 := F2.frozen 0
  have qf1 := F2.frozen 1
  have qf2 := F2.frozen 2
  have qf3 := F2.frozen 3
  have qf4 := F2.frozen 4
  have HF2 := Lib.hid F2
  clear F2
  go_wp2_with fail
  generalize hW3 : ((((w2.setCell ⟨w.heap.size, 0, none⟩ (.int .i64 X')).setCell ⟨w.heap.size, 1, none⟩ (.int .i64 Y')).setCell ⟨w.heap.size, 2, none⟩ (.int .i64 (Wn : Int))).setCell ⟨w.heap.size, 3, none⟩ (.int .i64 (Hn : Int))).setCell ⟨w.heap.size, 4, none⟩ (.slice (some ⟨g, 0, none⟩) l'.length cap') = W3 at *
  obtain ⟨f3, bb3, oo3, _, z3⟩ := fld_store w2 w.heap.size X Y A B _ X' Y' Wn Hn (.slice (some ⟨g, 0, none⟩) l'.length cap') HF2.out W3 hW3.symm
  have HF3 := Lib.hid f3
  have HB3 := Lib.hid (B2.out.trans bb3)
  have HO3 := Lib.hid (oo3 _ _ _ _ HO.out HG.out)
  have HQ3 := Lib.hid (HO3.out.row HML.out)
  clear hW3 f3 bb3 oo3 z3 HO HF2 HF1 B1 B2 c0 c1 c2 c3 c4 qf0 qf1 qf2 qf3 qf4 HL HG
  refine (KREP.out W3 (HKR.out.below HB3.out)).mono ?_
  rintro e W4 ⟨rfl, hblk, b4⟩
  have HF4 := Lib.hid (HF3.out.below b4 HF3.out.lt)
  have HB4 := Lib.hid (HB3.out.trans (b4.mono HB3.out.size))
  have HO4 := Lib.hid (HO3.out.below b4 HO3.out.lt.2)
  have HQ4 : Hid (KRow W4 g 0 l' (some ⟨W3.heap.size, 0, none⟩) (L.take nn)) := ⟨HQ3.out.below b4, rep_row hblk HLT.out (by rw [HLEN.out]; omega) (by omega)⟩
  clear hblk b4 HF3 HB3 HO3 HQ3 KREP HKR HLT HLEN
  generalize W3.heap.size = kz at *
  generalize W4 = W3 at *
  have HF3 := HF4
  have HB3 := HB4
  have HO3 := HO4
  have HQ3 := HQ4
  clear HF4 HB4 HO4 HQ4
  obtain ⟨C, X1, Y1, W1, H1, S, hS, hp1, hp2⟩ := Q1.out kz X' Y' Wn Hn g 0 cap' l' HRR.out
  obtain ⟨D, X2, Y2, W2, H2, T, hT, hp3, hp4⟩ := Q2.out X' Y' Wn Hn g 0 cap' l' HRR.out
  have P1 := Lib.hid hp1
  have P2 := Lib.hid hp2
  have P3 := Lib.hid hp3
  have P4 := Lib.hid hp4
  have HS := Lib.hid hS
  have HT := Lib.hid hT
  clear hp1 hp2 hp3 hp4 hS hT Q1 Q2 HRR
  obtain ⟨c0, c1, c2, c3, c4⟩ := HF3.out.cells
  have lz0 := HF3.out.lt
  go_wp2_with fail
  refine (P1.out W3 HQ3.out).mono ?_
  rintro e w4 ⟨⟨x, y, p, q, aa, n1, k, rfl, o4⟩, b4⟩
  have F4 := HF3.out.below b4 HF3.out.lt
  have HB4 := Lib.hid (HB3.out.trans (b4.mono HB3.out.size))
  have HQ4 := Lib.hid (HQ3.out.below b4)
  have HV4 := Lib.hid o4
  have HGK : Hid (g < w4.heap.size) := Nat.lt_of_lt_of_le HO3.out.lt.2 b4.size
  clear b4 o4
  obtain ⟨c0, c1, c2, c3, c4⟩ := F4.cells
  have HF4 := Lib.hid F4
  clear F4
  have hk0 : w.heap.size < w4.heap.size := HF4.out.lt
  go_wp2_with fail
  generalize hW5 : w4.alloc (.cells #[.int .i64 x, .int .i64 y, .int .i64 p, .int .i64 q, .slice aa n1 k] 36) = W5 at *
  have P5 : Fld W5 w4.heap.size x y p q (.slice aa n1 k) := by subst hW5; exact Fld.new _ _ _ _ _ _
  have B5 : Below w4.heap.size w4 W5 := by subst hW5; exact (by repeat (first | with_reducible exact Below.refl _ _ | with_reducible apply Below.drew | with_reducible refine below_drewN ?_ _ | (with_reducible refine Below.setCell ?_ ?_ _; rotate_left; focus (first | omega | (simp <;> omega))) | (with_reducible refine Below.alloc ?_ ?_ _; rotate_left; focus (first | omega | (simp <;> omega)))))
  have HF5 := Lib.hid (HF4.out.below B5 HF4.out.lt)
  have HB5 := Lib.hid (HB4.out.trans (B5.mono HB4.out.size))
  have HQ5 := Lib.hid (HQ4.out.below B5)
  have HV5 := Lib.hid (HV4.out.below B5)
  have HP5 := Lib.hid P5
  clear hW5 P5 B5 HB4 HQ4 HV4 HF4 HB3 HQ3 HO3 HF3 c0 c1 c2 c3 c4
  have HK := Lib.hid hk0
  generalize w4.heap.size = k7 at *
  refine (P2.out W5 HQ5.out).mono ?_
  rintro e w6 ⟨⟨x2, y2, p2, q2, aa2, n2, k2, rfl, o6⟩, b6⟩
  have P6 := HP5.out.below b6 HP5.out.lt
  have HF6 := Lib.hid (HF5.out.below b6 HF5.out.lt)
  have HQ6 := Lib.hid (HQ5.out.below b6)
  have HB6 := Lib.hid (HB5.out.trans (b6.mono HB5.out.size))
  have HV6 := Lib.hid (HV5.out.below b6)
  have HU6 := Lib.hid o6
  clear b6 o6
  obtain ⟨d0, d1, d2, d3, d4⟩ := P6.cells
  have HP6 := Lib.hid P6
  have lz1 : k7 < w6.heap.size := P6.lt
  have lz0 : w.heap.size < w6.heap.size := HF6.out.lt
  clear P6 HV5 HP5 HQ5 HB5 HF5 hk0
  go_wp2_with fail
  generalize hW7 : w6.alloc (.cells #[.int .i64 x2, .int .i64 y2, .int .i64 p2, .int .i64 q2, .slice aa2 n2 k2] 36) = W7 at *
  have B7 : Below w6.heap.size w6 W7 := by subst hW7; exact (by repeat (first | with_reducible exact Below.refl _ _ | with_reducible apply Below.drew | with_reducible refine below_drewN ?_ _ | (with_reducible refine Below.setCell ?_ ?_ _; rotate_left; focus (first | omega | (simp <;> omega))) | (with_reducible refine Below.alloc ?_ ?_ _; rotate_left; focus (first | omega | (simp <;> omega)))))
  have HB7 := Lib.hid (HB6.out.trans (B7.mono HB6.out.size))
  have HV7 := Lib.hid (HV6.out.below B7)
  have HU7 := Lib.hid (HU6.out.below B7)
  have HF7 := Lib.hid (HF6.out.below B7 HF6.out.lt)
  have HQ7 := Lib.hid (HQ6.out.below B7)
  have HP7 := Lib.hid (HP6.out.below B7 HP6.out.lt)
  have HR7 : Hid (Fld W7 w6.heap.size x2 y2 p2 q2 (.slice aa2 n2 k2)) := by subst hW7; exact Fld.new _ _ _ _ _ _
  clear hW7 B7 HB6 HV6 HU6 HP6 HF6 HQ6 d0 d1 d2 d3 d4
  have hk97 : Hid (k7 < w6.heap.size) := lz1
  have hk90 : Hid (w.heap.size < w6.heap.size) := lz0
  generalize w6.heap.size = k9 at *
  refine (same_out HV7.out HU7.out HS.out).mono ?_
  rintro e w8 ⟨rfl, b8⟩
  have F8 := HF7.out.below b8 HF7.out.lt
  have P8 := HP7.out.below b8 HP7.out.lt
  have R8 := HR7.out.below b8 HR7.out.lt
  have HB8 := Lib.hid (HB7.out.trans (b8.mono HB7.out.size))
  have HQ8 := Lib.hid (HQ7.out.below b8)
  clear b8 HV7 HU7 HF7 HP7 HR7 HQ7 HB7
  obtain ⟨c0, c1, c2, c3, c4⟩ := F8.cells
  have HF8 := Lib.hid F8
  have HP8 := Lib.hid P8
  have HR8 := Lib.hid R8
  have hk08 : w.heap.size < w8.heap.size := F8.lt
  clear F8 P8 R8 lz0 lz1 P1 P2
  go_wp2_with fail
  refine (P3.out w8 HQ8.out.1).mono ?_
  rintro e w9 ⟨⟨x3, y3, p3, q3, aa3, n3, k3, rfl, o9⟩, b9⟩
  have F9 := HF8.out.below b9 HF8.out.lt
  have P9 := HP8.out.below b9 HP8.out.lt
  have HR9 := Lib.hid (HR8.out.below b9 HR8.out.lt)
  have HB9 := Lib.hid (HB8.out.trans (b9.mono HB8.out.size))
  have HQ9 := Lib.hid (HQ8.out.below b9)
  have HU9 := Lib.hid o9
  have hk98 : Hid (k9 < w8.heap.size) := HR8.out.lt
  have hk78 : Hid (k7 < w8.heap.size) := HP8.out.lt
  clear b9 o9 c0 c1 c2 c3 c4
  obtain ⟨c0, c1, c2, c3, c4⟩ := F9.cells
  obtain ⟨d0, d1, d2, d3, d4⟩ := P9.cells
  have qf0 := P9.frozen 0
  have qf1 := P9.frozen 1
  have qf2 := P9.frozen 2
  have qf3 := P9.frozen 3
  have qf4 := P9.frozen 4
  have HF9 := Lib.hid F9
  have HP9 := Lib.hid P9
  have lz0 : w.heap.size < w9.heap.size := F9.lt
  have lz1 : k7 < w9.heap.size := P9.lt
  clear F9 P9 HF8 HP8 HR8 HQ8 HB8 hk08
  have hk0 : w.heap.size < k7 := HK.out
  go_wp2_with fail
  generalize hWA : ((((w9.setCell ⟨k7, 0, none⟩ (.int .i64 x3)).setCell ⟨k7, 1, none⟩ (.int .i64 y3)).setCell ⟨k7, 2, none⟩ (.int .i64 p3)).setCell ⟨k7, 3, none⟩ (.int .i64 q3)).setCell ⟨k7, 4, none⟩ (.slice aa3 n3 k3) = WA at *
  obtain ⟨fA, bbA, ooA, ppA, zA⟩ := fld_store w9 k7 x y p q _ x3 y3 p3 q3 (.slice aa3 n3 k3) HP9.out WA hWA.symm
  have FA := ppA _ _ _ _ _ _ HF9.out (by have := HK.out; omega)
  have RA := ppA _ _ _ _ _ _ HR9.out (by have := hk97.out; omega)
  have HPA := Lib.hid fA
  have HFA := Lib.hid FA
  have HRA := Lib.hid RA
  have HBA := Lib.hid (HB9.out.trans (bbA.mono (Nat.le_of_lt HK.out)))
  have HQA := Lib.hid (SRow.under HQ9.out.1 bbA HGK.out)
  have HUA := Lib.hid (HU9.out.set ooA hk78.out)
  clear hWA fA bbA ooA ppA zA FA RA HP9 HF9 HR9 HB9 HQ9 HU9 c0 c1 c2 c3 c4 d0 d1 d2 d3 d4 qf0 qf1 qf2 qf3 qf4 lz0 lz1
  obtain ⟨c0, c1, c2, c3, c4⟩ := HFA.out.cells
  have lz0 : w.heap.size < WA.heap.size := HFA.out.lt
  go_wp2_with fail
  refine (P4.out WA HQA.out).mono ?_
  rintro e w11 ⟨⟨x4, y4, p4, q4, aa4, n4, k4, rfl, o11⟩, b11⟩
  have P11 := HPA.out.below b11 HPA.out.lt
  have R11 := HRA.out.below b11 HRA.out.lt
  have HB11 := Lib.hid (HBA.out.trans (b11.mono HBA.out.size))
  have HU11 := Lib.hid (HUA.out.below b11)
  have HT11 := Lib.hid o11
  have hk9A : Hid (k9 < WA.heap.size) := HRA.out.lt
  clear b11 o11 HPA HRA HBA HUA HQA HFA c0 c1 c2 c3 c4
  obtain ⟨d0, d1, d2, d3, d4⟩ := P11.cells
  have qf0 := R11.frozen 0
  have qf1 := R11.frozen 1
  have qf2 := R11.frozen 2
  have qf3 := R11.frozen 3
  have qf4 := R11.frozen 4
  obtain ⟨c0, c1, c2, c3, c4⟩ := R11.cells
  have lz1 : k9 < w11.heap.size := R11.lt
  have lz2 : k7 < w11.heap.size := P11.lt
  have hk7 : k7 < k9 := hk97.out
  have HP11 := Lib.hid P11
  have HR11 := Lib.hid R11
  clear P11 R11
  go_wp2_with fail
  generalize hWB : ((((w11.setCell ⟨k9, 0, none⟩ (.int .i64 x4)).setCell ⟨k9, 1, none⟩ (.int .i64 y4)).setCell ⟨k9, 2, none⟩ (.int .i64 p4)).setCell ⟨k9, 3, none⟩ (.int .i64 q4)).setCell ⟨k9, 4, none⟩ (.slice aa4 n4 k4) = WB at *
  obtain ⟨fB, bbB, ooB, ppB, zB⟩ := fld_store w11 k9 x2 y2 p2 q2 _ x4 y4 p4 q4 (.slice aa4 n4 k4) HR11.out WB hWB.symm
  have HBB := Lib.hid (HB11.out.trans (bbB.mono (Nat.le_of_lt hk90.out)))
  have HUB := Lib.hid (HU11.out.set ooB (by have := hk98.out; exact this))
  have HTB := Lib.hid (HT11.out.set ooB hk9A.out)
  have HPB := Lib.hid (ppB _ _ _ _ _ _ HP11.out (by have := hk97.out; omega))
  have HRB := Lib.hid fB
  clear hWB fB bbB ooB ppB zB HP11 HR11 HB11 HU11 HT11 c0 c1 c2 c3 c4 d0 d1 d2 d3 d4 lz0 lz1 lz2 qf0 qf1 qf2 qf3 qf4
  obtain ⟨c0, c1, c2, c3, c4⟩ := HRB.out.cells
  obtain ⟨d0, d1, d2, d3, d4⟩ := HPB.out.cells
  have lz1 : k9 < WB.heap.size := HRB.out.lt
  have lz2 : k7 < WB.heap.size := HPB.out.lt
  go_wp2_with fail
  refine (same_out HUB.out HTB.out HT.out).mono ?_
  rintro e w12 ⟨rfl, b12⟩
  have B12 := HBB.out.trans (b12.mono HBB.out.size)
  clear b12
  go_wp2_with fail
  go_ret
  exact ⟨rfl, B12⟩

theorem kernels_law (X Y A B : Int) (a : Option Addr) (l : List Nat) (cap : Nat) (ka : Option Addr) (K : List Nat) (kc : Nat) (R T0 : Int) (w : World) (hl : Row63 w a l) (hk : Row63 w ka K) (hkz : K.length ≤ 1048576) :
    Calls Try.prog 7 #[fldV X Y A B a l.length cap, .slice ka K.length kc, .int .i64 R, .int .i64 T0] w fun e w' => e = .returned (.bool true) ∧ Below w.heap.size w w' := by
  by_cases h : R < 1 ∨ 5 < R ∨ K.length = 0
  · exact kernels_plain X Y A B a l cap ka K kc R T0 w hl hk h
  · rcases hk.2 with h9 | ⟨kb, ko, rfl, _⟩
    · rw [h9] at h; simp at h
    · exact kernels_rep X Y A B a l cap kb ko K kc R T0 w hl hk hkz (by omega) (by omega) (by omega)
end Go.Proofs.Ytnfebeebjelgbaa
