import Derived.Test.YtnfebeebjelgbaaRefShadeOp
import Derived.Test.YtnfebeebjelgbaaContains
namespace Go.Proofs.Ytnfebeebjelgbaa
open Go.ChangeShapes Go.WideShapes Go.ChangeAt Go.RowKit
open Ieee.Format (fin finE htE allFin allHt all_true all_false mulF subF addF Ht Bd divF rootF floorF easeF mixF)
set_option linter.unusedVariables false

theorem lessfn_any (x : Nat) (w : World) : Calls Try.prog 68 #[.float .f32 x] w fun e w' => e = .returned (.bool (lss x 0)) ∧ w = w' := by
  go_enter Try.func68, Try.ntmps68
  go_wp2
  go_ret
  exact ⟨rfl, rfl⟩

theorem shadeF_pos (A B C M n s e w v : Nat) (h : fin Ieee.single (Ieee.Format.shade2 A B C M n s e w)) : lss (shadeF A B C M n s e w v) 0 = false := by
  unfold shadeF
  split
  · rename_i hg
    rw [gtr_V h Ieee.Format.const_0.1, Ieee.Format.const_0.2.1] at hg
    have := of_decide_eq_true hg
    rw [lss_V h Ieee.Format.const_0.1, Ieee.Format.const_0.2.1]
    simp; grind
  · rw [lss_V Ieee.Format.const_0.1 Ieee.Format.const_0.1]
    simp

theorem OutV.row {c X Y W H : Int} {m : List Nat} {w : World} {B : Nat} {x y p q : Int} {a : Option Addr} {n k : Nat} (h : OutV c X Y W H m w B x y p q a n k) (hm : m.length ≤ 1099511627776) : ∃ T : List Nat, n = T.length ∧ SRow w a T ∧ (T = [] ∨ T = m) := by
  rcases h with ⟨_, rfl, rfl, rfl, rfl, rfl, rfl, rfl⟩ | ⟨_, rfl, rfl, rfl, rfl, g, rfl, rfl, ho⟩
  · exact ⟨[], rfl, ⟨⟨by simp, by simp⟩, .inl rfl⟩, .inl rfl⟩
  · exact ⟨m, rfl, ho.row hm, .inr rfl⟩

theorem shade_pair (lx ly lz : Int) (X Y : Int) (Wn Hn : Nat) (b o c : Nat) (l : List Nat) (hr : Right X Y Wn Hn l) (hx : -1000000 ≤ X ∧ X ≤ 1000000 ∧ -1000000 ≤ Y ∧ Y ≤ 1000000) :
    ∃ (C X1 Y1 W1 H1 : Int) (S : List Nat), (S.length ≤ 1099511627776 ∧ ∀ x ∈ S, lss x 0 = false) ∧
      (∀ w, SRow w (some ⟨b, o, none⟩) l → Calls Try.prog 66 #[fldV X Y Wn Hn (some ⟨b, o, none⟩) l.length c, .int .i64 lx, .int .i64 ly, .int .i64 lz] w fun e w' => OpP C X1 Y1 W1 H1 S w e w') ∧
      (∀ w, SRow w (some ⟨b, o, none⟩) l → Calls Try.prog 67 #[fldV X Y Wn Hn (some ⟨b, o, none⟩) l.length c, .int .i64 lx, .int .i64 ly, .int .i64 lz] w fun e w' => OpP C X1 Y1 W1 H1 S w e w') := by
  by_cases h : Wn < 3 ∨ Hn < 3
  · refine ⟨10, 0, 0, 0, 0, [], ⟨by simp, by simp⟩, fun w hl => ?_, fun w hl => ?_⟩
    · exact (shade_no X Y Wn Hn b o c l lx ly lz w hl hr h).mono fun e w' ⟨h1, h2⟩ => OpP.err (by decide) h1 h2
    · exact (refshade_no X Y Wn Hn b o c l lx ly lz w hl hr hx h).mono fun e w' ⟨h1, h2⟩ => OpP.err (by decide) h1 h2
  · by_cases he : lightE lx ly lz = 0
    · refine ⟨_, _, _, _, _, _, ⟨innerL_small _ hr, ?_⟩, fun w hl => shade_ok X Y Wn Hn b o c l lx ly lz w hl hr (by omega) (by omega) he _ rfl, fun w hl => refshade_ok X Y Wn Hn b o c l lx ly lz w hl hr (by omega) (by omega) he _ rfl⟩
      intro x hx'
      unfold innerL madeL at hx'
      obtain ⟨k, _, rfl⟩ := List.mem_map.1 hx'
      obtain ⟨hL, _⟩ := light_ok he
      unfold nbr
      exact shadeF_pos _ _ _ _ _ _ _ _ _ (Ieee.Format.shade_bd hL.a hL.b hL.c hL.m hL.m1 (hr.bd _) (hr.bd _) (hr.bd _) (hr.bd _)).2.2.2.2.2.1
    · refine ⟨lightE lx ly lz, 0, 0, 0, 0, [], ⟨by simp, by simp⟩, fun w hl => ?_, fun w hl => ?_⟩
      · exact (shade_bad X Y Wn Hn b o c l lx ly lz w hl hr (by omega) (by omega) he).mono fun e w' ⟨h1, h2⟩ => OpP.err he h1 h2
      · exact (refshade_bad X Y Wn Hn b o c l lx ly lz w hl hr (by omega) (by omega) he).mono fun e w' ⟨h1, h2⟩ => OpP.err he h1 h2

set_option maxRecDepth 100000 in
set_option maxHeartbeats 1000000 in
theorem shades_law (X Y A B : Int) (a : Option Addr) (l : List Nat) (cap : Nat) (lx ly lz : Int) (w : World) (hl : Row63 w a l) :
    Calls Try.prog 11 #[fldV X Y A B a l.length cap, .int .i64 lx, .int .i64 ly, .int .i64 lz] w fun e w' => e = .returned (.bool true) ∧ Below w.heap.size w w' := by
  have HL := Lib.hid hl
  clear hl
  go_enter Try.func11, Try.ntmps11
  go_wp2_with fail
  generalize hW0 : w.alloc (.cells #[.int .i64 X, .int .i64 Y, .int .i64 A, .int .i64 B, .slice a l.length cap] 36) = W0 at *
  have F0 : Fld W0 w.heap.size X Y A B (.slice a l.length cap) := by subst hW0; exact Fld.new _ _ _ _ _ _
  have B0 : Below w.heap.size w W0 := by subst hW0; exact (by repeat (first | with_reducible exact Below.refl _ _ | with_reducible apply Below.drew | with_reducible refine below_drewN ?_ _ | (with_reducible refine Below.setCell ?_ ?_ _; rotate_left; focus (first | omega | (simp <;> omega))) | (with_reducible refine Below.alloc ?_ ?_ _; rotate_left; focus (first | omega | (simp <;> omega)))))
  clear hW0
  refine (landed_bel _).mono ?_
  rintro e w1 ⟨rfl, b1⟩
  have F1 := F0.below b1 F0.lt
  have B1 := Lib.hid (B0.trans (b1.mono B0.size))
  clear b1 F0 B0
  obtain ⟨c0, c1, c2, c3, c4⟩ := F1.cells
  have HF1 := Lib.hid F1
  clear F1
  go_wp2_with fail
  refine (fit_any X Y A B a cap l w1 (HL.out.below B1.out)).mono ?_
  rintro e w2 ⟨X', Y', Wn, Hn, g, cap', l', rfl, hr, hsm, ho, b2⟩
  have F2 := HF1.out.below b2 HF1.out.lt
  have B2 := Lib.hid (B1.out.trans (b2.mono B1.out.size))
  have HG : Hid (g ≠ w.heap.size) := by have := ho.lt.1; have := HF1.out.lt; unfold Hid; omega
  have HO := Lib.hid ho
  have HML : Hid (l'.length ≤ 1099511627776) := by
    have h1 := Nat.mul_le_mul hr.h2 hr.w2
    rw [← hr.len] at h1
    unfold Hid; omega
  obtain ⟨C, X1, Y1, W1, H1, S, hS, hp1, hp2⟩ := shade_pair lx ly lz X' Y' Wn Hn g 0 cap' l' hr (by omega)
  have P1 := Lib.hid hp1
  have P2 := Lib.hid hp2
  have HS := Lib.hid hS
  clear hp1 hp2 hS
  clear b2 hr ho c0 c1 c2 c3 c4 hsm
  obtain ⟨c0, c1, c2, c3, c4⟩ := F2.cells
  have qf0 := F2.frozen 0
  have qf1 := F2.frozen 1
  have qf2 := F2.frozen 2
  have qf3 := F2.frozen 3
  have qf4 := F2.frozen 4
  have HF2 := Lib.hid F2
  clear F2
  go_wp2_with fail
  generalize hW3 : ((((w2.setCell ⟨w.heap.size, 0, none⟩ (.int .i64 X')).setCell ⟨w.heap.size, 1, none⟩ (.int .i64 Y')).setCell ⟨w.heap.size, 2, none⟩ (.int .i64 (Wn : Int))).setCell ⟨w.heap.size, 3, none⟩ (.int .i64 (Hn : Int))).setCell ⟨w.heap.size, 4, none⟩ (.slice (some ⟨g, 0, none⟩) l'.length cap') = W3 at *
  obtain ⟨f3, bb3, oo3, _, z3⟩ := fld_store w2 w.heap.size X Y A B _ X' Y' Wn Hn (.slice (some ⟨g, 0, none⟩) l'.length cap') HF2.out W3 hW3.symm
  have HF3 := Lib.hid f3
  have HB3 := Lib.hid (B2.out.trans bb3)
  have HO3 := Lib.hid (oo3 _ _ _ _ HO.out HG.out)
  have HQ3 := Lib.hid (HO3.out.row HML.out)
  clear hW3 f3 bb3 oo3 z3 HO HF2 HF1 B1 B2 c0 c1 c2 c3 c4 qf0 qf1 qf2 qf3 qf4 HL HG
  refine (P1.out W3 HQ3.out).mono ?_
  rintro e w4 ⟨⟨x, y, p, q, aa, n1, k, rfl, o4⟩, b4⟩
  have F4 := HF3.out.below b4 HF3.out.lt
  have HB4 := Lib.hid (HB3.out.trans (b4.mono HB3.out.size))
  have HQ4 := Lib.hid (HQ3.out.below b4)
  have HV4 := Lib.hid o4
  clear b4 o4
  obtain ⟨c0, c1, c2, c3, c4⟩ := F4.cells
  have HF4 := Lib.hid F4
  clear F4
  have hk0 : w.heap.size < w4.heap.size := HF4.out.lt
  go_wp2_with fail
  generalize hW5 : w4.alloc (.cells #[.int .i64 x, .int .i64 y, .int .i64 p, .int .i64 q, .slice aa n1 k] 36) = W5 at *
  have P5 : Fld W5 w4.heap.size x y p q (.slice aa n1 k) := by subst hW5; exact Fld.new _ _ _ _ _ _
  have B5 : Below w4.heap.size w4 W5 := by subst hW5; exact (by repeat (first | with_reducible exact Below.refl _ _ | with_reducible apply Below.drew | with_reducible refine below_drewN ?_ _ | (with_reducible refine Below.setCell ?_ ?_ _; rotate_left; focus (first | omega | (simp <;> omega))) | (with_reducible refine Below.alloc ?_ ?_ _; rotate_left; focus (first | omega | (simp <;> omega)))))
  have HF5 := Lib.hid (HF4.out.below B5 HF4.out.lt)
  have HB5 := Lib.hid (HB4.out.trans (B5.mono HB4.out.size))
  have HQ5 := Lib.hid (HQ4.out.below B5)
  have HV5 := Lib.hid (HV4.out.below B5)
  have HP5 := Lib.hid P5
  clear hW5 P5 B5 HB4 HQ4 HV4 HF4 HB3 HQ3 HO3 HF3 c0 c1 c2 c3 c4
  have HK := Lib.hid hk0
  generalize w4.heap.size = k7 at *
  refine (P2.out W5 HQ5.out).mono ?_
  rintro e w6 ⟨⟨x2, y2, p2, q2, aa2, n2, k2, rfl, o6⟩, b6⟩
  have P6 := HP5.out.below b6 HP5.out.lt
  have HF6 := Lib.hid (HF5.out.below b6 HF5.out.lt)
  have HQ6 := Lib.hid (HQ5.out.below b6)
  have HB6 := Lib.hid (HB5.out.trans (b6.mono HB5.out.size))
  have HV6 := Lib.hid (HV5.out.below b6)
  have HU6 := Lib.hid o6
  clear b6 o6
  obtain ⟨d0, d1, d2, d3, d4⟩ := P6.cells
  have HP6 := Lib.hid P6
  have lz1 : k7 < w6.heap.size := P6.lt
  have lz0 : w.heap.size < w6.heap.size := HF6.out.lt
  clear P6 HV5 HP5 HQ5 HB5 HF5 hk0
  go_wp2_with fail
  generalize hW7 : w6.alloc (.cells #[.int .i64 x2, .int .i64 y2, .int .i64 p2, .int .i64 q2, .slice aa2 n2 k2] 36) = W7 at *
  have B7 : Below w6.heap.size w6 W7 := by subst hW7; exact (by repeat (first | with_reducible exact Below.refl _ _ | with_reducible apply Below.drew | with_reducible refine below_drewN ?_ _ | (with_reducible refine Below.setCell ?_ ?_ _; rotate_left; focus (first | omega | (simp <;> omega))) | (with_reducible refine Below.alloc ?_ ?_ _; rotate_left; focus (first | omega | (simp <;> omega)))))
  have HB7 := Lib.hid (HB6.out.trans (B7.mono HB6.out.size))
  have HV7 := Lib.hid (HV6.out.below B7)
  have HU7 := Lib.hid (HU6.out.below B7)
  have HF7 := Lib.hid (HF6.out.below B7 HF6.out.lt)
  have HQ7 := Lib.hid (HQ6.out.below B7)
  have HP7 := Lib.hid (HP6.out.below B7 HP6.out.lt)
  have HR7 : Hid (Fld W7 w6.heap.size x2 y2 p2 q2 (.slice aa2 n2 k2)) := by subst hW7; exact Fld.new _ _ _ _ _ _
  clear hW7 B7 HB6 HV6 HU6 HP6 HF6 HQ6 d0 d1 d2 d3 d4
  refine (same_out HV7.out HU7.out HS.out.1).mono ?_
  rintro e w8 ⟨rfl, b8⟩
  obtain ⟨T, rfl, hT, hTS⟩ := (HV7.out.below b8).row HS.out.1
  have P8 := HP7.out.below b8 HP7.out.lt
  have HB8 := Lib.hid (HB7.out.trans (b8.mono HB7.out.size))
  have hK := contains_any 68 #[] (fun v => lss v 0) aa k T w8 hT (enters_of Try.func68 (by kernel_rfl) rfl) (fun x => lessfn_any x w8)
  have hF : T.any (fun v => lss v 0) = false := by
    rw [List.any_eq_false]
    intro x hx
    rcases hTS with h | h
    · rw [h] at hx; exact absurd hx (by simp)
    · rw [h] at hx; rw [HS.out.2 x hx]; decide
  rw [hF] at hK
  have HK8 := Lib.hid hK
  clear hK hF hTS hT b8
  obtain ⟨d0, d1, d2, d3, d4⟩ := P8.cells
  clear P8
  go_wp2_with fail
  refine (HK8.out).mono ?_
  rintro e w9 ⟨rfl, rfl⟩
  go_wp2_with fail
  go_ret
  exact ⟨rfl, HB8.out⟩
end Go.Proofs.Ytnfebeebjelgbaa
