import Derived.Test.YtnfebeebjelgbaaRefBil
import Derived.Test.YtnfebeebjelgbaaThermLaw
namespace Go.Proofs.Ytnfebeebjelgbaa
open Go.ChangeShapes Go.WideShapes Go.ChangeAt Go.RowKit
open Ieee.Format (fin finE htE allFin allHt all_true all_false mulF subF addF Ht Bd divF rootF floorF easeF mixF)
set_option linter.unusedVariables false
open Ieee.Format (conv_exact frac_zero)

theorem at_cell {X Y : Int} {Wn Hn : Nat} {l : List Nat} (hr : Right X Y Wn Hn l) : betR X Y Wn Hn l (floatOfInt .f32 X) (floatOfInt .f32 Y) = some (l.getD 0 0) ∧ bilCode (floatOfInt .f32 X) (floatOfInt .f32 Y) (some (l.getD 0 0)) = 0 ∧ floatOfInt .f32 X < 4294967296 ∧ floatOfInt .f32 Y < 4294967296 := by
  have g1 := hr.w1; have g3 := hr.h1; have g5 := hr.x1; have g6 := hr.x2; have g7 := hr.y1; have g8 := hr.y2
  obtain ⟨a1, a2, _⟩ := conv_exact X (by omega) (by omega)
  obtain ⟨b1, b2, _⟩ := conv_exact Y (by omega) (by omega)
  have lX : floatOfInt .f32 X < 4294967296 := by have := floatOfInt_wf .f32 X; simpa [Lit.wf] using this
  have lY : floatOfInt .f32 Y < 4294967296 := by have := floatOfInt_wf .f32 Y; simpa [Lit.wf] using this
  refine ⟨?_, ?_, lX, lY⟩
  · have e40 : Ieee.P2 40 = ((1099511627776 : Int) : Rat) := Ieee.P2_nat 40
    have key : ∀ n : Int, -4194304 ≤ n → n ≤ 4194304 → fin Ieee.single (floatOfInt .f32 n) → Ieee.single.V (floatOfInt .f32 n) = (n : Rat) → floatOfInt .f32 n < 4294967296 → wholeF (floatOfInt .f32 n) = n ∧ zf (subF (floatOfInt .f32 n) (floorF (floatOfInt .f32 n))) = true := by
      intro n h1 h2 hf hv hl
      have q1 : -Ieee.P2 40 ≤ Ieee.single.V (floatOfInt .f32 n) := by
        rw [hv, e40, ← Rat.intCast_neg]; exact Rat.intCast_le_intCast.2 (by omega)
      have q2 : Ieee.single.V (floatOfInt .f32 n) ≤ Ieee.P2 40 := by
        rw [hv, e40]; exact Rat.intCast_le_intCast.2 (by omega)
      obtain ⟨_, f1, _, _, _, _⟩ := floorZ_spec hf hl q1 q2
      obtain ⟨k1, k2⟩ := frac_zero hf hl hv
      rw [k1] at f1
      have hz : floorZ (floatOfInt .f32 n) = n := (Rat.intCast_inj.1 f1).symm
      constructor
      · unfold wholeF
        rw [lss_V hf const_n40.1, const_n40.2, gtr_V hf Ieee.Format.const_40.1, Ieee.Format.const_40.2.1, if_neg (by simp; grind), if_neg (by simp; grind)]
        exact hz
      · unfold zf
        have := Ieee.single.order_eq (Ieee.Format.frac_bd hf hl).1.1 Ieee.Format.const_0.1
        rw [k2, Ieee.Format.const_0.2.1] at this
        exact this.trans (by simp)
    obtain ⟨x1, x2⟩ := key X (by omega) (by omega) a1 a2 lX
    obtain ⟨y1, y2⟩ := key Y (by omega) (by omega) b1 b2 lY
    have hc : (cellNo X Y Wn X Y).toNat = 0 := by
      unfold cellNo
      rw [Int.sub_self, Int.zero_mul]; omega
    have hrow : rowV X Y Wn Hn l X Y (subF (floatOfInt .f32 X) (floorF (floatOfInt .f32 X))) = some (l.getD 0 0) := by
      unfold rowV
      rw [if_pos (by unfold inR; omega), if_pos x2, hc]
    unfold betR bilV
    rw [x1, y1, hrow]
    simp only
    rw [if_pos y2]
  · unfold bilCode
    rw [if_neg, bilC_ok (hr.getD 0)]
    have : finE [floatOfInt .f32 X, floatOfInt .f32 Y] = 0 := Ieee.Format.finE_ok (by unfold allFin; simp [a1, b1])
    omega

set_option maxRecDepth 100000 in
set_option maxHeartbeats 1000000 in
theorem between_law (X Y A B : Int) (a : Option Addr) (l : List Nat) (cap : Nat) (s t : Nat) (w : World) (hl : Row63 w a l) (hs : s < 4294967296) (ht : t < 4294967296) :
    Calls Try.prog 8 #[fldV X Y A B a l.length cap, .float .f32 s, .float .f32 t] w fun e w' => e = .returned (.bool true) ∧ Below w.heap.size w w' := by
  have HL := Lib.hid hl
  have HST : Hid (s < 4294967296 ∧ t < 4294967296) := ⟨hs, ht⟩
  clear hl hs ht
  go_enter Try.func8, Try.ntmps8
  go_wp2_with fail
  generalize hW0 : w.alloc (.cells #[.int .i64 X, .int .i64 Y, .int .i64 A, .int .i64 B, .slice a l.length cap] 36) = W0 at *
  have F0 : Fld W0 w.heap.size X Y A B (.slice a l.length cap) := by subst hW0; exact Fld.new _ _ _ _ _ _
  have B0 : Below w.heap.size w W0 := by subst hW0; exact (by repeat (first | with_reducible exact Below.refl _ _ | with_reducible apply Below.drew | with_reducible refine below_drewN ?_ _ | (with_reducible refine Below.setCell ?_ ?_ _; rotate_left; focus (first | omega | (simp <;> omega))) | (with_reducible refine Below.alloc ?_ ?_ _; rotate_left; focus (first | omega | (simp <;> omega)))))
  clear hW0
  refine (landed_bel _).mono ?_
  rintro e w1 ⟨rfl, b1⟩
  have F1 := F0.below b1 F0.lt
  have B1 := Lib.hid (B0.trans (b1.mono B0.size))
  clear b1 F0 B0
  obtain ⟨c0, c1, c2, c3, c4⟩ := F1.cells
  have HF1 := Lib.hid F1
  clear F1
  go_wp2_with fail
  refine (fit_any X Y A B a cap l w1 (HL.out.below B1.out)).mono ?_
  rintro e w2 ⟨X', Y', Wn, Hn, g, cap', l', rfl, hr, hsm, ho, b2⟩
  have F2 := HF1.out.below b2 HF1.out.lt
  have B2 := Lib.hid (B1.out.trans (b2.mono B1.out.size))
  have HG : Hid (g ≠ w.heap.size) := by have := ho.lt.1; have := HF1.out.lt; unfold Hid; omega
  have HO := Lib.hid ho
  have HML : Hid (l'.length ≤ 1099511627776) := by
    have h1 := Nat.mul_le_mul hr.h2 hr.w2
    rw [← hr.len] at h1
    unfold Hid; omega
  obtain ⟨z1, z2, z3, z4⟩ := at_cell hr
  have K1 := Lib.hid (fun w hl => Bilinear_any X' Y' Wn Hn g 0 cap' l' s t w hl hr HST.out.1 HST.out.2)
  have K2 := Lib.hid (fun w hl => refBilinear_any X' Y' Wn Hn g 0 cap' l' s t w hl hr HST.out.1 HST.out.2)
  have K3 := Lib.hid (fun w hl => Bilinear_any X' Y' Wn Hn g 0 cap' l' (floatOfInt .f32 X') (floatOfInt .f32 Y') w hl hr z3 z4)
  rw [z1, z2] at K3
  have e3 : bilVal 0 (some (l'.getD 0 0)) = l'.getD 0 0 := rfl
  rw [e3] at K3
  have KO := Lib.hid (fun w => one_same (bilVal (bilCode s t (betR X' Y' Wn Hn l' s t)) (betR X' Y' Wn Hn l' s t)) (bilCode s t (betR X' Y' Wn Hn l' s t)) (fun h => by unfold bilVal; rw [if_neg h]) w)
  have KP := Lib.hid (fun w => one_same (l'.getD 0 0) 0 (fun h => absurd rfl h) w)
  have hln : Hid (0 < l'.length) := by
    have := Nat.mul_le_mul hr.h1 hr.w1
    rw [← hr.len] at this
    unfold Hid; omega
  generalize bilVal (bilCode s t (betR X' Y' Wn Hn l' s t)) (betR X' Y' Wn Hn l' s t) = v at *
  generalize bilCode s t (betR X' Y' Wn Hn l' s t) = cc at *
  generalize hq0 : l'.getD 0 0 = q0 at *
  have HQ0 := Lib.hid hq0
  clear hq0 z1 z2 z3 z4 e3 HST
  clear b2 hr ho c0 c1 c2 c3 c4 hsm
  obtain ⟨c0, c1, c2, c3, c4⟩ := F2.cells
  have qf0 := F2.frozen 0
  have qf1 := F2.frozen 1
  have qf2 := F2.frozen 2
  have qf3 := F2.frozen 3
  have qf4 := F2.frozen 4
  have HF2 := Lib.hid F2
  clear F2
  go_wp2_with fail
  generalize hW3 : ((((w2.setCell ⟨w.heap.size, 0, none⟩ (.int .i64 X')).setCell ⟨w.heap.size, 1, none⟩ (.int .i64 Y')).setCell ⟨w.heap.size, 2, none⟩ (.int .i64 (Wn : Int))).setCell ⟨w.heap.size, 3, none⟩ (.int .i64 (Hn : Int))).setCell ⟨w.heap.size, 4, none⟩ (.slice (some ⟨g, 0, none⟩) l'.length cap') = W3 at *
  obtain ⟨f3, bb3, oo3, _, z3⟩ := fld_store w2 w.heap.size X Y A B _ X' Y' Wn Hn (.slice (some ⟨g, 0, none⟩) l'.length cap') HF2.out W3 hW3.symm
  have HF3 := Lib.hid f3
  have HB3 := Lib.hid (B2.out.trans bb3)
  have HO3 := Lib.hid (oo3 _ _ _ _ HO.out HG.out)
  have HQ3 := Lib.hid (HO3.out.row HML.out)
  clear hW3 f3 bb3 oo3 z3 HO HF2 HF1 B1 B2 c0 c1 c2 c3 c4 qf0 qf1 qf2 qf3 qf4 HL HG
  refine (K1.out W3 HQ3.out).mono ?_
  rintro e w4 ⟨rfl, b4⟩
  have F4 := HF3.out.below b4 HF3.out.lt
  have HB4 := Lib.hid (HB3.out.trans (b4.mono HB3.out.size))
  have HQ4 := Lib.hid (HQ3.out.below b4)
  clear b4 HF3 HB3 HQ3
  obtain ⟨c0, c1, c2, c3, c4⟩ := F4.cells
  have HF4 := Lib.hid F4
  clear F4
  go_wp2_with fail
  refine (K2.out _ HQ4.out).mono ?_
  rintro e w5 ⟨rfl, b5⟩
  have F5 := HF4.out.below b5 HF4.out.lt
  have HB5 := Lib.hid (HB4.out.trans (b5.mono HB4.out.size))
  have HQ5 := Lib.hid (HQ4.out.below b5)
  clear b5 HF4 HB4 HQ4 c0 c1 c2 c3 c4
  obtain ⟨c0, c1, c2, c3, c4⟩ := F5.cells
  have HF5 := Lib.hid F5
  clear F5
  go_wp2_with fail
  refine (KO.out _).mono ?_
  rintro e w6 ⟨rfl, rfl⟩
  go_wp2_with fail
  refine (K3.out _ HQ5.out).mono ?_
  rintro e w7 ⟨rfl, b7⟩
  have F7 := HF5.out.below b7 HF5.out.lt
  have HB7 := Lib.hid (HB5.out.trans (b7.mono HB5.out.size))
  have HQ7 := Lib.hid (HQ5.out.below b7)
  clear b7 HF5 HB5 HQ5 c0 c1 c2 c3 c4
  obtain ⟨c0, c1, c2, c3, c4⟩ := F7.cells
  have h0 := SRow.at_ HQ7.out hln.out
  have hln2 := hln.out
  have hml := HML.out
  simp only [Nat.zero_add, Nat.add_zero] at h0
  rw [HQ0.out] at h0
  clear F7 K1 K2 K3
  go_wp2_with fail
  refine (KP.out _).mono ?_
  rintro e w8 ⟨rfl, rfl⟩
  go_wp2_with fail
  go_ret
  exact ⟨rfl, HB7.out⟩
end Go.Proofs.Ytnfebeebjelgbaa
