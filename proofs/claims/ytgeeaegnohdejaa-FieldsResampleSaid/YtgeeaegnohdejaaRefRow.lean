import Derived.Test.YtgeeaegnohdejaaBetween
namespace Go.Proofs.Ytgeeaegnohdejaa
open Go.Shelf
open Go.ChangeShapes Go.WideShapes Go.ChangeAt Go.RowKit
open Ieee.Format (fin finE htE allFin allHt all_true all_false mulF subF addF Ht Bd mixF mix_bd shareF share_facts)
set_option linter.unusedVariables false

set_option maxRecDepth 100000 in
set_option maxHeartbeats 400000 in
theorem refrow_fn (X Y : Int) (Wn Hn : Nat) (b o c k p q : Nat) (i y : Int) (s : Nat) (l : List Nat) (w : World) (hl : SRow w (some ⟨b, o, none⟩) l) (hn : l.length = Hn * Wn) (hb : ∀ j, Bd 20 (l.getD j 0)) (hs : Bd 0 s) (hw : 1 ≤ Wn) (hw2 : Wn ≤ 512) (hh : 1 ≤ Hn) (hh2 : Hn ≤ 512) (hx0 : -8388608 ≤ X) (hx1 : X ≤ 8388608) (hy0 : -8388608 ≤ Y) (hy1 : Y ≤ 8388608)
    (hi1 : -1073741823 ≤ i) (hi2 : i ≤ 1073741823) (hj1 : -1073741823 ≤ y) (hj2 : y ≤ 1073741824) (hf : Fld w k X Y Wn Hn (.slice (some ⟨b, o, none⟩) l.length c)) (hp : w.cell? ⟨p, 0, none⟩ = some (.int .i64 i)) (pl : p < w.heap.size) (hq : w.cell? ⟨q, 0, none⟩ = some (.float .f32 s)) (ql : q < w.heap.size) :
    Calls Try.prog 160 #[.int .i64 y, .pointer (some ⟨k, 0, none⟩), .pointer (some ⟨p, 0, none⟩), .pointer (some ⟨q, 0, none⟩)] w fun e w' => e = .returned (.tuple #[.float .f32 ((rowV X Y Wn Hn l i y s).getD 0), .bool (rowV X Y Wn Hn l i y s).isSome]) ∧ Below w.heap.size w w' := by
  have kl := hf.lt
  obtain ⟨c0, c1, c2, c3, c4⟩ := hf.cells
  have HFL := Lib.hid hf
  have HL := Lib.hid hl
  have K1 := Lib.hid (fun w' a n c => there_any X Y Wn Hn i y a n c w' hw hw2 hh hh2 hx0 hx1 hy0 hy1 (by omega) (by omega) (by omega) (by omega))
  have K2 := Lib.hid (fun w' a n c => there_any X Y Wn Hn (i + 1) y a n c w' hw hw2 hh hh2 hx0 hx1 hy0 hy1 (by omega) (by omega) (by omega) (by omega))
  have KA : Hid (∀ w', SRow w' (some ⟨b, o, none⟩) l → X ≤ i → i < X + Wn → Y ≤ y → y < Y + Hn → Calls Try.prog 97 #[fldV X Y Wn Hn (some ⟨b, o, none⟩) l.length c, .int .i64 i, .int .i64 y] w' fun e w2 => e = .returned (.float .f32 (l.getD (cellNo X Y Wn i y).toNat 0)) ∧ Below w'.heap.size w' w2) := Lib.hid (fun w' hl g1 g2 g3 g4 => refat_any X Y Wn Hn i y b o c l w' hl (by rw [hn, Int.natCast_mul, Int.mul_comm]) (by omega) (by omega) (by omega) (by omega) hx0 hx1 hy0 hy1 g1 g2 g3 g4)
  have KB : Hid (∀ w', SRow w' (some ⟨b, o, none⟩) l → X ≤ i + 1 → i + 1 < X + Wn → Y ≤ y → y < Y + Hn → Calls Try.prog 97 #[fldV X Y Wn Hn (some ⟨b, o, none⟩) l.length c, .int .i64 (i + 1), .int .i64 y] w' fun e w2 => e = .returned (.float .f32 (l.getD (cellNo X Y Wn (i + 1) y).toNat 0)) ∧ Below w'.heap.size w' w2) := Lib.hid (fun w' hl g1 g2 g3 g4 => refat_any X Y Wn Hn (i + 1) y b o c l w' hl (by rw [hn, Int.natCast_mul, Int.mul_comm]) (by omega) (by omega) (by omega) (by omega) hx0 hx1 hy0 hy1 g1 g2 g3 g4)
  have HN := Lib.hid hn
  clear hf hl hn
  by_cases h1 : inR X Y Wn Hn i y
  · rw [decide_eq_true h1] at K1
    by_cases hz : zf s = true
    · have HR : Hid (rowV X Y Wn Hn l i y s = some (l.getD (cellNo X Y Wn i y).toNat 0)) := by unfold Hid rowV; rw [if_pos h1, if_pos hz]
      have zz : (Go.FloatKind.f32.format.order s 0 == some .eq) = true := hz
      have zn : (Go.FloatKind.f32.format.order s 0 != some .eq) = false := by rw [bne, zz]; rfl
      have KA' := Lib.hid (fun w' hl => KA.out w' hl h1.1 h1.2.1 h1.2.2.1 h1.2.2.2)
      clear hz h1 KA KB K2
      generalize rowV X Y Wn Hn l i y s = R at *
      obtain rfl := HR.out
      generalize hv : l.getD (cellNo X Y Wn i y).toNat 0 = v at *
      have HV := Lib.hid hv
      clear hv
      go_enter Try.func160, Try.ntmps160
      go_wp2_with fail
      refine (K1.out _ _ _ _).mono ?_
      rintro e w1 ⟨rfl, b1⟩
      have F1 := HFL.out.below b1 kl
      have HL1 := Lib.hid (HL.out.below b1)
      have q1 := (b1.cell (p := ⟨q, 0, none⟩) ql).trans hq
      have p1 := (b1.cell (p := ⟨p, 0, none⟩) pl).trans hp
      obtain ⟨d0, d1, d2, d3, d4⟩ := F1.cells
      have B1 := Lib.hid b1
      clear b1 F1 c0 c1 c2 c3 c4 hp hq HFL
      go_wp2_with fail
      refine (KA'.out _ HL1.out).mono ?_
      rintro e w2 ⟨rfl, b2⟩
      have B2 := Lib.hid (B1.out.trans (b2.mono B1.out.size))
      clear b2
      go_wp2_with fail
      refine bodyPost_ret (v := .tuple #[.float .f32 v, .bool true]) (by simp [results, Try.results160, go_sem, *]) rfl ⟨rfl, B2.out⟩
    · have zz : (Go.FloatKind.f32.format.order s 0 == some .eq) = false := by simpa [zf] using hz
      have zn : (Go.FloatKind.f32.format.order s 0 != some .eq) = true := by rw [bne, zz]; rfl
      have i3 : i + 1 ≤ 1073741824 := by omega
      by_cases h2 : inR X Y Wn Hn (i + 1) y
      · rw [decide_eq_true h2] at K2
        have HR : Hid (rowV X Y Wn Hn l i y s = some (mixF (l.getD (cellNo X Y Wn i y).toNat 0) (l.getD (cellNo X Y Wn (i + 1) y).toNat 0) s)) := by unfold Hid rowV; rw [if_pos h1, if_neg hz, if_pos h2]
        obtain ⟨vf, hvf⟩ : ∃ vf : Int → Nat, vf = fun i' => l.getD (cellNo X Y Wn i' y).toNat 0 := ⟨_, rfl⟩
        obtain ⟨g1, g2, g3, g4⟩ := h1
        have g5 : i + 1 < X + Wn := h2.2.1
        have KG : Hid (∀ (i' : Int) (w' : World), SRow w' (some ⟨b, o, none⟩) l → X ≤ i' → i' < X + Wn → Calls Try.prog 97 #[fldV X Y Wn Hn (some ⟨b, o, none⟩) l.length c, .int .i64 i', .int .i64 y] w' fun e w2 => e = .returned (.float .f32 (vf i')) ∧ Below w'.heap.size w' w2) := by
          intro i' w' hl' a1 a2
          rw [hvf]
          exact refat_any X Y Wn Hn i' y b o c l w' hl' (by rw [HN.out, Int.natCast_mul, Int.mul_comm]) (by omega) (by omega) (by omega) (by omega) hx0 hx1 hy0 hy1 a1 a2 g3 g4
        have KM : Hid (∀ (a d : Nat) (w' : World), Bd 20 a → Bd 20 d → Calls Try.prog 146 #[.float .f32 a, .float .f32 d, .float .f32 s] w' fun e w2 => e = .returned (.float .f32 (mixF a d s)) ∧ w' = w2) := fun a d w' ha hd => lerp_any 20 a d s w' ha hd hs (by omega)
        have HVB : Hid (∀ i', Bd 20 (vf i')) := by rw [hvf]; exact fun i' => hb _
        have wi : Hid (IntKind.i64.wrap (i + 1) = i + 1) := by unfold Hid; rw [IntKind.wrap_i64]; omega
        have HE : Hid (mixF (vf i) (vf (IntKind.i64.wrap (i + 1))) s = mixF (l.getD (cellNo X Y Wn i y).toNat 0) (l.getD (cellNo X Y Wn (i + 1) y).toNat 0) s) := by unfold Hid; rw [wi.out, hvf]
        clear hz h2 KA KB hb hs hvf
        generalize rowV X Y Wn Hn l i y s = R at *
        obtain rfl := HR.out
        go_enter Try.func160, Try.ntmps160
        go_wp2_with fail
        refine (K1.out _ _ _ _).mono ?_
        rintro e w1 ⟨rfl, b1⟩
        have F1 := HFL.out.below b1 kl
        have HL1 := Lib.hid (HL.out.below b1)
        have q1 := (b1.cell (p := ⟨q, 0, none⟩) ql).trans hq
        have p1 := (b1.cell (p := ⟨p, 0, none⟩) pl).trans hp
        have HF1 := Lib.hid F1
        obtain ⟨d0, d1, d2, d3, d4⟩ := F1.cells
        have B1 := Lib.hid b1
        have kl1 := F1.lt
        have z1 : w.heap.size ≤ w1.heap.size := b1.size
        clear b1 F1 c0 c1 c2 c3 c4 hp hq HFL
        go_wp2_with fail
        refine (K2.out _ _ _ _).mono ?_
        rintro e w2 ⟨rfl, b2⟩
        have F2 := HF1.out.below b2 kl1
        have HL2 := Lib.hid (HL1.out.below b2)
        have q2 := (b2.cell (p := ⟨q, 0, none⟩) (by simp; omega)).trans q1
        have p2 := (b2.cell (p := ⟨p, 0, none⟩) (by simp; omega)).trans p1
        have kl2 := F2.lt
        have z2 : w1.heap.size ≤ w2.heap.size := b2.size
        have hB2 := (B1.out.trans (b2.mono B1.out.size))
        have HB2 := Lib.hid hB2
        clear d0 d1 d2 d3 d4 q1 p1 b2 B1 HF1
        obtain ⟨c0, c1, c2, c3, c4⟩ := F2.cells
        clear F2
        go_wp2_with fail
        have hR2 := (Below.refl w2.heap.size w2)
        go_region_held3 (fun w' => w'.cell? ⟨k, 0, none⟩ = some (.int .i64 X) ∧ w'.cell? ⟨k, 1, none⟩ = some (.int .i64 Y) ∧ w'.cell? ⟨k, 2, none⟩ = some (.int .i64 Wn) ∧ w'.cell? ⟨k, 3, none⟩ = some (.int .i64 Hn) ∧ w'.cell? ⟨k, 4, none⟩ = some (.slice (some ⟨b, o, none⟩) l.length c) ∧ w'.cell? ⟨p, 0, none⟩ = some (.int .i64 i) ∧ w'.cell? ⟨q, 0, none⟩ = some (.float .f32 s) ∧ Below w2.heap.size w2 w')
          (first
            | exact ⟨c0, c1, c2, c3, c4, p2, q2, hR2.drew⟩
            | (go_split_ands
               have hs := (show Below w2.heap.size w2 _ by assumption).size
               refine ⟨?_, ?_, ?_, ?_, ?_, ?_, ?_, ?_⟩
               all_goals first
                 | (rw [hb.cell (by simp; omega)]; assumption)
                 | exact Below.trans (by assumption) (hb.mono (by omega)))
            | (go_split_ands; refine ⟨?_, ?_, ?_, ?_, ?_, ?_, ?_, ?_⟩ <;> assumption))
          (first
            | (go_at_call 97; go_split_ands; refine (KG.out _ _ (HL2.out.below (by assumption)) ?_ ?_).mono ?_ <;> first | omega | (rw [wi.out]; omega) | skip
               rintro e2 w2' ⟨rfl, hb⟩)
            | (go_at_call 146; refine (KM.out _ _ _ (HVB.out _) (HVB.out _)).mono ?_; rintro e2 w2' ⟨rfl, rfl⟩))
        rename_i hHeld
        obtain ⟨_, _, _, _, _, _, _, hB3⟩ := hHeld
        have B4 := Lib.hid (HB2.out.trans (hB3.mono HB2.out.size))
        clear hB3 hB2
        go_wp2_with fail
        refine bodyPost_ret (v := .tuple #[.float .f32 (mixF (vf i) (vf (IntKind.i64.wrap (i + 1))) s), .bool true]) (by simp [results, Try.results160, go_sem, *]) rfl ⟨by rw [HE.out]; rfl, B4.out⟩
      · rw [decide_eq_false h2] at K2
        have HR : Hid (rowV X Y Wn Hn l i y s = none) := by unfold Hid rowV; rw [if_pos h1, if_neg hz, if_neg h2]
        clear hz h1 h2 KA KB
        generalize rowV X Y Wn Hn l i y s = R at *
        obtain rfl := HR.out
        go_enter Try.func160, Try.ntmps160
        go_wp2_with fail
        refine (K1.out _ _ _ _).mono ?_
        rintro e w1 ⟨rfl, b1⟩
        have F1 := HFL.out.below b1 kl
        have q1 := (b1.cell (p := ⟨q, 0, none⟩) ql).trans hq
        have p1 := (b1.cell (p := ⟨p, 0, none⟩) pl).trans hp
        obtain ⟨d0, d1, d2, d3, d4⟩ := F1.cells
        have B1 := Lib.hid b1
        clear b1 F1 c0 c1 c2 c3 c4 hp hq HFL
        go_wp2_with fail
        refine (K2.out _ _ _ _).mono ?_
        rintro e w2 ⟨rfl, b2⟩
        have B2 := Lib.hid (B1.out.trans (b2.mono B1.out.size))
        clear b2
        go_wp2_with fail
        refine bodyPost_ret (v := .tuple #[.float .f32 0, .bool false]) (by simp [results, Try.results160, go_sem, *]) rfl ⟨rfl, B2.out⟩
  · rw [decide_eq_false h1] at K1
    have HR : Hid (rowV X Y Wn Hn l i y s = none) := by unfold Hid rowV; rw [if_neg h1]
    clear h1 KA KB K2
    generalize rowV X Y Wn Hn l i y s = R at *
    obtain rfl := HR.out
    go_enter Try.func160, Try.ntmps160
    go_wp2_with fail
    refine (K1.out _ _ _ _).mono ?_
    rintro e w1 ⟨rfl, b1⟩
    have B1 := Lib.hid b1
    clear b1
    go_wp2_with fail
    refine bodyPost_ret (v := .tuple #[.float .f32 0, .bool false]) (by simp [results, Try.results160, go_sem, *]) rfl ⟨rfl, B1.out⟩
end Go.Proofs.Ytgeeaegnohdejaa
