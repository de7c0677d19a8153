import Derived.Test.YtnfebeebjelgbaaBlendW
import Derived.Deep.RegionHeld3
import Derived.Deep.DeepCutAuto
namespace Go.Proofs.Ytnfebeebjelgbaa
open Go.ChangeShapes Go.WideShapes Go.ChangeAt Go.RowKit
open Ieee.Format (fin finE htE allFin allHt all_true all_false mulF subF addF Ht Bd divF rootF floorF easeF mixF)
set_option linter.unusedVariables false

set_option maxRecDepth 100000 in
set_option maxHeartbeats 8000000 in
theorem blends_law (X1 Y1 A1 B1 : Int) (a1 : Option Addr) (l1 : List Nat) (cap1 : Nat) (X2 Y2 A2 B2 : Int) (a2 : Option Addr) (l2 : List Nat) (cap2 : Nat) (X3 Y3 A3 B3 : Int) (a3 : Option Addr) (l3 : List Nat) (cap3 : Nat) (w : World) (h1 : Row63 w a1 l1) (h2 : Row63 w a2 l2) (h3 : Row63 w a3 l3) :
    Calls Try.prog 5 #[fldV X1 Y1 A1 B1 a1 l1.length cap1, fldV X2 Y2 A2 B2 a2 l2.length cap2, fldV X3 Y3 A3 B3 a3 l3.length cap3] w fun e w' => e = .returned (.bool true) ∧ Below w.heap.size w w' := by
  have H1 := Lib.hid h1
  have H2 := Lib.hid h2
  have H3 := Lib.hid h3
  clear h1 h2 h3
  go_enter Try.func5, Try.ntmps5
  go_wp2_with fail
  generalize hW0 : ((w.alloc (.cells #[.int .i64 X1, .int .i64 Y1, .int .i64 A1, .int .i64 B1, .slice a1 l1.length cap1] 36)).alloc (.cells #[.int .i64 X2, .int .i64 Y2, .int .i64 A2, .int .i64 B2, .slice a2 l2.length cap2] 36)).alloc (.cells #[.int .i64 X3, .int .i64 Y3, .int .i64 A3, .int .i64 B3, .slice a3 l3.length cap3] 36) = W0
  obtain ⟨E1, E2, E3, B0⟩ := box3 w X1 Y1 A1 B1 (.slice a1 l1.length cap1) X2 Y2 A2 B2 (.slice a2 l2.length cap2) X3 Y3 A3 B3 (.slice a3 l3.length cap3) W0 hW0.symm
  clear hW0
  refine (landed_bel _).mono ?_
  rintro e w1 ⟨rfl, b1⟩
  have HE1 := Lib.hid (E1.below b1 E1.lt)
  have HE2 := Lib.hid (E2.below b1 E2.lt)
  have HE3 := Lib.hid (E3.below b1 E3.lt)
  have HB := Lib.hid (B0.trans (b1.mono B0.size))
  clear b1 E1 E2 E3 B0
  have lz1 : w.heap.size < w1.heap.size := HE1.out.lt
  have lz2 : w.heap.size + 1 < w1.heap.size := HE2.out.lt
  have lz3 : w.heap.size + 1 + 1 < w1.heap.size := HE3.out.lt
  have K1 := Lib.hid (fun W (h : Below w1.heap.size w1 W) => fit_any X1 Y1 A1 B1 a1 cap1 l1 W ((H1.out.below HB.out).below h))
  have K2 := Lib.hid (fun W (h : Below w1.heap.size w1 W) => fit_any X2 Y2 A2 B2 a2 cap2 l2 W ((H2.out.below HB.out).below h))
  have K3 := Lib.hid (fun W (h : Below w1.heap.size w1 W) => fit_any X3 Y3 A3 B3 a3 cap3 l3 W ((H3.out.below HB.out).below h))
  obtain ⟨c0, c1, c2, c3, c4⟩ := HE1.out.cells
  obtain ⟨d0, d1, d2, d3, d4⟩ := HE2.out.cells
  obtain ⟨e0, e1, e2, e3, e4⟩ := HE3.out.cells
  have bz : Below w1.heap.size w1 w1.drew := (Below.refl _ _).drew
  go_upto_region 3 with fail
  go_cut [] (fun wx => ∃ (X Y : Int) (Wn Hn g c : Nat) (l : List Nat) (X' Y' : Int) (Wn' Hn' g' c' : Nat) (l' : List Nat) (X'' Y'' : Int) (Wn'' Hn'' g'' c'' : Nat) (l'' : List Nat),
    FitAt wx (w.heap.size + 3) w.heap.size X Y Wn Hn g c l ∧ FitAt wx (w.heap.size + 3) (w.heap.size + 1) X' Y' Wn' Hn' g' c' l' ∧ FitAt wx (w.heap.size + 3) (w.heap.size + 1 + 1) X'' Y'' Wn'' Hn'' g'' c'' l'' ∧ Below w.heap.size w wx)
  case first =>
    go_region_with (first
      | (go_at_call 21; with_reducible refine (K1.out _ (by assumption)).mono ?_
         rintro e w2 ⟨X, Y, Wn, Hn, g, c, l, rfl, r1, s1, o1, b2⟩
         have bz2 := bel_step (by assumption) b2
         obtain ⟨d0, d1, d2, d3, d4⟩ := (HE2.out.below bz2 HE2.out.lt).cells
         obtain ⟨e0, e1, e2, e3, e4⟩ := (HE3.out.below bz2 HE3.out.lt).cells)
      | (go_at_call 21; with_reducible refine (K2.out _ (by assumption)).mono ?_
         rintro e w3 ⟨X', Y', Wn', Hn', g', c', l', rfl, r2, s2, o2, b3⟩
         have bz3 := bel_step (by assumption) b3
         obtain ⟨e0, e1, e2, e3, e4⟩ := (HE3.out.below bz3 HE3.out.lt).cells)
      | (go_at_call 21; with_reducible refine (K3.out _ (by assumption)).mono ?_
         rintro e w4 ⟨X'', Y'', Wn'', Hn'', g'', c'', l'', rfl, r3, s3, o3, b4⟩
         have bz4 := bel_step (by assumption) b4
         have F1 := HE1.out.below bz4 HE1.out.lt
         have F2 := HE2.out.below bz4 HE2.out.lt
         have F3 := HE3.out.below bz4 HE3.out.lt
         have lt1 := F1.lt
         have lt2 := F2.lt
         have lt3 := F3.lt
         have qf0 := F1.frozen 0
         have qf1 := F1.frozen 1
         have qf2 := F1.frozen 2
         have qf3 := F1.frozen 3
         have qf4 := F1.frozen 4
         have q1f0 := F2.frozen 0
         have q1f1 := F2.frozen 1
         have q1f2 := F2.frozen 2
         have q1f3 := F2.frozen 3
         have q1f4 := F2.frozen 4
         have q2f0 := F3.frozen 0
         have q2f1 := F3.frozen 1
         have q2f2 := F3.frozen 2
         have q2f3 := F3.frozen 3
         have q2f4 := F3.frozen 4
         obtain ⟨c0, c1, c2, c3, c4⟩ := F1.cells
         obtain ⟨d0, d1, d2, d3, d4⟩ := F2.cells
         obtain ⟨e0, e1, e2, e3, e4⟩ := F3.cells))
    all_goals
      have O1 := o1.below b3 o1.lt.2
      have O1' := O1.below b4 O1.lt.2
      have O2' := o2.below b4 o2.lt.2
      have z2 := bz2.size
      have z3 := bz3.size
      clear c0 c1 c2 c3 c4 d0 d1 d2 d3 d4 e0 e1 e2 e3 e4 qf0 qf1 qf2 qf3 qf4 q1f0 q1f1 q1f2 q1f3 q1f4 q2f0 q2f1 q2f2 q2f3 q2f4
      go_wp2_with fail
      go_meet
      exact three_stored w w4 w.heap.size (w.heap.size + 3) _ _ _ _ _ _ _ _ _ _ _ _ _ _ _ F1 F2 F3 r1 s1 r2 s2 r3 s3 (O1'.base (by simp; omega)) (O2'.base (by omega)) (o3.base (by omega)) (by omega) (HB.out.trans (bz4.mono HB.out.size)) _ rfl
  case rest =>
    obtain ⟨X, Y, Wn, Hn, g, c, l, X', Y', Wn', Hn', g', c', l', X'', Y'', Wn'', Hn'', g'', c'', l'', FA, FB, FC, hB⟩ := hcut
    have HFA := Lib.hid FA
    have HFB := Lib.hid FB
    have HFC := Lib.hid FC
    have HBX := Lib.hid hB
    have FF1 := FB.f
    have FF2 := FC.f
    clear FA FB FC hB bz c0 c1 c2 c3 c4 d0 d1 d2 d3 d4 e0 e1 e2 e3 e4 lz1 lz2 lz3 HB HE1 HE2 HE3 H1 H2 H3 K1 K2 K3
    obtain ⟨c0, c1, c2, c3, c4⟩ := HFA.out.f.cells
    obtain ⟨d0, d1, d2, d3, d4⟩ := HFB.out.f.cells
    obtain ⟨e0, e1, e2, e3, e4⟩ := HFC.out.f.cells
    have q1f0 := FF1.frozen 0
    have q1f1 := FF1.frozen 1
    have q1f2 := FF1.frozen 2
    have q1f3 := FF1.frozen 3
    have q1f4 := FF1.frozen 4
    have q2f0 := FF2.frozen 0
    have q2f1 := FF2.frozen 1
    have q2f2 := FF2.frozen 2
    have q2f3 := FF2.frozen 3
    have q2f4 := FF2.frozen 4
    have lz1 := HFA.out.f.lt
    have lz2 := HFB.out.f.lt
    have lz3 := HFC.out.f.lt
    clear FF1 FF2
    go_upto_region 4 with fail
    go_region
    generalize hW5 : ((((((((wc.setCell ⟨w.heap.size + 1, 0, none⟩ (.int .i64 X)).setCell ⟨w.heap.size + 1, 1, none⟩ (.int .i64 Y)).setCell ⟨w.heap.size + 1, 2, none⟩ (.int .i64 (Wn : Int))).setCell ⟨w.heap.size + 1, 3, none⟩ (.int .i64 (Hn : Int))).setCell ⟨w.heap.size + 1 + 1, 0, none⟩ (.int .i64 X)).setCell ⟨w.heap.size + 1 + 1, 1, none⟩ (.int .i64 Y)).setCell ⟨w.heap.size + 1 + 1, 2, none⟩ (.int .i64 (Wn : Int))).setCell ⟨w.heap.size + 1 + 1, 3, none⟩ (.int .i64 (Hn : Int))).drew = W5
    obtain ⟨G1, G2, G3, O1, O2, O3, hB5⟩ := two_regs w wc X Y Wn Hn g c l X' Y' Wn' Hn' g' c' l' X'' Y'' Wn'' Hn'' g'' c'' l'' HFA.out HFB.out HFC.out HBX.out W5 hW5.symm
    have HR1 := Lib.hid HFA.out.r
    have HR2 := Lib.hid HFB.out.r
    have HR3 := Lib.hid HFC.out.r
    have HS1 := Lib.hid HFA.out.sm
    clear hW5 HFA HFB HFC HBX c0 c1 c2 c3 c4 d0 d1 d2 d3 d4 e0 e1 e2 e3 e4 q1f0 q1f1 q1f2 q1f3 q1f4 q2f0 q2f1 q2f2 q2f3 q2f4 lz1 lz2 lz3
    have hll : l.length ≤ 256 := by
      obtain ⟨_, _, _, _, s5, s6⟩ := HS1.out
      have := Nat.mul_le_mul s6 s5
      rw [HR1.out.len]; omega
    have hp2 : 1 ≤ l'.length := by have := Nat.mul_le_mul HR2.out.h1 HR2.out.w1; rw [HR2.out.len]; omega
    have hp3 : 1 ≤ l''.length := by have := Nat.mul_le_mul HR3.out.h1 HR3.out.w1; rw [HR3.out.len]; omega
    have hq2 : l'.length ≤ 262144 := by have := Nat.mul_le_mul HR2.out.h2 HR2.out.w2; rw [HR2.out.len]; omega
    have hq3 : l''.length ≤ 262144 := by have := Nat.mul_le_mul HR3.out.h2 HR3.out.w2; rw [HR3.out.len]; omega
    have RB := rep_right HR1.out HR2.out 300 (by omega)
    have RS := rep_right HR1.out HR3.out 300 (by omega)
    have KB := Lib.hid (fun W (h : Below W5.heap.size W5 W) => show Calls Try.prog 35 #[.slice (some ⟨g', 0, none⟩) l'.length c', .int .i64 300] W _ from repeat_any l' 300 g' 0 c' W (SRow.below (O2.row (by omega)) h) (by omega) (by omega) (by omega))
    have KS := Lib.hid (fun W (h : Below W5.heap.size W5 W) => show Calls Try.prog 35 #[.slice (some ⟨g'', 0, none⟩) l''.length c'', .int .i64 300] W _ from repeat_any l'' 300 g'' 0 c'' W (SRow.below (O3.row (by omega)) h) (by omega) (by omega) (by omega))
    have HLB := Lib.hid (repL_ltB (c := 300) O2.2)
    have HLS := Lib.hid (repL_ltB (c := 300) O3.2)
    have HNB := Lib.hid (repL_len l' 300)
    have HNS := Lib.hid (repL_len l'' 300)
    have n1 : l.length ≤ l'.length * 300 := by omega
    have n2 : l.length ≤ l''.length * 300 := by omega
    have n3 : l'.length * 300 ≤ 78643200 := by omega
    have n4 : l''.length * 300 ≤ 78643200 := by omega
    generalize repL l' 300 = LB at *
    generalize repL l'' 300 = LS at *
    generalize l'.length * 300 = NB at *
    generalize l''.length * 300 = NS at *
    have HG1 := Lib.hid G1
    have HG2 := Lib.hid G2
    have HG3 := Lib.hid G3
    have HO1 := Lib.hid O1
    have HB5 := Lib.hid hB5
    have HRB := Lib.hid RB
    have HRS := Lib.hid RS
    obtain ⟨c0, c1, c2, c3, c4⟩ := G1.cells
    obtain ⟨d0, d1, d2, d3, d4⟩ := G2.cells
    obtain ⟨e0, e1, e2, e3, e4⟩ := G3.cells
    have lz3 := G3.lt
    clear G1 G2 G3 O1 O2 O3 hB5 RB RS HR2 HR3
    have bz : Below W5.heap.size W5 W5.drew := (Below.refl _ _).drew
    have n5 : (l.length : Int) ≤ (NB : Int) := by omega
    have n6 : (l.length : Int) ≤ (NS : Int) := by omega
    have ks1 : ∀ (w' : World) (u : Value), (w'.setCell ⟨w.heap.size + 1, 4, none⟩ u).cell? ⟨w.heap.size, 4, none⟩ = w'.cell? ⟨w.heap.size, 4, none⟩ := fun w' u => ((Below.refl (w.heap.size + 1) w').setCell (p := ⟨w.heap.size + 1, 4, none⟩) (Nat.le_refl _) u).cell (by simp)
    have ks2 : ∀ (w' : World) (u : Value), (w'.setCell ⟨w.heap.size + 1 + 1, 4, none⟩ u).cell? ⟨w.heap.size, 4, none⟩ = w'.cell? ⟨w.heap.size, 4, none⟩ := fun w' u => ((Below.refl (w.heap.size + 1) w').setCell (p := ⟨w.heap.size + 1 + 1, 4, none⟩) (by simp) u).cell (by simp)
    have HK1 := Lib.hid ks1
    have HK2 := Lib.hid ks2
    clear ks1 ks2
    go_upto_region 5 with fail
    go_cut [] (fun wx => ∃ (gb gs : Nat), Fld wx w.heap.size X Y Wn Hn (.slice (some ⟨g, 0, none⟩) l.length c) ∧ Fld wx (w.heap.size + 1) X Y Wn Hn (.slice (some ⟨gb, 0, none⟩) l.length NB) ∧ Fld wx (w.heap.size + 1 + 1) X Y Wn Hn (.slice (some ⟨gs, 0, none⟩) l.length NS) ∧ OwnF wx (w.heap.size + 3) g c l ∧
      SRow wx (some ⟨gb, 0, none⟩) (LB.take l.length) ∧ SRow wx (some ⟨gs, 0, none⟩) (LS.take l.length) ∧ Below w.heap.size w wx)
    case first =>
      refine wp_region_noPanic ?_
      refine wp_region_held_drew (S := fun w' => w'.cell? ⟨w.heap.size, 4, none⟩ = some (.slice (some ⟨g, 0, none⟩) l.length c)) (by kernel_rfl) c4 (fun hHeld => ?_)
      refine wpAnyH_take (i := 0) (v := ?_) rfl (by kernel_rfl) (by kernel_rfl) (by kernel_rfl) (fun _ _ _ h => h) (Or.inl ⟨by rfl, ?_⟩) (by assumption) ?_
      rotate_left
      focus (intro w hSw; (try dsimp only at hSw); go_simp; try with_reducible rfl)
      try simp only [Act.put, List.setIfInBounds_toArray, List.set_cons_zero, List.set_cons_succ]
      refine wpAnyH_take (i := 3) (v := ?_) rfl (by kernel_rfl) (by kernel_rfl) (by kernel_rfl) (fun _ _ _ h => h) (Or.inl ⟨by rfl, ?_⟩) (by assumption) ?_
      rotate_left
      focus (intro w hSw; (try dsimp only at hSw); go_simp; try with_reducible rfl)
      try simp only [Act.put, List.setIfInBounds_toArray, List.set_cons_zero, List.set_cons_succ]
      refine wpAnyH_take (i := 4) (v := ?_) rfl (by kernel_rfl) (by kernel_rfl) (by kernel_rfl) (fun _ _ _ h => h) (Or.inl ⟨by rfl, ?_⟩) (by assumption) ?_
      rotate_left
      focus (intro w hSw; (try dsimp only at hSw); go_simp; try with_reducible rfl)
      try simp only [Act.put, List.setIfInBounds_toArray, List.set_cons_zero, List.set_cons_succ]
      refine wpAnyH_take (i := 5) (v := ?_) rfl (by kernel_rfl) (by kernel_rfl) (by kernel_rfl) (fun _ _ _ h => h) (Or.inl ⟨by rfl, ?_⟩) (by assumption) ?_
      rotate_left
      focus (intro w hSw; (try dsimp only at hSw); go_simp; try with_reducible rfl)
      try simp only [Act.put, List.setIfInBounds_toArray, List.set_cons_zero, List.set_cons_succ]
      refine wpAnyH_take (i := 7) (v := ?_) rfl (by kernel_rfl) (by kernel_rfl) (by kernel_rfl) (fun _ _ _ h => h) (Or.inl ⟨by rfl, ?_⟩) (by assumption) ?_
      rotate_left
      focus (intro w hSw; (try dsimp only at hSw); go_simp; try with_reducible rfl)
      try simp only [Act.put, List.setIfInBounds_toArray, List.set_cons_zero, List.set_cons_succ]
      refine wpAnyH_take (i := 10) (v := ?_) rfl (by kernel_rfl) (by kernel_rfl) (by kernel_rfl) (fun _ _ _ h => h) (Or.inl ⟨by rfl, ?_⟩) (by assumption) ?_
      rotate_left
      focus (intro w hSw; (try dsimp only at hSw); go_simp; try with_reducible rfl)
      try simp only [Act.put, List.setIfInBounds_toArray, List.set_cons_zero, List.set_cons_succ]
      refine wpAnyH_take (i := 11) (v := ?_) rfl (by kernel_rfl) (by kernel_rfl) (by kernel_rfl) (fun _ _ _ h => h) (Or.inl ⟨by rfl, ?_⟩) (by assumption) ?_
      rotate_left
      focus (intro w hSw; (try dsimp only at hSw); go_simp; try with_reducible rfl)
      try simp only [Act.put, List.setIfInBounds_toArray, List.set_cons_zero, List.set_cons_succ]
      refine wpAnyH_take (i := 12) (v := ?_) rfl (by kernel_rfl) (by kernel_rfl) (by kernel_rfl) (fun _ _ _ h => h) (Or.inl ⟨by rfl, ?_⟩) (by assumption) ?_
      rotate_left
      focus (intro w hSw; (try dsimp only at hSw); go_simp; try with_reducible rfl)
      try simp only [Act.put, List.setIfInBounds_toArray, List.set_cons_zero, List.set_cons_succ]
      refine wpAnyH_ready (rs := [1, 8]) (by kernel_rfl) (by simp) ?_
      refine AllReadyH.cons rfl (fun K hK => ?_) (AllReadyH.cons rfl (fun K hK => ?_) AllReadyH.nil)
      · go_simp
        refine hK.out _ _ (hHeld) (fun hHeld => ?_)
        clear hK K
        try simp only [Act.put, List.setIfInBounds_toArray, List.set_cons_zero, List.set_cons_succ]
        refine wpAnyH_ready (rs := [2, 8]) (by kernel_rfl) (by simp) ?_
        refine AllReadyH.cons rfl (fun K hK => ?_) (AllReadyH.cons rfl (fun K hK => ?_) AllReadyH.nil)
        · go_simp
          refine (KB.out _ (by assumption)).mono ?_
          rintro e w2 ⟨rfl, kB, b2⟩
          have bz2 := bel_step (by assumption) b2
          have c4' := (HG1.out.below bz2 HG1.out.lt).cells.2.2.2.2
          have e4' := (HG3.out.below bz2 HG3.out.lt).cells.2.2.2.2
          go_wp2_with fail
          refine hK.out _ _ (c4') (fun hHeld => ?_)
          clear hK K
          try simp only [Act.put, List.setIfInBounds_toArray, List.set_cons_zero, List.set_cons_succ]
          refine wpAnyH_take (i := 6) (v := ?_) rfl (by kernel_rfl) (by kernel_rfl) (by kernel_rfl) (fun _ _ _ h => h) (Or.inl ⟨by rfl, ?_⟩) (by assumption) ?_
          rotate_left
          focus (intro w hSw; (try dsimp only at hSw); go_simp; try with_reducible rfl)
          try simp only [Act.put, List.setIfInBounds_toArray, List.set_cons_zero, List.set_cons_succ]
          refine wpAnyH_take (i := 14) (v := ?_) rfl (by kernel_rfl) (by kernel_rfl) (by kernel_rfl) (fun _ _ _ h => h) (Or.inl ⟨by rfl, ?_⟩) (by assumption) ?_
          rotate_left
          focus (intro w hSw; (try dsimp only at hSw); go_simp; try with_reducible rfl)
          try simp only [Act.put, List.setIfInBounds_toArray, List.set_cons_zero, List.set_cons_succ]
          refine wpAnyH_ready (rs := [8]) (by kernel_rfl) (by simp) ?_
          refine AllReadyH.cons rfl (fun K hK => ?_) AllReadyH.nil
          go_simp
          refine hK.out _ _ (hHeld) (fun hHeld => ?_)
          clear hK K
          try simp only [Act.put, List.setIfInBounds_toArray, List.set_cons_zero, List.set_cons_succ]
          refine wpAnyH_ready (rs := [9]) (by kernel_rfl) (by simp) ?_
          refine AllReadyH.cons rfl (fun K hK => ?_) AllReadyH.nil
          go_simp
          refine (KS.out _ (by assumption)).mono ?_
          rintro e w3 ⟨rfl, kS, b3⟩
          have bz3 := bel_step (by assumption) b3
          have F2 := HG2.out.below bz3 HG2.out.lt
          have F3 := HG3.out.below bz3 HG3.out.lt
          have c4'' := (HG1.out.below bz3 HG1.out.lt).cells.2.2.2.2
          have d4'' := F2.cells.2.2.2.2
          have e4'' := F3.cells.2.2.2.2
          have f4'' := F2.frozen 4
          have g4'' := F3.frozen 4
          have lt2 := F2.lt
          have lt3 := F3.lt
          go_wp2_with fail
          refine hK.out _ _ (c4'') (fun hHeld => ?_)
          clear hK K
          try simp only [Act.put, List.setIfInBounds_toArray, List.set_cons_zero, List.set_cons_succ]
          refine wpAnyH_take (i := 13) (v := ?_) rfl (by kernel_rfl) (by kernel_rfl) (by kernel_rfl) (fun _ _ _ h => h) (Or.inl ⟨by rfl, ?_⟩) (by assumption) ?_
          rotate_left
          focus (intro w hSw; (try dsimp only at hSw); go_simp; try with_reducible rfl)
          try simp only [Act.put, List.setIfInBounds_toArray, List.set_cons_zero, List.set_cons_succ]
          refine wpAnyH_ready (rs := [15]) (by kernel_rfl) (by simp) ?_
          refine AllReadyH.cons rfl (fun K hK => ?_) AllReadyH.nil
          go_simp
          refine hK.out _ _ ((HK1.out _ _).trans c4'') (fun hHeld => ?_)
          clear hK K
          try simp only [Act.put, List.setIfInBounds_toArray, List.set_cons_zero, List.set_cons_succ]
          refine wpAnyH_take (i := 16) (v := ?_) rfl (by kernel_rfl) (by kernel_rfl) (by kernel_rfl) (fun _ _ _ h => h) (Or.inl ⟨by rfl, ?_⟩) (by assumption) ?_
          rotate_left
          focus (intro w hSw; (try dsimp only at hSw); go_simp; try with_reducible rfl)
          try simp only [Act.put, List.setIfInBounds_toArray, List.set_cons_zero, List.set_cons_succ]
          refine wpAnyH_ready (rs := [17]) (by kernel_rfl) (by simp) ?_
          refine AllReadyH.cons rfl (fun K hK => ?_) AllReadyH.nil
          go_simp
          refine hK.out _ _ ((HK2.out _ _).trans ((HK1.out _ _).trans c4'')) (fun hHeld => ?_)
          clear hK K
          try simp only [Act.put, List.setIfInBounds_toArray, List.set_cons_zero, List.set_cons_succ]
          refine wpAnyH_done (by kernel_rfl) ?_ _
          refine NoPanic.normal ?_
          clear c4' e4' c4'' d4'' e4'' f4'' g4'' lt2 lt3
          go_wp2_with fail
          go_meet
          exact two_slices w W5 w2 w3 X Y Wn Hn g c g' l'.length c' g'' l''.length c'' NB NS l LB LS HG1.out HG2.out HG3.out HO1.out HB5.out kB bz2 b3 kS HLB.out HLS.out (by rw [HNB.out]; exact n1) (by rw [HNS.out]; exact n2) (by omega) _ rfl
        · go_simp
          refine hK.out _ _ (hHeld) (fun hHeld => ?_)
          clear hK K
          try simp only [Act.put, List.setIfInBounds_toArray, List.set_cons_zero, List.set_cons_succ]
          refine wpAnyH_ready (rs := [2]) (by kernel_rfl) (by simp) ?_
          refine AllReadyH.cons rfl (fun K hK => ?_) AllReadyH.nil
          go_simp
          refine (KB.out _ (by assumption)).mono ?_
          rintro e w2 ⟨rfl, kB, b2⟩
          have bz2 := bel_step (by assumption) b2
          have c4' := (HG1.out.below bz2 HG1.out.lt).cells.2.2.2.2
          have e4' := (HG3.out.below bz2 HG3.out.lt).cells.2.2.2.2
          go_wp2_with fail
          refine hK.out _ _ (c4') (fun hHeld => ?_)
          clear hK K
          try simp only [Act.put, List.setIfInBounds_toArray, List.set_cons_zero, List.set_cons_succ]
          refine wpAnyH_take (i := 6) (v := ?_) rfl (by kernel_rfl) (by kernel_rfl) (by kernel_rfl) (fun _ _ _ h => h) (Or.inl ⟨by rfl, ?_⟩) (by assumption) ?_
          rotate_left
          focus (intro w hSw; (try dsimp only at hSw); go_simp; try with_reducible rfl)
          try simp only [Act.put, List.setIfInBounds_toArray, List.set_cons_zero, List.set_cons_succ]
          refine wpAnyH_take (i := 14) (v := ?_) rfl (by kernel_rfl) (by kernel_rfl) (by kernel_rfl) (fun _ _ _ h => h) (Or.inl ⟨by rfl, ?_⟩) (by assumption) ?_
          rotate_left
          focus (intro w hSw; (try dsimp only at hSw); go_simp; try with_reducible rfl)
          try simp only [Act.put, List.setIfInBounds_toArray, List.set_cons_zero, List.set_cons_succ]
          refine wpAnyH_ready (rs := [9]) (by kernel_rfl) (by simp) ?_
          refine AllReadyH.cons rfl (fun K hK => ?_) AllReadyH.nil
          go_simp
          refine (KS.out _ (by assumption)).mono ?_
          rintro e w3 ⟨rfl, kS, b3⟩
          have bz3 := bel_step (by assumption) b3
          have F2 := HG2.out.below bz3 HG2.out.lt
          have F3 := HG3.out.below bz3 HG3.out.lt
          have c4'' := (HG1.out.below bz3 HG1.out.lt).cells.2.2.2.2
          have d4'' := F2.cells.2.2.2.2
          have e4'' := F3.cells.2.2.2.2
          have f4'' := F2.frozen 4
          have g4'' := F3.frozen 4
          have lt2 := F2.lt
          have lt3 := F3.lt
          go_wp2_with fail
          refine hK.out _ _ (c4'') (fun hHeld => ?_)
          clear hK K
          try simp only [Act.put, List.setIfInBounds_toArray, List.set_cons_zero, List.set_cons_succ]
          refine wpAnyH_take (i := 13) (v := ?_) rfl (by kernel_rfl) (by kernel_rfl) (by kernel_rfl) (fun _ _ _ h => h) (Or.inl ⟨by rfl, ?_⟩) (by assumption) ?_
          rotate_left
          focus (intro w hSw; (try dsimp only at hSw); go_simp; try with_reducible rfl)
          try simp only [Act.put, List.setIfInBounds_toArray, List.set_cons_zero, List.set_cons_succ]
          refine wpAnyH_ready (rs := [15]) (by kernel_rfl) (by simp) ?_
          refine AllReadyH.cons rfl (fun K hK => ?_) AllReadyH.nil
          go_simp
          refine hK.out _ _ ((HK1.out _ _).trans c4'') (fun hHeld => ?_)
          clear hK K
          try simp only [Act.put, List.setIfInBounds_toArray, List.set_cons_zero, List.set_cons_succ]
          refine wpAnyH_take (i := 16) (v := ?_) rfl (by kernel_rfl) (by kernel_rfl) (by kernel_rfl) (fun _ _ _ h => h) (Or.inl ⟨by rfl, ?_⟩) (by assumption) ?_
          rotate_left
          focus (intro w hSw; (try dsimp only at hSw); go_simp; try with_reducible rfl)
          try simp only [Act.put, List.setIfInBounds_toArray, List.set_cons_zero, List.set_cons_succ]
          refine wpAnyH_ready (rs := [17]) (by kernel_rfl) (by simp) ?_
          refine AllReadyH.cons rfl (fun K hK => ?_) AllReadyH.nil
          go_simp
          refine hK.out _ _ ((HK2.out _ _).trans ((HK1.out _ _).trans c4'')) (fun hHeld => ?_)
          clear hK K
          try simp only [Act.put, List.setIfInBounds_toArray, List.set_cons_zero, List.set_cons_succ]
          refine wpAnyH_done (by kernel_rfl) ?_ _
          refine NoPanic.normal ?_
          clear c4' e4' c4'' d4'' e4'' f4'' g4'' lt2 lt3
          go_wp2_with fail
          go_meet
          exact two_slices w W5 w2 w3 X Y Wn Hn g c g' l'.length c' g'' l''.length c'' NB NS l LB LS HG1.out HG2.out HG3.out HO1.out HB5.out kB bz2 b3 kS HLB.out HLS.out (by rw [HNB.out]; exact n1) (by rw [HNS.out]; exact n2) (by omega) _ rfl
      · go_simp
        refine hK.out _ _ (hHeld) (fun hHeld => ?_)
        clear hK K
        try simp only [Act.put, List.setIfInBounds_toArray, List.set_cons_zero, List.set_cons_succ]
        refine wpAnyH_ready (rs := [1]) (by kernel_rfl) (by simp) ?_
        refine AllReadyH.cons rfl (fun K hK => ?_) AllReadyH.nil
        go_simp
        refine hK.out _ _ (hHeld) (fun hHeld => ?_)
        clear hK K
        try simp only [Act.put, List.setIfInBounds_toArray, List.set_cons_zero, List.set_cons_succ]
        refine wpAnyH_ready (rs := [2]) (by kernel_rfl) (by simp) ?_
        refine AllReadyH.cons rfl (fun K hK => ?_) AllReadyH.nil
        go_simp
        refine (KB.out _ (by assumption)).mono ?_
        rintro e w2 ⟨rfl, kB, b2⟩
        have bz2 := bel_step (by assumption) b2
        have c4' := (HG1.out.below bz2 HG1.out.lt).cells.2.2.2.2
        have e4' := (HG3.out.below bz2 HG3.out.lt).cells.2.2.2.2
        go_wp2_with fail
        refine hK.out _ _ (c4') (fun hHeld => ?_)
        clear hK K
        try simp only [Act.put, List.setIfInBounds_toArray, List.set_cons_zero, List.set_cons_succ]
        refine wpAnyH_take (i := 6) (v := ?_) rfl (by kernel_rfl) (by kernel_rfl) (by kernel_rfl) (fun _ _ _ h => h) (Or.inl ⟨by rfl, ?_⟩) (by assumption) ?_
        rotate_left
        focus (intro w hSw; (try dsimp only at hSw); go_simp; try with_reducible rfl)
        try simp only [Act.put, List.setIfInBounds_toArray, List.set_cons_zero, List.set_cons_succ]
        refine wpAnyH_take (i := 14) (v := ?_) rfl (by kernel_rfl) (by kernel_rfl) (by kernel_rfl) (fun _ _ _ h => h) (Or.inl ⟨by rfl, ?_⟩) (by assumption) ?_
        rotate_left
        focus (intro w hSw; (try dsimp only at hSw); go_simp; try with_reducible rfl)
        try simp only [Act.put, List.setIfInBounds_toArray, List.set_cons_zero, List.set_cons_succ]
        refine wpAnyH_ready (rs := [9]) (by kernel_rfl) (by simp) ?_
        refine AllReadyH.cons rfl (fun K hK => ?_) AllReadyH.nil
        go_simp
        refine (KS.out _ (by assumption)).mono ?_
        rintro e w3 ⟨rfl, kS, b3⟩
        have bz3 := bel_step (by assumption) b3
        have F2 := HG2.out.below bz3 HG2.out.lt
        have F3 := HG3.out.below bz3 HG3.out.lt
        have c4'' := (HG1.out.below bz3 HG1.out.lt).cells.2.2.2.2
        have d4'' := F2.cells.2.2.2.2
        have e4'' := F3.cells.2.2.2.2
        have f4'' := F2.frozen 4
        have g4'' := F3.frozen 4
        have lt2 := F2.lt
        have lt3 := F3.lt
        go_wp2_with fail
        refine hK.out _ _ (c4'') (fun hHeld => ?_)
        clear hK K
        try simp only [Act.put, List.setIfInBounds_toArray, List.set_cons_zero, List.set_cons_succ]
        refine wpAnyH_take (i := 13) (v := ?_) rfl (by kernel_rfl) (by kernel_rfl) (by kernel_rfl) (fun _ _ _ h => h) (Or.inl ⟨by rfl, ?_⟩) (by assumption) ?_
        rotate_left
        focus (intro w hSw; (try dsimp only at hSw); go_simp; try with_reducible rfl)
        try simp only [Act.put, List.setIfInBounds_toArray, List.set_cons_zero, List.set_cons_succ]
        refine wpAnyH_ready (rs := [15]) (by kernel_rfl) (by simp) ?_
        refine AllReadyH.cons rfl (fun K hK => ?_) AllReadyH.nil
        go_simp
        refine hK.out _ _ ((HK1.out _ _).trans c4'') (fun hHeld => ?_)
        clear hK K
        try simp only [Act.put, List.setIfInBounds_toArray, List.set_cons_zero, List.set_cons_succ]
        refine wpAnyH_take (i := 16) (v := ?_) rfl (by kernel_rfl) (by kernel_rfl) (by kernel_rfl) (fun _ _ _ h => h) (Or.inl ⟨by rfl, ?_⟩) (by assumption) ?_
        rotate_left
        focus (intro w hSw; (try dsimp only at hSw); go_simp; try with_reducible rfl)
        try simp only [Act.put, List.setIfInBounds_toArray, List.set_cons_zero, List.set_cons_succ]
        refine wpAnyH_ready (rs := [17]) (by kernel_rfl) (by simp) ?_
        refine AllReadyH.cons rfl (fun K hK => ?_) AllReadyH.nil
        go_simp
        refine hK.out _ _ ((HK2.out _ _).trans ((HK1.out _ _).trans c4'')) (fun hHeld => ?_)
        clear hK K
        try simp only [Act.put, List.setIfInBounds_toArray, List.set_cons_zero, List.set_cons_succ]
        refine wpAnyH_done (by kernel_rfl) ?_ _
        refine NoPanic.normal ?_
        clear c4' e4' c4'' d4'' e4'' f4'' g4'' lt2 lt3
        go_wp2_with fail
        go_meet
        exact two_slices w W5 w2 w3 X Y Wn Hn g c g' l'.length c' g'' l''.length c'' NB NS l LB LS HG1.out HG2.out HG3.out HO1.out HB5.out kB bz2 b3 kS HLB.out HLS.out (by rw [HNB.out]; exact n1) (by rw [HNS.out]; exact n2) (by omega) _ rfl
    case rest =>
      obtain ⟨gb, gs, FA, FB, FC, OA, SB, SS, hB⟩ := hcut
      have hlB : (LB.take l.length).length = l.length := by rw [HRB.out.len, HR1.out.len]
      have hlS : (LS.take l.length).length = l.length := by rw [HRS.out.len, HR1.out.len]
      have HW0 : Hid (BlW w _ X Y Wn Hn g c gb NB gs NS l.length l (LB.take l.length) (LS.take l.length)) := ⟨FA, FB, FC, OA.row (by omega), SB, SS, hB⟩
      have kg : g < _ := OA.lt.2
      have kgb := bl_blt SB (by rw [hlB]; exact bl_pos HR1.out)
      have kgs := bl_blt SS (by rw [hlS]; exact bl_pos HR1.out)
      have HG3' : Hid (w.heap.size + 1 + 1 < _) := FC.lt
      have HKG := Lib.hid kg
      have HKB := Lib.hid kgb
      have HKS := Lib.hid kgs
      obtain ⟨C, X6, Y6, W6, H6, M, hM, hp1, hp2⟩ := blend_pair X Y Wn Hn g 0 c gb 0 NB gs 0 NS l (LB.take l.length) (LS.take l.length) HR1.out HRB.out HRS.out
      obtain ⟨D, X7, Y7, W7, H7, M2, hM2, hp3, _⟩ := blend_pair X Y Wn Hn g 0 c g 0 c gs 0 NS l l (LS.take l.length) HR1.out HR1.out HRS.out
      rw [hlB, hlS] at hp1 hp2
      rw [hlS] at hp3
      have HSLn := Lib.hid hlS
      generalize LB.take l.length = BL at *
      generalize LS.take l.length = SL at *
      have P1 := Lib.hid (fun W (h : BlW w W X Y Wn Hn g c gb NB gs NS l.length l BL SL) => hp1 W h.sa h.sb h.ss)
      have P2 := Lib.hid (fun W (h : BlW w W X Y Wn Hn g c gb NB gs NS l.length l BL SL) => hp2 W h.sa h.sb h.ss)
      have P3 := Lib.hid (fun W (h : BlW w W X Y Wn Hn g c gb NB gs NS l.length l BL SL) => hp3 W h.sa h.sa h.ss)
      have HM := Lib.hid hM
      have HM2 := Lib.hid hM2
      clear hp1 hp2 hp3 hM hM2 FA FB FC OA SB SS hB kg kgb kgs hlB hlS KB KS HLB HLS HNB HNS HG1 HG2 HG3 HO1 HB5 n1 n2 n3 n4 n5 n6 bz c0 c1 c2 c3 c4 d0 d1 d2 d3 d4 e0 e1 e2 e3 e4 lz3 hq2 hq3 HK1 HK2
      obtain ⟨c0, c1, c2, c3, c4⟩ := HW0.out.fa.cells
      obtain ⟨d0, d1, d2, d3, d4⟩ := HW0.out.fb.cells
      obtain ⟨e0, e1, e2, e3, e4⟩ := HW0.out.fs.cells
      have lz1 := HW0.out.fa.lt
      have lz2 := HW0.out.fb.lt
      have lz3 := HW0.out.fs.lt
      go_wp2_with fail
      refine (P1.out wc HW0.out).mono ?_
      rintro e w4 ⟨⟨x, y, p, q, aa, m1, k1, rfl, o4⟩, b4⟩
      have HW4 := Lib.hid (HW0.out.below b4)
      have HV4 := Lib.hid o4
      have HK4 : Hid (g < w4.heap.size ∧ gb < w4.heap.size ∧ gs < w4.heap.size ∧ w.heap.size + 1 + 1 < w4.heap.size) := by
        have := b4.size; have := HKG.out; have := HKB.out; have := HKS.out; have := HG3'.out; unfold Hid; omega
      clear b4 o4 c0 c1 c2 c3 c4 d0 d1 d2 d3 d4 e0 e1 e2 e3 e4 lz1 lz2 lz3 HW0 HKG HKB HKS HG3'
      obtain ⟨c0, c1, c2, c3, c4⟩ := HW4.out.fa.cells
      obtain ⟨d0, d1, d2, d3, d4⟩ := HW4.out.fb.cells
      obtain ⟨e0, e1, e2, e3, e4⟩ := HW4.out.fs.cells
      have lz1 := HW4.out.fa.lt
      have lz2 := HW4.out.fb.lt
      have lz3 := HW4.out.fs.lt
      go_wp2_with fail
      generalize hW5 : w4.alloc (.cells #[.int .i64 x, .int .i64 y, .int .i64 p, .int .i64 q, .slice aa m1 k1] 36) = W5x
      have P5 : Fld W5x w4.heap.size x y p q (.slice aa m1 k1) := by subst hW5; exact Fld.new _ _ _ _ _ _
      have B5 : Below w4.heap.size w4 W5x := by subst hW5; exact (by repeat (first | with_reducible exact Below.refl _ _ | with_reducible apply Below.drew | with_reducible refine below_drewN ?_ _ | (with_reducible refine Below.setCell ?_ ?_ _; rotate_left; focus (first | omega | (simp <;> omega))) | (with_reducible refine Below.alloc ?_ ?_ _; rotate_left; focus (first | omega | (simp <;> omega)))))
      have HW5 := Lib.hid (HW4.out.below B5)
      have HV5 := Lib.hid (HV4.out.below B5)
      have HP5 := Lib.hid P5
      clear hW5 P5 B5 HW4 HV4 c0 c1 c2 c3 c4 d0 d1 d2 d3 d4 e0 e1 e2 e3 e4 lz1 lz2 lz3
      generalize w4.heap.size = k7 at *
      refine (P2.out W5x HW5.out).mono ?_
      rintro e w6 ⟨⟨x2, y2, p2, q2, aa2, n2, k2, rfl, o6⟩, b6⟩
      have HW6 := Lib.hid (HW5.out.below b6)
      have P6 := HP5.out.below b6 HP5.out.lt
      have HV6 := Lib.hid (HV5.out.below b6)
      have HU6 := Lib.hid o6
      clear b6 o6
      obtain ⟨d0, d1, d2, d3, d4⟩ := P6.cells
      have lz7 := P6.lt
      have HP6 := Lib.hid P6
      clear P6 HV5 HP5 HW5
      go_wp2_with fail
      generalize hW7 : w6.alloc (.cells #[.int .i64 x2, .int .i64 y2, .int .i64 p2, .int .i64 q2, .slice aa2 n2 k2] 36) = W7x
      have B7 : Below w6.heap.size w6 W7x := by subst hW7; exact (by repeat (first | with_reducible exact Below.refl _ _ | with_reducible apply Below.drew | with_reducible refine below_drewN ?_ _ | (with_reducible refine Below.setCell ?_ ?_ _; rotate_left; focus (first | omega | (simp <;> omega))) | (with_reducible refine Below.alloc ?_ ?_ _; rotate_left; focus (first | omega | (simp <;> omega)))))
      have HV7 := Lib.hid (HV6.out.below B7)
      have HU7 := Lib.hid (HU6.out.below B7)
      have HW7 := Lib.hid (HW6.out.below B7)
      have HP7 := Lib.hid (HP6.out.below B7 HP6.out.lt)
      clear hW7 B7 HV6 HU6 HP6 HW6 d0 d1 d2 d3 d4 lz7
      refine (same_out HV7.out HU7.out HM.out.1).mono ?_
      rintro e w8 ⟨rfl, b8⟩
      have HW8 := Lib.hid (HW7.out.below b8)
      have HP8 := Lib.hid (HP7.out.below b8 HP7.out.lt)
      clear b8 HV7 HU7 HW7 HP7
      obtain ⟨c0, c1, c2, c3, c4⟩ := HW8.out.fa.cells
      obtain ⟨e0, e1, e2, e3, e4⟩ := HW8.out.fs.cells
      have lz1 := HW8.out.fa.lt
      have lz3 := HW8.out.fs.lt
      go_wp2_with fail
      refine (P3.out w8 HW8.out).mono ?_
      rintro e w9 ⟨⟨x3, y3, p3, q3, aa3, n3, k3, rfl, o9⟩, b9⟩
      have HW9 := Lib.hid (HW8.out.below b9)
      have HP9 := Lib.hid (HP8.out.below b9 HP8.out.lt)
      have hk78 : Hid (k7 < w8.heap.size) := HP8.out.lt
      clear b9 c0 c1 c2 c3 c4 e0 e1 e2 e3 e4 lz1 lz3 HW8 HP8
      obtain ⟨d0, d1, d2, d3, d4⟩ := HP9.out.cells
      have qf0 := HP9.out.frozen 0
      have qf1 := HP9.out.frozen 1
      have qf2 := HP9.out.frozen 2
      have qf3 := HP9.out.frozen 3
      have qf4 := HP9.out.frozen 4
      have lz7 := HP9.out.lt
      rcases o9 with ⟨hD, rfl, rfl, rfl, rfl, rfl, rfl, rfl⟩ | ⟨hD, rfl, rfl, rfl, rfl, gm, rfl, rfl, o9⟩
      · have hDb : (D != 0) = true := by rw [bne_iff_ne]; exact hD
        clear hD
        go_wp2_with fail
        go_ret
        have B9 := HW9.out.be
        have hkk : w.heap.size ≤ k7 := by have := HK4.out; omega
        exact ⟨rfl, (by have hszz := B9.size; repeat (first | with_reducible exact B9 | with_reducible apply Below.drew | with_reducible refine below_drewN ?_ _ | (with_reducible refine Below.setCell ?_ ?_ _; rotate_left; focus (first | omega | (simp <;> omega))) | (with_reducible refine Below.alloc ?_ ?_ _; rotate_left; focus (first | omega | (simp <;> omega)))))⟩
      · subst hD
        obtain ⟨hM2, hwt⟩ := HM2.out.2 rfl
        have HO9 := Lib.hid o9
        have HMM := Lib.hid hM2
        have HWT := Lib.hid hwt
        clear o9 hM2 hwt HM2
        go_wp2_with fail
        generalize hWA : ((((w9.setCell ⟨k7, 0, none⟩ (.int .i64 x3)).setCell ⟨k7, 1, none⟩ (.int .i64 y3)).setCell ⟨k7, 2, none⟩ (.int .i64 p3)).setCell ⟨k7, 3, none⟩ (.int .i64 q3)).setCell ⟨k7, 4, none⟩ (.slice (some ⟨gm, 0, none⟩) M2.length k3) = WA
        obtain ⟨fA, bbA, ooA, ppA, zA⟩ := fld_store w9 k7 x y p q _ x3 y3 p3 q3 (.slice (some ⟨gm, 0, none⟩) M2.length k3) HP9.out WA hWA.symm
        have hgm := HO9.out.lt.1
        have OA9 := ooA _ _ _ _ HO9.out (by have := hk78.out; omega)
        have HWA := Lib.hid (HW9.out.under bbA (by have := HK4.out; omega) (by have := HK4.out; omega) (by have := HK4.out; omega) (by have := HK4.out; omega))
        have hml : M2.length = l.length := by rw [HMM.out, mixL_len]
        have HRM := Lib.hid (OA9.row (by rw [hml]; omega))
        clear hWA fA bbA ooA ppA zA OA9 HP9 HW9 HO9 d0 d1 d2 d3 d4 qf0 qf1 qf2 qf3 qf4 lz7 hgm
        have cz := HWA.out.fa.cells.2.2.2.2
        have hsl : l.length = SL.length := HSLn.out.symm
        have HML := Lib.hid hml
        have HSN := Lib.hid hsl
        have m256 : M2.length ≤ 256 := by omega
        clear hml hsl
        go_loop [11, 12, 75] (fun _ _ i => ∃ k : Nat, k ≤ M2.length ∧ i = .int .i64 k) (fun _ _ i => M2.length - (intOf i).toNat)
        case atStart => exact ⟨0, by omega, rfl⟩
        case round =>
          obtain ⟨k, hk, rfl⟩ := hrel
          by_cases hlt : k < M2.length
          · have hl2 : k < l.length := by have := HML.out; omega
            have hs2 : k < SL.length := by have := HSN.out; omega
            have hcM := HRM.out.at_ hlt
            have hcA := HWA.out.sa.at_ hl2
            rw [Nat.zero_add] at hcM hcA
            have hltI : (k : Int) < (M2.length : Int) := by omega
            have hltA : (k : Int) < (l.length : Int) := by omega
            have heq : (FloatKind.f32.format.order (M2.getD k 0) (l.getD k 0) == some .eq) = true := by
              have hv := HR1.out.getD k
              have hall := HWT.out
              rw [List.any_eq_false] at hall
              have hsx := hall (SL.getD k 0) (by rw [List.getD_eq_getElem?_getD, List.getElem?_eq_getElem hs2]; exact List.getElem_mem hs2)
              have hs := wt_bd (Ieee.Format.Ht.bd (HRS.out.getD k)).1 (by simpa using hsx)
              have hm := Ieee.Format.mix_same (Ieee.Format.Ht.bd hv).1 hs.1
              rw [HMM.out, mixL_at l l SL k hl2]
              exact (Ieee.single.order_eq hm.1 (Ieee.Format.Ht.bd hv).1).trans (by rw [hm.2]; simp)
            have hne : (FloatKind.f32.format.order (M2.getD k 0) (l.getD k 0) != some .eq) = false := by rw [bne, heq]; rfl
            generalize M2.getD k 0 = va at *
            generalize l.getD k 0 = vb at *
            go_wp2_with fail
            go_round
            case rel => exact ⟨k + 1, by omega, by go_num⟩
            case measure => simp [intOf]; omega
          · go_wp2_with fail
            go_ret
            exact ⟨rfl, HWA.out.be⟩
end Go.Proofs.Ytnfebeebjelgbaa
