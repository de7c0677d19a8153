import Derived.Test.YtnfebeebjelgbaaKernOp
namespace Go.Proofs.Ytnfebeebjelgbaa
open Go.ChangeShapes Go.WideShapes Go.ChangeAt Go.RowKit
open Ieee.Format (fin finE htE allFin allHt all_true all_false mulF subF addF Ht Bd divF rootF floorF easeF mixF)
set_option linter.unusedVariables false
set_option maxRecDepth 100000 in
theorem kern_no (X Y : Int) (Wn Hn : Nat) (R : Int) (N : Nat) (ka : Option Addr) (K : List Nat) (b o c kc : Nat) (l : List Nat) (w : World) (hl : SRow w (some ⟨b, o, none⟩) l) (hr : Right X Y Wn Hn l) (hs : SideOk R N) (hk : SRow w ka K) (h : (K.length : Int) = R * R) (hz : htE K = 0) (hno : Wn < 2 * N + 1 ∨ Hn < 2 * N + 1) :
    Calls Try.prog 46 #[fldV X Y Wn Hn (some ⟨b, o, none⟩) l.length c, .slice ka K.length kc, .int .i64 R] w fun e w' => e = .returned (.tuple #[fldV 0 0 0 0 none 0 0, .int .i64 10]) ∧ Below w.heap.size w w' := by
  have KC := Lib.hid (fun w h => check_field X Y Wn Hn (some ⟨b, o, none⟩) c l w h)
  rw [hr.chk] at KC
  have HL := Lib.hid hl
  have KH := Lib.hid (fun w (h : SRow w ka K) => heights_any ka kc K w h)
  rw [hz] at KH
  have HK := Lib.hid hk
  obtain ⟨s1, s2, s3, s4, s5, s6⟩ := hs
  have r1 : 0 ≤ R * R := Int.mul_nonneg (by omega) (by omega)
  have r2 : R * R ≤ 15 * 15 := Int.mul_le_mul (by omega) (by omega) (by omega) (by omega)
  have g1 := hr.w2; have g2 := hr.h2; have g3 := hr.x1; have g4 := hr.x2; have g5 := hr.y1; have g6 := hr.y2; have g7 := hr.w1; have g8 := hr.h1
  have KS := Lib.hid (fun w => fsmaller_no X Y Wn Hn N w (by omega) (by omega) (by omega) (by omega) (by omega) (by omega) (by omega) (by omega) (by omega) (by omega) (by omega))
  have m1 : (0 : Int) ≤ (N : Int) := by omega
  have m2 : (N : Int) ≤ 7 := by omega
  clear hl hr s1 s2 hk g1 g2 g3 g4 g5 g6 g7 g8 hno
  generalize (N : Int) = M at *
  generalize X + M = X1 at *
  generalize Y + M = Y1 at *
  generalize (Wn : Int) - 2 * M = P at *
  generalize (Hn : Int) - 2 * M = Q at *
  go_enter Try.func46, Try.ntmps46
  go_wp2_with fail
  generalize hW0 : (((w.alloc (.cells #[.int .i64 X, .int .i64 Y, .int .i64 Wn, .int .i64 Hn, .slice (some ⟨b, o, none⟩) l.length c] 36)).alloc (.cells #[.slice ka K.length kc] 34)).alloc (.cells #[.int .i64 R] 3)).alloc (.cells #[.int .i64 0, .int .i64 0, .int .i64 0, .int .i64 0, .slice none 0 0] 36) = W0 at *
  obtain ⟨E0, P0, Q0, F0, B0⟩ := box_fsi w X Y Wn Hn (.slice (some ⟨b, o, none⟩) l.length c) #[.slice ka K.length kc] 34 #[.int .i64 R] 3 W0 hW0.symm
  clear hW0
  refine (KC.out _ (HL.out.below B0)).mono ?_
  rintro e w1 ⟨rfl, b1⟩
  have HE1 := Lib.hid (E0.below b1 E0.lt)
  have HP1 := Lib.hid (P0.below b1 P0.lt)
  have HQ1 := Lib.hid (Q0.below b1 Q0.lt)
  have HF1 := Lib.hid (F0.below b1 F0.lt)
  have HL1 := Lib.hid ((HL.out.below B0).below b1)
  have HB1 := Lib.hid (B0.trans (b1.mono B0.size))
  have HBB1 := Lib.hid (B0.trans (b1.mono B0.size))
  clear b1 B0 F0 E0 P0 Q0 KC HL
  have p1 : w1.cell? ⟨w.heap.size + 1, 0, none⟩ = some (.slice ka K.length kc) := HP1.out.cell 0
  have q1 : w1.cell? ⟨w.heap.size + 1 + 1, 0, none⟩ = some (.int .i64 R) := HQ1.out.cell 0
  have l3 : w.heap.size + 1 + 1 + 1 < w1.heap.size := HF1.out.lt
  have l2 : w.heap.size + 1 + 1 < w1.heap.size := by omega
  have l1 : w.heap.size + 1 < w1.heap.size := by omega
  have l0 : w.heap.size < w1.heap.size := by omega
  go_wp2_with fail
  refine (KH.out _ (HK.out.below HB1.out)).mono ?_
  rintro e w2 ⟨rfl, rfl⟩
  obtain ⟨c0, c1, c2, c3, c4⟩ := HE1.out.cells
  go_wp2_with fail
  refine (KS.out _).mono ?_
  rintro e w2 ⟨rfl, b2⟩
  have HF2 := Lib.hid (HF1.out.below b2 HF1.out.lt)
  have HB2 := Lib.hid (HB1.out.trans (b2.mono HB1.out.size))
  clear b2 c0 c1 c2 c3 c4 HF1 HB1 HE1 HL1 p1 q1 l3 l2 l1 l0
  obtain ⟨d0, d1, d2, d3, d4⟩ := HF2.out.cells
  have qf0 := HF2.out.frozen 0
  have qf1 := HF2.out.frozen 1
  have qf2 := HF2.out.frozen 2
  have qf3 := HF2.out.frozen 3
  have qf4 := HF2.out.frozen 4
  have lz := HF2.out.lt
  go_wp2_with fail
  have B3 := HB2.out
  exact bodyPost_ret (v := .tuple #[fldV 0 0 0 0 none 0 0, .int .i64 10]) (by simp [results, Try.results46, go_sem, *]) rfl ⟨rfl, (by have hszz := B3.size; repeat (first | with_reducible exact B3 | with_reducible apply Below.drew | with_reducible refine below_drewN ?_ _ | (with_reducible refine Below.setCell ?_ ?_ _; rotate_left; focus (first | omega | (simp <;> omega))) | (with_reducible refine Below.alloc ?_ ?_ _; rotate_left; focus (first | omega | (simp <;> omega)))))⟩

theorem ht_bds {K : List Nat} (h : htE K = 0) : ∀ i, Bd 20 (K.getD i 0) := by
  intro i
  have a := Ieee.Format.allHt_iff.1 (Ieee.Format.htE_zero h)
  rcases Nat.lt_or_ge i K.length with hlt | hge
  · rw [List.getD_eq_getElem?_getD, List.getElem?_eq_getElem hlt]
    exact (a _ (List.getElem_mem hlt)).bd
  · rw [List.getD_eq_getElem?_getD, List.getElem?_eq_none hge]
    exact Ieee.Format.Ht.bd (by unfold Ieee.Format.Ht; decide)

set_option maxRecDepth 100000 in
set_option maxHeartbeats 1000000 in
theorem kern_yes (X Y : Int) (Wn Hn : Nat) (R : Int) (N : Nat) (kb ko : Nat) (K : List Nat) (b o c kc : Nat) (l : List Nat) (w : World) (hl : SRow w (some ⟨b, o, none⟩) l) (hr : Right X Y Wn Hn l) (hs : SideOk R N) (hk : SRow w (some ⟨kb, ko, none⟩) K) (h : (K.length : Int) = R * R) (hz : htE K = 0) (h3 : 2 * N + 1 ≤ Wn) (h4 : 2 * N + 1 ≤ Hn) :
    Calls Try.prog 46 #[fldV X Y Wn Hn (some ⟨b, o, none⟩) l.length c, .slice (some ⟨kb, ko, none⟩) K.length kc, .int .i64 R] w fun e w' => OpP (resC (padL (kerV K l X Y Wn N) X Y Wn Hn N)) (X + N) (Y + N) ((Wn - 2 * N : Nat) : Int) ((Hn - 2 * N : Nat) : Int) (padL (kerV K l X Y Wn N) X Y Wn Hn N) w e w' := by
  have KC := Lib.hid (fun w h => check_field X Y Wn Hn (some ⟨b, o, none⟩) c l w h)
  rw [hr.chk] at KC
  have HL := Lib.hid hl
  have KH := Lib.hid (fun w (h : SRow w (some ⟨kb, ko, none⟩) K) => heights_any (some ⟨kb, ko, none⟩) kc K w h)
  rw [hz] at KH
  have HK := Lib.hid hk
  obtain ⟨s1, s2, s3, s4, s5, s6⟩ := hs
  have r1 : 0 ≤ R * R := Int.mul_nonneg (by omega) (by omega)
  have r2 : R * R ≤ 15 * 15 := Int.mul_le_mul (by omega) (by omega) (by omega) (by omega)
  have hbd := ht_bds hz
  have hKn : K.length = (2 * N + 1) * (2 * N + 1) := by
    have e : (K.length : Int) = (((2 * N + 1) * (2 * N + 1) : Nat) : Int) := by
      rw [h, s1, Int.natCast_mul]; rfl
    omega
  have g1 := hr.w2; have g2 := hr.h2; have g3 := hr.x1; have g4 := hr.x2; have g5 := hr.y1; have g6 := hr.y2
  have KS := Lib.hid (fun w => fsmaller_yes X Y Wn Hn N w (by omega) (by omega) (by omega) (by omega) (by omega) (by omega) (by omega) (by omega) (by omega) (by omega))
  rw [show (Wn : Int) - 2 * (N : Int) = ((Wn - 2 * N : Nat) : Int) from by omega, show (Hn : Int) - 2 * (N : Int) = ((Hn - 2 * N : Nat) : Int) from by omega] at KS
  have KM := Lib.hid (fun q pr pk pn w hl (hk : SRow w (some ⟨kb, ko, none⟩) K) (hq : Fld w q X Y Wn Hn (.slice (some ⟨b, o, none⟩) l.length c)) (hg : Reg w pr (X + N) (Y + N) ((Wn - 2 * N : Nat) : Int) ((Hn - 2 * N : Nat) : Int)) (hpk : Blk w pk #[.slice (some ⟨kb, ko, none⟩) K.length kc] 34) (hpn : Blk w pn #[.int .i64 R] 3) =>
    make_pad 133 #[.pointer (some ⟨pr, 0, none⟩), .pointer (some ⟨q, 0, none⟩), .pointer (some ⟨pk, 0, none⟩), .pointer (some ⟨pn, 0, none⟩)] (kerV K l X Y Wn N) X Y Wn Hn N l w hr h3 h4 (enters_of Try.func133 (by kernel_rfl) rfl) (fun x y => kerF_lt _ _ _)
      (fun x y a1 a2 a3 a4 W' hb => kernfn_any l K X Y Wn Hn N (2 * N + 1) x y b o c kb ko kc q pr pk pn (corner X Y Wn N x y) W' (SRow.below hl hb) hr rfl s2 (SRow.below hk hb) hKn hbd (hpk.below hb hpk.lt) a1 a2 a3 a4 (hq.below hb hq.lt) (hg.below hb hg.lt) (by rw [show ((2 * N + 1 : Nat) : Int) = R from by omega]; exact hpn.below hb hpn.lt) (corner_eq a1 a3)))
  have KR := Lib.hid (fun X1 Y1 W1 H1 g cap B w ho => result_any X1 Y1 W1 H1 g cap B (padL (kerV K l X Y Wn N) X Y Wn Hn N) w ho (padL_small _ N hr))
  have m1 : (0 : Int) ≤ (N : Int) := by omega
  have m2 : (N : Int) ≤ 7 := by omega
  clear hl hr s1 s2 hk g1 g2 g3 g4 g5 g6 h3 h4 hKn hbd hz
  generalize padL (kerV K l X Y Wn N) X Y Wn Hn N = S at *
  generalize resC S = C at *
  generalize Wn - 2 * N = P at *
  generalize Hn - 2 * N = Q at *
  generalize (N : Int) = M at *
  generalize X + M = X1 at *
  generalize Y + M = Y1 at *
  generalize hka : (some ⟨kb, ko, none⟩ : Option Addr) = ka at *
  go_enter Try.func46, Try.ntmps46
  go_wp2_with fail
  generalize hW0 : (((w.alloc (.cells #[.int .i64 X, .int .i64 Y, .int .i64 Wn, .int .i64 Hn, .slice (some ⟨b, o, none⟩) l.length c] 36)).alloc (.cells #[.slice ka K.length kc] 34)).alloc (.cells #[.int .i64 R] 3)).alloc (.cells #[.int .i64 0, .int .i64 0, .int .i64 0, .int .i64 0, .slice none 0 0] 36) = W0 at *
  obtain ⟨E0, P0, Q0, F0, B0⟩ := box_fsi w X Y Wn Hn (.slice (some ⟨b, o, none⟩) l.length c) #[.slice ka K.length kc] 34 #[.int .i64 R] 3 W0 hW0.symm
  clear hW0
  refine (KC.out _ (HL.out.below B0)).mono ?_
  rintro e w1 ⟨rfl, b1⟩
  have HE1 := Lib.hid (E0.below b1 E0.lt)
  have HP1 := Lib.hid (P0.below b1 P0.lt)
  have HQ1 := Lib.hid (Q0.below b1 Q0.lt)
  have HF1 := Lib.hid (F0.below b1 F0.lt)
  have HL1 := Lib.hid ((HL.out.below B0).below b1)
  have HB1 := Lib.hid (B0.trans (b1.mono B0.size))
  have HBB1 := Lib.hid (B0.trans (b1.mono B0.size))
  clear b1 B0 F0 E0 P0 Q0 KC HL
  have p1 : w1.cell? ⟨w.heap.size + 1, 0, none⟩ = some (.slice ka K.length kc) := HP1.out.cell 0
  have q1 : w1.cell? ⟨w.heap.size + 1 + 1, 0, none⟩ = some (.int .i64 R) := HQ1.out.cell 0
  have l3 : w.heap.size + 1 + 1 + 1 < w1.heap.size := HF1.out.lt
  have l2 : w.heap.size + 1 + 1 < w1.heap.size := by omega
  have l1 : w.heap.size + 1 < w1.heap.size := by omega
  have l0 : w.heap.size < w1.heap.size := by omega
  go_wp2_with fail
  refine (KH.out _ (HK.out.below HB1.out)).mono ?_
  rintro e w2 ⟨rfl, rfl⟩
  obtain ⟨c0, c1, c2, c3, c4⟩ := HE1.out.cells
  go_wp2_with fail
  refine (KS.out _).mono ?_
  rintro e w2 ⟨rfl, b2⟩
  have HE2 := Lib.hid (HE1.out.below b2 HE1.out.lt)
  have HP2 := Lib.hid (HP1.out.below b2 HP1.out.lt)
  have HQ2 := Lib.hid (HQ1.out.below b2 HQ1.out.lt)
  have HF2 := Lib.hid (HF1.out.below b2 HF1.out.lt)
  have HL2 := Lib.hid (HL1.out.below b2)
  have HB2 := Lib.hid (HB1.out.trans (b2.mono HB1.out.size))
  clear b2 c0 c1 c2 c3 c4 HF1 HB1 HBB1 HE1 HL1 HP1 HQ1 KS p1 q1 l3 l2 l1 l0
  go_wp2_with fail
  generalize hW4 : w2.alloc (.cells #[.int .i64 X1, .int .i64 Y1, .int .i64 (P : Int), .int .i64 (Q : Int)] 23) = W4 at *
  obtain ⟨R4, B4⟩ := reg_world w2 X1 Y1 P Q W4 hW4.symm
  clear hW4
  have HF4 := Lib.hid (HF2.out.below B4 HF2.out.lt)
  have HB4 := Lib.hid (HB2.out.trans (B4.mono HB2.out.size))
  refine (KM.out _ _ _ _ _ (HL2.out.below B4) (HK.out.below HB4.out) (HE2.out.below B4 HE2.out.lt) R4 (HP2.out.below B4 HP2.out.lt) (HQ2.out.below B4 HQ2.out.lt)).mono ?_
  rintro e w3 ⟨⟨g, cap, rfl, ho⟩, b3⟩
  have HO3 := Lib.hid ho
  have HF3 := Lib.hid (HF4.out.below b3 HF4.out.lt)
  have HB3 := Lib.hid (HB4.out.trans (b3.mono HB4.out.size))
  have HZB : Hid (w.heap.size + 1 + 1 + 1 < W4.heap.size) := HF4.out.lt
  have HBB : Hid (w.heap.size ≤ W4.heap.size) := HB4.out.size
  clear ho b3 KM HE2 HL2 HP2 HQ2 R4 B4 HF2 HB2 HF4 HB4
  go_wp2_with fail
  refine (KR.out _ _ _ _ _ _ _ _ HO3.out).mono ?_
  rintro e w4 ⟨⟨x, y, p, q, a, m, k, rfl, o4⟩, b4⟩
  have HOZ := Lib.hid o4
  have HFZ := Lib.hid (HF3.out.below b4 HF3.out.lt)
  have HBZ := Lib.hid (HB3.out.trans (b4.mono HB3.out.size))
  clear o4 b4 KR HO3 HF3 HB3
  obtain ⟨d0, d1, d2, d3, d4⟩ := HFZ.out.cells
  have qf0 := HFZ.out.frozen 0
  have qf1 := HFZ.out.frozen 1
  have qf2 := HFZ.out.frozen 2
  have qf3 := HFZ.out.frozen 3
  have qf4 := HFZ.out.frozen 4
  have lz := HFZ.out.lt
  go_wp2_with fail
  generalize hW5 : ((((w4.setCell ⟨w.heap.size + 1 + 1 + 1, 0, none⟩ (.int .i64 x)).setCell ⟨w.heap.size + 1 + 1 + 1, 1, none⟩ (.int .i64 y)).setCell ⟨w.heap.size + 1 + 1 + 1, 2, none⟩ (.int .i64 p)).setCell ⟨w.heap.size + 1 + 1 + 1, 3, none⟩ (.int .i64 q)).setCell ⟨w.heap.size + 1 + 1 + 1, 4, none⟩ (.slice a m k) = W5 at *
  obtain ⟨f5, bb5, oo5, _, z5⟩ := fld_store w4 (w.heap.size + 1 + 1 + 1) 0 0 0 0 _ x y p q (.slice a m k) HFZ.out W5 hW5.symm
  have hO5 := (HOZ.out.set oo5 HZB.out).base HBB.out
  have hB5 := HBZ.out.trans (bb5.mono (by omega))
  clear d0 d1 d2 d3 d4 qf0 qf1 qf2 qf3 qf4 hW5 oo5
  obtain ⟨d0, d1, d2, d3, d4⟩ := f5.cells
  exact bodyPost_ret (v := .tuple #[fldV x y p q a m k, .int .i64 C]) (by simp [results, Try.results46, go_sem, *]) rfl ⟨⟨x, y, p, q, a, m, k, rfl, hO5⟩, hB5⟩
end Go.Proofs.Ytnfebeebjelgbaa
