import Derived.Test.YtnfebeebjelgbaaShadeOp
namespace Go.Proofs.Ytnfebeebjelgbaa
open Go.ChangeShapes Go.WideShapes Go.ChangeAt Go.RowKit
open Ieee.Format (fin finE htE allFin allHt all_true all_false mulF subF addF Ht Bd divF rootF floorF easeF mixF)
set_option linter.unusedVariables false

set_option maxRecDepth 100000 in
set_option maxHeartbeats 1000000 in
theorem shade_ok (X Y : Int) (Wn Hn : Nat) (b o c : Nat) (l : List Nat) (lx ly lz : Int) (w : World) (hl : SRow w (some ⟨b, o, none⟩) l) (hr : Right X Y Wn Hn l) (h3 : 3 ≤ Wn) (h4 : 3 ≤ Hn) (h : lightE lx ly lz = 0) (φ : Nat → Nat → Nat → Nat → Nat → Nat) (hφ : φ = shadeF (cv lx) (cv ly) (cv lz) (rootF (cv (lx * lx + ly * ly + lz * lz)))) :
    Calls Try.prog 66 #[fldV X Y Wn Hn (some ⟨b, o, none⟩) l.length c, .int .i64 lx, .int .i64 ly, .int .i64 lz] w fun e w' => OpP (resC (innerL φ X Y Wn Hn l)) (X + 1) (Y + 1) ((Wn - 2 : Nat) : Int) ((Hn - 2 : Nat) : Int) (innerL φ X Y Wn Hn l) w e w' := by
  obtain ⟨hL, hs1, hs2, hx, hy, hz⟩ := light_ok h
  obtain ⟨bx, bY, bz, hnz⟩ := light_zero h
  have KI := Lib.hid (fun w hl => inner_ok X Y Wn Hn b o c l w hl hr h3 h4)
  have HL := Lib.hid hl
  have KW := Lib.hid (fun W g c0 c1 c2 => within3 1000 g lx ly lz W (by decide) (by decide) c0 c1 c2)
  rw [show (inB 1000 lx && inB 1000 ly && inB 1000 lz) = true from by simp [inB]; omega] at KW
  have KT : Hid (∀ n, n = lx * lx + ly * ly + lz * lz → ∀ w, Calls Try.prog 158 #[.float .f32 (floatOfInt .f32 n)] w fun e w' => e = .returned (.float .f32 (rootF (cv (lx * lx + ly * ly + lz * lz)))) ∧ w = w') := by
    rintro n rfl w
    exact root_any _ hs1 hs2 w
  have KM := Lib.hid (fun q pa pb pc pm w hl (hq : Fld w q X Y Wn Hn (.slice (some ⟨b, o, none⟩) l.length c)) ha hb hc hm => make_inner 159 #[.pointer (some ⟨q, 0, none⟩), .pointer (some ⟨pa, 0, none⟩), .pointer (some ⟨pb, 0, none⟩), .pointer (some ⟨pc, 0, none⟩), .pointer (some ⟨pm, 0, none⟩)] φ X Y Wn Hn l w hr h3 h4 (enters_of Try.func159 (by kernel_rfl) rfl) (fun k => by rw [hφ]; exact shadeF_lt _ _ _ _ _ _ _ _ _)
    (fun x y k hk W' hb' => by rw [hφ]; exact shadefn_any (cv lx) (cv ly) (cv lz) (rootF (cv (lx * lx + ly * ly + lz * lz))) X Y Wn Hn x y b o c k q pa pb pc pm l W' (SRow.below hl hb') hr hk hL (hq.below hb' hq.lt) (Blk.below ha hb' ha.lt) (Blk.below hb hb' hb.lt) (Blk.below hc hb' hc.lt) (Blk.below hm hb' hm.lt)))
  have KR := Lib.hid (fun X1 Y1 W1 H1 g cap B w ho => result_any X1 Y1 W1 H1 g cap B (innerL φ X Y Wn Hn l) w ho (innerL_small φ hr))
  clear hl hr h3 h4 hL hs1 hs2 h hφ
  generalize innerL φ X Y Wn Hn l = S at *
  generalize resC S = C at *
  generalize hM : rootF (cv (lx * lx + ly * ly + lz * lz)) = M at *
  clear hM
  obtain ⟨x1, x2⟩ := hx
  obtain ⟨y1, y2⟩ := hy
  obtain ⟨z1, z2⟩ := hz
  obtain ⟨x3, x4⟩ := bx
  obtain ⟨y3, y4⟩ := bY
  obtain ⟨z3, z4⟩ := bz
  have hw : lx ≠ 0 ∨ (lx = 0 ∧ ly ≠ 0) ∨ (lx = 0 ∧ ly = 0 ∧ lz ≠ 0) := by omega
  rcases hw with hw | ⟨rfl, hw⟩ | ⟨rfl, rfl, hw⟩
  · have q1 : (lx == 0) = false := by simpa using hw
    clear hw hnz
    go_enter Try.func66, Try.ntmps66
    go_wp2_with fail
    generalize hW0 : (w.alloc (.cells #[.int .i64 X, .int .i64 Y, .int .i64 Wn, .int .i64 Hn, .slice (some ⟨b, o, none⟩) l.length c] 36)).alloc (.cells #[.int .i64 0, .int .i64 0, .int .i64 0, .int .i64 0, .slice none 0 0] 36) = W0 at *
    obtain ⟨E0, F0, B0, z0⟩ := two_fields w X Y Wn Hn (.slice (some ⟨b, o, none⟩) l.length c) W0 hW0.symm
    clear hW0
    refine (KI.out _ (HL.out.below B0)).mono ?_
    rintro e w1 ⟨rfl, b1⟩
    have E1 := E0.below b1 E0.lt
    have F1 := F0.below b1 F0.lt
    have HL1 := Lib.hid ((HL.out.below B0).below b1)
    have B1 := Lib.hid (B0.trans (b1.mono B0.size))
    clear b1 B0 F0 E0 z0 KI HL
    have hR := Reg.new w1 (X + 1) (Y + 1) ((Wn - 2 : Nat) : Int) ((Hn - 2 : Nat) : Int)
    have b2 : Below w1.heap.size w1 (w1.alloc (.cells #[.int .i64 (X + 1), .int .i64 (Y + 1), .int .i64 ((Wn - 2 : Nat) : Int), .int .i64 ((Hn - 2 : Nat) : Int)] 23)) := (by repeat (first | with_reducible exact Below.refl _ _ | with_reducible apply Below.drew | with_reducible refine below_drewN ?_ _ | (with_reducible refine Below.setCell ?_ ?_ _; rotate_left; focus (first | omega | (simp <;> omega))) | (with_reducible refine Below.alloc ?_ ?_ _; rotate_left; focus (first | omega | (simp <;> omega)))))
    have HE2 := Lib.hid (E1.below b2 E1.lt)
    have HF2 := Lib.hid (F1.below b2 F1.lt)
    have HL2 := Lib.hid (HL1.out.below b2)
    have HB2 := Lib.hid (B1.out.trans (b2.mono B1.out.size))
    have l0 : w.heap.size < w1.heap.size := E1.lt
    have l1 : w.heap.size + 1 < w1.heap.size := F1.lt
    have HR2 := Lib.hid hR
    clear E1 F1 HL1 B1 b2 hR
    have HS2 : Hid (w1.heap.size + 1 = (w1.alloc (.cells #[.int .i64 (X + 1), .int .i64 (Y + 1), .int .i64 ((Wn - 2 : Nat) : Int), .int .i64 ((Hn - 2 : Nat) : Int)] 23)).heap.size) := Lib.hid (by simp)
    go_wp2_with fail
    generalize w1.alloc (.cells #[.int .i64 (X + 1), .int .i64 (Y + 1), .int .i64 ((Wn - 2 : Nat) : Int), .int .i64 ((Hn - 2 : Nat) : Int)] 23) = w2 at *
    rw [HS2.out]
    obtain ⟨r0, r1, r2, r3⟩ := HR2.out.cells
    have r4 : w1.heap.size < w2.heap.size := HR2.out.lt
    have r5 : w1.heap.size < w2.heap.size + 1 := by omega
    have r6 : w1.heap.size < w2.heap.size + 1 + 1 := by omega
    have r7 : w1.heap.size < w2.heap.size + 1 + 1 + 1 := by omega
    have r8 : w1.heap.size < w2.heap.size + 1 + 1 + 1 + 1 := by omega
    have r9 : w1.heap.size < w2.heap.size + 1 + 1 + 1 + 1 + 1 := by omega
    refine (KW.out _ _ (by simp [go_sem]) (by simp [go_sem]) (by simp [go_sem])).mono ?_
    rintro e w3 ⟨rfl, rfl⟩
    go_wp2_with fail
    refine (KT.out _ (by first | rfl | simp) _).mono ?_
    rintro e w4 ⟨rfl, rfl⟩
    go_wp2_with fail
    generalize hW5 : ((((w2.alloc (.cells #[.int .i64 lx, .int .i64 ly, .int .i64 lz] 3)).alloc (.cells #[.float .f32 M] 37)).alloc (.cells #[.float .f32 (cv lx)] 37)).alloc (.cells #[.float .f32 (cv ly)] 37)).alloc (.cells #[.float .f32 (cv lz)] 37) = W5 at *
    obtain ⟨m0, a0, b0, c0, B5⟩ := light_world w2 lx ly lz M (cv lx) (cv ly) (cv lz) W5 hW5.symm
    have HE5 := Lib.hid (HE2.out.below B5 HE2.out.lt)
    have HF5 := Lib.hid (HF2.out.below B5 HF2.out.lt)
    have HL5 := Lib.hid (HL2.out.below B5)
    have HB5 := Lib.hid (HB2.out.trans (B5.mono HB2.out.size))
    have HG5 : Hid (w2.heap.size ≤ W5.heap.size) := B5.size
    clear hW5 B5 r0 r1 r2 r3 r4 r5 r6 r7 r8 r9
    refine (KM.out _ _ _ _ _ _ HL5.out HE5.out a0 b0 c0 m0).mono ?_
    rintro e w6 ⟨⟨g, cap, rfl, ho⟩, b6⟩
    have HO6 := Lib.hid ho
    have HF6 := Lib.hid (HF5.out.below b6 HF5.out.lt)
    have HB6 := Lib.hid (HB5.out.trans (b6.mono HB5.out.size))
    clear ho b6 KM HE5 HL5 HE2 HL2 a0 b0 c0 m0
    go_wp2_with fail
    refine (KR.out _ _ _ _ _ _ _ _ HO6.out).mono ?_
    rintro e w7 ⟨⟨x, y, p, q, a, m, k, rfl, o7⟩, b7⟩
    have HOZ := Lib.hid o7
    have HFZ := Lib.hid (HF6.out.below b7 HF6.out.lt)
    have HBZ := Lib.hid (HB6.out.trans (b7.mono HB6.out.size))
    have HZB : Hid (w.heap.size + 1 < W5.heap.size) := HF5.out.lt
    have HBB : Hid (w.heap.size ≤ W5.heap.size) := HB5.out.size
    clear o7 b7 KR HO6 HF6 HB6 HF2 HB2 HF5 HB5 l0 l1 x1 x2 y1 y2 z1 z2 x3 x4 y3 y4 z3 z4 HG5
    obtain ⟨d0, d1, d2, d3, d4⟩ := HFZ.out.cells
    have qf0 := HFZ.out.frozen 0
    have qf1 := HFZ.out.frozen 1
    have qf2 := HFZ.out.frozen 2
    have qf3 := HFZ.out.frozen 3
    have qf4 := HFZ.out.frozen 4
    have lz := HFZ.out.lt
    go_wp2_with fail
    generalize hW5 : ((((w7.setCell ⟨w.heap.size + 1, 0, none⟩ (.int .i64 x)).setCell ⟨w.heap.size + 1, 1, none⟩ (.int .i64 y)).setCell ⟨w.heap.size + 1, 2, none⟩ (.int .i64 p)).setCell ⟨w.heap.size + 1, 3, none⟩ (.int .i64 q)).setCell ⟨w.heap.size + 1, 4, none⟩ (.slice a m k) = W5 at *
    obtain ⟨f5, bb5, oo5, _, z5⟩ := fld_store w7 (w.heap.size + 1) 0 0 0 0 _ x y p q (.slice a m k) HFZ.out W5 hW5.symm
    have hO5 := (HOZ.out.set oo5 HZB.out).base HBB.out
    have hB5 := HBZ.out.trans (bb5.mono (by omega))
    clear d0 d1 d2 d3 d4 qf0 qf1 qf2 qf3 qf4 hW5 oo5
    obtain ⟨d0, d1, d2, d3, d4⟩ := f5.cells
    exact bodyPost_ret (v := .tuple #[fldV x y p q a m k, .int .i64 C]) (by simp [results, Try.results66, go_sem, *]) rfl ⟨⟨x, y, p, q, a, m, k, rfl, hO5⟩, hB5⟩
  · have q2 : (ly == 0) = false := by simpa using hw
    clear hw hnz
    go_enter Try.func66, Try.ntmps66
    go_wp2_with fail
    generalize hW0 : (w.alloc (.cells #[.int .i64 X, .int .i64 Y, .int .i64 Wn, .int .i64 Hn, .slice (some ⟨b, o, none⟩) l.length c] 36)).alloc (.cells #[.int .i64 0, .int .i64 0, .int .i64 0, .int .i64 0, .slice none 0 0] 36) = W0 at *
    obtain ⟨E0, F0, B0, z0⟩ := two_fields w X Y Wn Hn (.slice (some ⟨b, o, none⟩) l.length c) W0 hW0.symm
    clear hW0
    refine (KI.out _ (HL.out.below B0)).mono ?_
    rintro e w1 ⟨rfl, b1⟩
    have E1 := E0.below b1 E0.lt
    have F1 := F0.below b1 F0.lt
    have HL1 := Lib.hid ((HL.out.below B0).below b1)
    have B1 := Lib.hid (B0.trans (b1.mono B0.size))
    clear b1 B0 F0 E0 z0 KI HL
    have hR := Reg.new w1 (X + 1) (Y + 1) ((Wn - 2 : Nat) : Int) ((Hn - 2 : Nat) : Int)
    have b2 : Below w1.heap.size w1 (w1.alloc (.cells #[.int .i64 (X + 1), .int .i64 (Y + 1), .int .i64 ((Wn - 2 : Nat) : Int), .int .i64 ((Hn - 2 : Nat) : Int)] 23)) := (by repeat (first | with_reducible exact Below.refl _ _ | with_reducible apply Below.drew | with_reducible refine below_drewN ?_ _ | (with_reducible refine Below.setCell ?_ ?_ _; rotate_left; focus (first | omega | (simp <;> omega))) | (with_reducible refine Below.alloc ?_ ?_ _; rotate_left; focus (first | omega | (simp <;> omega)))))
    have HE2 := Lib.hid (E1.below b2 E1.lt)
    have HF2 := Lib.hid (F1.below b2 F1.lt)
    have HL2 := Lib.hid (HL1.out.below b2)
    have HB2 := Lib.hid (B1.out.trans (b2.mono B1.out.size))
    have l0 : w.heap.size < w1.heap.size := E1.lt
    have l1 : w.heap.size + 1 < w1.heap.size := F1.lt
    have HR2 := Lib.hid hR
    clear E1 F1 HL1 B1 b2 hR
    have HS2 : Hid (w1.heap.size + 1 = (w1.alloc (.cells #[.int .i64 (X + 1), .int .i64 (Y + 1), .int .i64 ((Wn - 2 : Nat) : Int), .int .i64 ((Hn - 2 : Nat) : Int)] 23)).heap.size) := Lib.hid (by simp)
    go_wp2_with fail
    generalize w1.alloc (.cells #[.int .i64 (X + 1), .int .i64 (Y + 1), .int .i64 ((Wn - 2 : Nat) : Int), .int .i64 ((Hn - 2 : Nat) : Int)] 23) = w2 at *
    rw [HS2.out]
    obtain ⟨r0, r1, r2, r3⟩ := HR2.out.cells
    have r4 : w1.heap.size < w2.heap.size := HR2.out.lt
    have r5 : w1.heap.size < w2.heap.size + 1 := by omega
    have r6 : w1.heap.size < w2.heap.size + 1 + 1 := by omega
    have r7 : w1.heap.size < w2.heap.size + 1 + 1 + 1 := by omega
    have r8 : w1.heap.size < w2.heap.size + 1 + 1 + 1 + 1 := by omega
    have r9 : w1.heap.size < w2.heap.size + 1 + 1 + 1 + 1 + 1 := by omega
    refine (KW.out _ _ (by simp [go_sem]) (by simp [go_sem]) (by simp [go_sem])).mono ?_
    rintro e w3 ⟨rfl, rfl⟩
    go_wp2_with fail
    refine (KT.out _ (by first | rfl | simp) _).mono ?_
    rintro e w4 ⟨rfl, rfl⟩
    go_wp2_with fail
    generalize hW5 : ((((w2.alloc (.cells #[.int .i64 0, .int .i64 ly, .int .i64 lz] 3)).alloc (.cells #[.float .f32 M] 37)).alloc (.cells #[.float .f32 (cv 0)] 37)).alloc (.cells #[.float .f32 (cv ly)] 37)).alloc (.cells #[.float .f32 (cv lz)] 37) = W5 at *
    obtain ⟨m0, a0, b0, c0, B5⟩ := light_world w2 0 ly lz M (cv 0) (cv ly) (cv lz) W5 hW5.symm
    have HE5 := Lib.hid (HE2.out.below B5 HE2.out.lt)
    have HF5 := Lib.hid (HF2.out.below B5 HF2.out.lt)
    have HL5 := Lib.hid (HL2.out.below B5)
    have HB5 := Lib.hid (HB2.out.trans (B5.mono HB2.out.size))
    have HG5 : Hid (w2.heap.size ≤ W5.heap.size) := B5.size
    clear hW5 B5 r0 r1 r2 r3 r4 r5 r6 r7 r8 r9
    refine (KM.out _ _ _ _ _ _ HL5.out HE5.out a0 b0 c0 m0).mono ?_
    rintro e w6 ⟨⟨g, cap, rfl, ho⟩, b6⟩
    have HO6 := Lib.hid ho
    have HF6 := Lib.hid (HF5.out.below b6 HF5.out.lt)
    have HB6 := Lib.hid (HB5.out.trans (b6.mono HB5.out.size))
    clear ho b6 KM HE5 HL5 HE2 HL2 a0 b0 c0 m0
    go_wp2_with fail
    refine (KR.out _ _ _ _ _ _ _ _ HO6.out).mono ?_
    rintro e w7 ⟨⟨x, y, p, q, a, m, k, rfl, o7⟩, b7⟩
    have HOZ := Lib.hid o7
    have HFZ := Lib.hid (HF6.out.below b7 HF6.out.lt)
    have HBZ := Lib.hid (HB6.out.trans (b7.mono HB6.out.size))
    have HZB : Hid (w.heap.size + 1 < W5.heap.size) := HF5.out.lt
    have HBB : Hid (w.heap.size ≤ W5.heap.size) := HB5.out.size
    clear o7 b7 KR HO6 HF6 HB6 HF2 HB2 HF5 HB5 l0 l1 x1 x2 y1 y2 z1 z2 x3 x4 y3 y4 z3 z4 HG5
    obtain ⟨d0, d1, d2, d3, d4⟩ := HFZ.out.cells
    have qf0 := HFZ.out.frozen 0
    have qf1 := HFZ.out.frozen 1
    have qf2 := HFZ.out.frozen 2
    have qf3 := HFZ.out.frozen 3
    have qf4 := HFZ.out.frozen 4
    have lz := HFZ.out.lt
    go_wp2_with fail
    generalize hW5 : ((((w7.setCell ⟨w.heap.size + 1, 0, none⟩ (.int .i64 x)).setCell ⟨w.heap.size + 1, 1, none⟩ (.int .i64 y)).setCell ⟨w.heap.size + 1, 2, none⟩ (.int .i64 p)).setCell ⟨w.heap.size + 1, 3, none⟩ (.int .i64 q)).setCell ⟨w.heap.size + 1, 4, none⟩ (.slice a m k) = W5 at *
    obtain ⟨f5, bb5, oo5, _, z5⟩ := fld_store w7 (w.heap.size + 1) 0 0 0 0 _ x y p q (.slice a m k) HFZ.out W5 hW5.symm
    have hO5 := (HOZ.out.set oo5 HZB.out).base HBB.out
    have hB5 := HBZ.out.trans (bb5.mono (by omega))
    clear d0 d1 d2 d3 d4 qf0 qf1 qf2 qf3 qf4 hW5 oo5
    obtain ⟨d0, d1, d2, d3, d4⟩ := f5.cells
    exact bodyPost_ret (v := .tuple #[fldV x y p q a m k, .int .i64 C]) (by simp [results, Try.results66, go_sem, *]) rfl ⟨⟨x, y, p, q, a, m, k, rfl, hO5⟩, hB5⟩
  · have q3 : (lz == 0) = false := by simpa using hw
    clear hw hnz
    go_enter Try.func66, Try.ntmps66
    go_wp2_with fail
    generalize hW0 : (w.alloc (.cells #[.int .i64 X, .int .i64 Y, .int .i64 Wn, .int .i64 Hn, .slice (some ⟨b, o, none⟩) l.length c] 36)).alloc (.cells #[.int .i64 0, .int .i64 0, .int .i64 0, .int .i64 0, .slice none 0 0] 36) = W0 at *
    obtain ⟨E0, F0, B0, z0⟩ := two_fields w X Y Wn Hn (.slice (some ⟨b, o, none⟩) l.length c) W0 hW0.symm
    clear hW0
    refine (KI.out _ (HL.out.below B0)).mono ?_
    rintro e w1 ⟨rfl, b1⟩
    have E1 := E0.below b1 E0.lt
    have F1 := F0.below b1 F0.lt
    have HL1 := Lib.hid ((HL.out.below B0).below b1)
    have B1 := Lib.hid (B0.trans (b1.mono B0.size))
    clear b1 B0 F0 E0 z0 KI HL
    have hR := Reg.new w1 (X + 1) (Y + 1) ((Wn - 2 : Nat) : Int) ((Hn - 2 : Nat) : Int)
    have b2 : Below w1.heap.size w1 (w1.alloc (.cells #[.int .i64 (X + 1), .int .i64 (Y + 1), .int .i64 ((Wn - 2 : Nat) : Int), .int .i64 ((Hn - 2 : Nat) : Int)] 23)) := (by repeat (first | with_reducible exact Below.refl _ _ | with_reducible apply Below.drew | with_reducible refine below_drewN ?_ _ | (with_reducible refine Below.setCell ?_ ?_ _; rotate_left; focus (first | omega | (simp <;> omega))) | (with_reducible refine Below.alloc ?_ ?_ _; rotate_left; focus (first | omega | (simp <;> omega)))))
    have HE2 := Lib.hid (E1.below b2 E1.lt)
    have HF2 := Lib.hid (F1.below b2 F1.lt)
    have HL2 := Lib.hid (HL1.out.below b2)
    have HB2 := Lib.hid (B1.out.trans (b2.mono B1.out.size))
    have l0 : w.heap.size < w1.heap.size := E1.lt
    have l1 : w.heap.size + 1 < w1.heap.size := F1.lt
    have HR2 := Lib.hid hR
    clear E1 F1 HL1 B1 b2 hR
    have HS2 : Hid (w1.heap.size + 1 = (w1.alloc (.cells #[.int .i64 (X + 1), .int .i64 (Y + 1), .int .i64 ((Wn - 2 : Nat) : Int), .int .i64 ((Hn - 2 : Nat) : Int)] 23)).heap.size) := Lib.hid (by simp)
    go_wp2_with fail
    generalize w1.alloc (.cells #[.int .i64 (X + 1), .int .i64 (Y + 1), .int .i64 ((Wn - 2 : Nat) : Int), .int .i64 ((Hn - 2 : Nat) : Int)] 23) = w2 at *
    rw [HS2.out]
    obtain ⟨r0, r1, r2, r3⟩ := HR2.out.cells
    have r4 : w1.heap.size < w2.heap.size := HR2.out.lt
    have r5 : w1.heap.size < w2.heap.size + 1 := by omega
    have r6 : w1.heap.size < w2.heap.size + 1 + 1 := by omega
    have r7 : w1.heap.size < w2.heap.size + 1 + 1 + 1 := by omega
    have r8 : w1.heap.size < w2.heap.size + 1 + 1 + 1 + 1 := by omega
    have r9 : w1.heap.size < w2.heap.size + 1 + 1 + 1 + 1 + 1 := by omega
    refine (KW.out _ _ (by simp [go_sem]) (by simp [go_sem]) (by simp [go_sem])).mono ?_
    rintro e w3 ⟨rfl, rfl⟩
    go_wp2_with fail
    refine (KT.out _ (by first | rfl | simp) _).mono ?_
    rintro e w4 ⟨rfl, rfl⟩
    go_wp2_with fail
    generalize hW5 : ((((w2.alloc (.cells #[.int .i64 0, .int .i64 0, .int .i64 lz] 3)).alloc (.cells #[.float .f32 M] 37)).alloc (.cells #[.float .f32 (cv 0)] 37)).alloc (.cells #[.float .f32 (cv 0)] 37)).alloc (.cells #[.float .f32 (cv lz)] 37) = W5 at *
    obtain ⟨m0, a0, b0, c0, B5⟩ := light_world w2 0 0 lz M (cv 0) (cv 0) (cv lz) W5 hW5.symm
    have HE5 := Lib.hid (HE2.out.below B5 HE2.out.lt)
    have HF5 := Lib.hid (HF2.out.below B5 HF2.out.lt)
    have HL5 := Lib.hid (HL2.out.below B5)
    have HB5 := Lib.hid (HB2.out.trans (B5.mono HB2.out.size))
    have HG5 : Hid (w2.heap.size ≤ W5.heap.size) := B5.size
    clear hW5 B5 r0 r1 r2 r3 r4 r5 r6 r7 r8 r9
    refine (KM.out _ _ _ _ _ _ HL5.out HE5.out a0 b0 c0 m0).mono ?_
    rintro e w6 ⟨⟨g, cap, rfl, ho⟩, b6⟩
    have HO6 := Lib.hid ho
    have HF6 := Lib.hid (HF5.out.below b6 HF5.out.lt)
    have HB6 := Lib.hid (HB5.out.trans (b6.mono HB5.out.size))
    clear ho b6 KM HE5 HL5 HE2 HL2 a0 b0 c0 m0
    go_wp2_with fail
    refine (KR.out _ _ _ _ _ _ _ _ HO6.out).mono ?_
    rintro e w7 ⟨⟨x, y, p, q, a, m, k, rfl, o7⟩, b7⟩
    have HOZ := Lib.hid o7
    have HFZ := Lib.hid (HF6.out.below b7 HF6.out.lt)
    have HBZ := Lib.hid (HB6.out.trans (b7.mono HB6.out.size))
    have HZB : Hid (w.heap.size + 1 < W5.heap.size) := HF5.out.lt
    have HBB : Hid (w.heap.size ≤ W5.heap.size) := HB5.out.size
    clear o7 b7 KR HO6 HF6 HB6 HF2 HB2 HF5 HB5 l0 l1 x1 x2 y1 y2 z1 z2 x3 x4 y3 y4 z3 z4 HG5
    obtain ⟨d0, d1, d2, d3, d4⟩ := HFZ.out.cells
    have qf0 := HFZ.out.frozen 0
    have qf1 := HFZ.out.frozen 1
    have qf2 := HFZ.out.frozen 2
    have qf3 := HFZ.out.frozen 3
    have qf4 := HFZ.out.frozen 4
    have lz := HFZ.out.lt
    go_wp2_with fail
    generalize hW5 : ((((w7.setCell ⟨w.heap.size + 1, 0, none⟩ (.int .i64 x)).setCell ⟨w.heap.size + 1, 1, none⟩ (.int .i64 y)).setCell ⟨w.heap.size + 1, 2, none⟩ (.int .i64 p)).setCell ⟨w.heap.size + 1, 3, none⟩ (.int .i64 q)).setCell ⟨w.heap.size + 1, 4, none⟩ (.slice a m k) = W5 at *
    obtain ⟨f5, bb5, oo5, _, z5⟩ := fld_store w7 (w.heap.size + 1) 0 0 0 0 _ x y p q (.slice a m k) HFZ.out W5 hW5.symm
    have hO5 := (HOZ.out.set oo5 HZB.out).base HBB.out
    have hB5 := HBZ.out.trans (bb5.mono (by omega))
    clear d0 d1 d2 d3 d4 qf0 qf1 qf2 qf3 qf4 hW5 oo5
    obtain ⟨d0, d1, d2, d3, d4⟩ := f5.cells
    exact bodyPost_ret (v := .tuple #[fldV x y p q a m k, .int .i64 C]) (by simp [results, Try.results66, go_sem, *]) rfl ⟨⟨x, y, p, q, a, m, k, rfl, hO5⟩, hB5⟩
end Go.Proofs.Ytnfebeebjelgbaa
