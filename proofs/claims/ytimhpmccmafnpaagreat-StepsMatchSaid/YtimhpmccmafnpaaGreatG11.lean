import Derived.Test.YtimhpmccmafnpaaGreatG10
import Derived.Deep.RegionHeld3

namespace Go.Proofs.YtimhpmccmafnpaaGreat
open Go.ChangeShapes Go.WideShapes Go.ChangeAt Go.RowKit
open Ieee.Format (fin finE htE allFin allHt all_true all_false mulF subF addF Ht Bd divF rootF floorF easeF mixF)
set_option linter.unusedVariables false

set_option maxRecDepth 100000 in
set_option maxHeartbeats 1000000 in
theorem shade_ok (X Y : Int) (Wn Hn : Nat) (b o c : Nat) (l : List Nat) (lx ly lz : Int) (w : World) (hl : SRow w (some ⟨b, o, none⟩) l) (hr : Right X Y Wn Hn l) (h3 : 3 ≤ Wn) (h4 : 3 ≤ Hn) (h : lightE lx ly lz = 0) (φ : Nat → Nat → Nat → Nat → Nat → Nat) (hφ : φ = shadeF (cv lx) (cv ly) (cv lz) (rootF (cv (lx * lx + ly * ly + lz * lz)))) :
    Calls Tryz.prog 131 #[fldV X Y Wn Hn (some ⟨b, o, none⟩) l.length c, .int .i64 lx, .int .i64 ly, .int .i64 lz] w fun e w' => OpP (resC (innerL φ X Y Wn Hn l)) (X + 1) (Y + 1) ((Wn - 2 : Nat) : Int) ((Hn - 2 : Nat) : Int) (innerL φ X Y Wn Hn l) w e w' := by
  obtain ⟨hL, hs1, hs2, hx, hy, hz⟩ := light_ok h
  obtain ⟨bx, bY, bz, hnz⟩ := light_zero h
  have KI := Lib.hid (fun w hl => inner_ok X Y Wn Hn b o c l w hl hr h3 h4)
  have HL := Lib.hid hl
  have KW := Lib.hid (fun W g c0 c1 c2 => within3 1000 g lx ly lz W (by decide) (by decide) c0 c1 c2)
  rw [show (inB 1000 lx && inB 1000 ly && inB 1000 lz) = true from by simp [inB]; omega] at KW
  have KT : Hid (∀ n, n = lx * lx + ly * ly + lz * lz → ∀ w, Calls Tryz.prog 146 #[.float .f32 (floatOfInt .f32 n)] w fun e w' => e = .returned (.float .f32 (rootF (cv (lx * lx + ly * ly + lz * lz)))) ∧ w = w') := by
    rintro n rfl w
    exact root_any _ hs1 hs2 w
  have KM := Lib.hid (fun q pa pb pc pm w hl (hq : Fld w q X Y Wn Hn (.slice (some ⟨b, o, none⟩) l.length c)) ha hb hc hm => make_inner 167 #[.pointer (some ⟨q, 0, none⟩), .pointer (some ⟨pa, 0, none⟩), .pointer (some ⟨pb, 0, none⟩), .pointer (some ⟨pc, 0, none⟩), .pointer (some ⟨pm, 0, none⟩)] φ X Y Wn Hn l w hr h3 h4 (enters_of Tryz.func167 (by kernel_rfl) rfl) (fun k => by rw [hφ]; exact shadeF_lt _ _ _ _ _ _ _ _ _)
    (fun x y k hk W' hb' => by rw [hφ]; exact shadefn_any (cv lx) (cv ly) (cv lz) (rootF (cv (lx * lx + ly * ly + lz * lz))) X Y Wn Hn x y b o c k q pa pb pc pm l W' (SRow.below hl hb') hr hk hL (hq.below hb' hq.lt) (Blk.below ha hb' ha.lt) (Blk.below hb hb' hb.lt) (Blk.below hc hb' hc.lt) (Blk.below hm hb' hm.lt)))
  have KR := Lib.hid (fun X1 Y1 W1 H1 g cap B w ho => result_any X1 Y1 W1 H1 g cap B (innerL φ X Y Wn Hn l) w ho (innerL_small φ hr))
  clear hl hr h3 h4 hL hs1 hs2 h hφ
  generalize innerL φ X Y Wn Hn l = S at *
  generalize resC S = C at *
  generalize hM : rootF (cv (lx * lx + ly * ly + lz * lz)) = M at *
  clear hM
  obtain ⟨x1, x2⟩ := hx
  obtain ⟨y1, y2⟩ := hy
  obtain ⟨z1, z2⟩ := hz
  obtain ⟨x3, x4⟩ := bx
  obtain ⟨y3, y4⟩ := bY
  obtain ⟨z3, z4⟩ := bz
  have hw : lx ≠ 0 ∨ (lx = 0 ∧ ly ≠ 0) ∨ (lx = 0 ∧ ly = 0 ∧ lz ≠ 0) := by omega
  rcases hw with hw | ⟨rfl, hw⟩ | ⟨rfl, rfl, hw⟩
  · have q1 : (lx == 0) = false := by simpa using hw
    clear hw hnz
    go_enter Tryz.func131, Tryz.ntmps131
    go_wp2_with fail
    generalize hW0 : (w.alloc (.cells #[.int .i64 X, .int .i64 Y, .int .i64 Wn, .int .i64 Hn, .slice (some ⟨b, o, none⟩) l.length c] 78)).alloc (.cells #[.int .i64 0, .int .i64 0, .int .i64 0, .int .i64 0, .slice none 0 0] 78) = W0 at *
    obtain ⟨E0, F0, B0, z0⟩ := two_fields w X Y Wn Hn (.slice (some ⟨b, o, none⟩) l.length c) W0 hW0.symm
    clear hW0
    refine (KI.out _ (HL.out.below B0)).mono ?_
    rintro e w1 ⟨rfl, b1⟩
    have E1 := E0.below b1 E0.lt
    have F1 := F0.below b1 F0.lt
    have HL1 := Lib.hid ((HL.out.below B0).below b1)
    have B1 := Lib.hid (B0.trans (b1.mono B0.size))
    clear b1 B0 F0 E0 z0 KI HL
    have hR := Reg.new w1 (X + 1) (Y + 1) ((Wn - 2 : Nat) : Int) ((Hn - 2 : Nat) : Int)
    have b2 : Below w1.heap.size w1 (w1.alloc (.cells #[.int .i64 (X + 1), .int .i64 (Y + 1), .int .i64 ((Wn - 2 : Nat) : Int), .int .i64 ((Hn - 2 : Nat) : Int)] 33)) := (by repeat (first | with_reducible exact Below.refl _ _ | with_reducible apply Below.drew | with_reducible refine below_drewN ?_ _ | (with_reducible refine Below.setCell ?_ ?_ _; rotate_left; focus (first | omega | (simp <;> omega))) | (with_reducible refine Below.alloc ?_ ?_ _; rotate_left; focus (first | omega | (simp <;> omega)))))
    have HE2 := Lib.hid (E1.below b2 E1.lt)
    have HF2 := Lib.hid (F1.below b2 F1.lt)
    have HL2 := Lib.hid (HL1.out.below b2)
    have HB2 := Lib.hid (B1.out.trans (b2.mono B1.out.size))
    have l0 : w.heap.size < w1.heap.size := E1.lt
    have l1 : w.heap.size + 1 < w1.heap.size := F1.lt
    have HR2 := Lib.hid hR
    clear E1 F1 HL1 B1 b2 hR
    have HS2 : Hid (w1.heap.size + 1 = (w1.alloc (.cells #[.int .i64 (X + 1), .int .i64 (Y + 1), .int .i64 ((Wn - 2 : Nat) : Int), .int .i64 ((Hn - 2 : Nat) : Int)] 33)).heap.size) := Lib.hid (by simp)
    go_wp2_with fail
    generalize w1.alloc (.cells #[.int .i64 (X + 1), .int .i64 (Y + 1), .int .i64 ((Wn - 2 : Nat) : Int), .int .i64 ((Hn - 2 : Nat) : Int)] 33) = w2 at *
    rw [HS2.out]
    obtain ⟨r0, r1, r2, r3⟩ := HR2.out.cells
    have r4 : w1.heap.size < w2.heap.size := HR2.out.lt
    have r5 : w1.heap.size < w2.heap.size + 1 := by omega
    have r6 : w1.heap.size < w2.heap.size + 1 + 1 := by omega
    have r7 : w1.heap.size < w2.heap.size + 1 + 1 + 1 := by omega
    have r8 : w1.heap.size < w2.heap.size + 1 + 1 + 1 + 1 := by omega
    have r9 : w1.heap.size < w2.heap.size + 1 + 1 + 1 + 1 + 1 := by omega
    refine (KW.out _ _ (by simp [go_sem]) (by simp [go_sem]) (by simp [go_sem])).mono ?_
    rintro e w3 ⟨rfl, rfl⟩
    go_wp2_with fail
    refine (KT.out _ (by first | rfl | simp) _).mono ?_
    rintro e w4 ⟨rfl, rfl⟩
    go_wp2_with fail
    generalize hW5 : ((((w2.alloc (.cells #[.int .i64 lx, .int .i64 ly, .int .i64 lz] 3)).alloc (.cells #[.float .f32 M] 46)).alloc (.cells #[.float .f32 (cv lx)] 46)).alloc (.cells #[.float .f32 (cv ly)] 46)).alloc (.cells #[.float .f32 (cv lz)] 46) = W5 at *
    obtain ⟨m0, a0, b0, c0, B5⟩ := light_world w2 lx ly lz M (cv lx) (cv ly) (cv lz) W5 hW5.symm
    have HE5 := Lib.hid (HE2.out.below B5 HE2.out.lt)
    have HF5 := Lib.hid (HF2.out.below B5 HF2.out.lt)
    have HL5 := Lib.hid (HL2.out.below B5)
    have HB5 := Lib.hid (HB2.out.trans (B5.mono HB2.out.size))
    have HG5 : Hid (w2.heap.size ≤ W5.heap.size) := B5.size
    clear hW5 B5 r0 r1 r2 r3 r4 r5 r6 r7 r8 r9
    refine (KM.out _ _ _ _ _ _ HL5.out HE5.out a0 b0 c0 m0).mono ?_
    rintro e w6 ⟨⟨g, cap, rfl, ho⟩, b6⟩
    have HO6 := Lib.hid ho
    have HF6 := Lib.hid (HF5.out.below b6 HF5.out.lt)
    have HB6 := Lib.hid (HB5.out.trans (b6.mono HB5.out.size))
    clear ho b6 KM HE5 HL5 HE2 HL2 a0 b0 c0 m0
    go_wp2_with fail
    refine (KR.out _ _ _ _ _ _ _ _ HO6.out).mono ?_
    rintro e w7 ⟨⟨x, y, p, q, a, m, k, rfl, o7⟩, b7⟩
    have HOZ := Lib.hid o7
    have HFZ := Lib.hid (HF6.out.below b7 HF6.out.lt)
    have HBZ := Lib.hid (HB6.out.trans (b7.mono HB6.out.size))
    have HZB : Hid (w.heap.size + 1 < W5.heap.size) := HF5.out.lt
    have HBB : Hid (w.heap.size ≤ W5.heap.size) := HB5.out.size
    clear o7 b7 KR HO6 HF6 HB6 HF2 HB2 HF5 HB5 l0 l1 x1 x2 y1 y2 z1 z2 x3 x4 y3 y4 z3 z4 HG5
    obtain ⟨d0, d1, d2, d3, d4⟩ := HFZ.out.cells
    have qf0 := HFZ.out.frozen 0
    have qf1 := HFZ.out.frozen 1
    have qf2 := HFZ.out.frozen 2
    have qf3 := HFZ.out.frozen 3
    have qf4 := HFZ.out.frozen 4
    have lz := HFZ.out.lt
    go_wp2_with fail
    generalize hW5 : ((((w7.setCell ⟨w.heap.size + 1, 0, none⟩ (.int .i64 x)).setCell ⟨w.heap.size + 1, 1, none⟩ (.int .i64 y)).setCell ⟨w.heap.size + 1, 2, none⟩ (.int .i64 p)).setCell ⟨w.heap.size + 1, 3, none⟩ (.int .i64 q)).setCell ⟨w.heap.size + 1, 4, none⟩ (.slice a m k) = W5 at *
    obtain ⟨f5, bb5, oo5, _, z5⟩ := fld_store w7 (w.heap.size + 1) 0 0 0 0 _ x y p q (.slice a m k) HFZ.out W5 hW5.symm
    have hO5 := (HOZ.out.set oo5 HZB.out).base HBB.out
    have hB5 := HBZ.out.trans (bb5.mono (by omega))
    clear d0 d1 d2 d3 d4 qf0 qf1 qf2 qf3 qf4 hW5 oo5
    obtain ⟨d0, d1, d2, d3, d4⟩ := f5.cells
    exact bodyPost_ret (v := .tuple #[fldV x y p q a m k, .int .i64 C]) (by simp [results, Tryz.results131, go_sem, *]) rfl ⟨⟨x, y, p, q, a, m, k, rfl, hO5⟩, hB5⟩
  · have q2 : (ly == 0) = false := by simpa using hw
    clear hw hnz
    go_enter Tryz.func131, Tryz.ntmps131
    go_wp2_with fail
    generalize hW0 : (w.alloc (.cells #[.int .i64 X, .int .i64 Y, .int .i64 Wn, .int .i64 Hn, .slice (some ⟨b, o, none⟩) l.length c] 78)).alloc (.cells #[.int .i64 0, .int .i64 0, .int .i64 0, .int .i64 0, .slice none 0 0] 78) = W0 at *
    obtain ⟨E0, F0, B0, z0⟩ := two_fields w X Y Wn Hn (.slice (some ⟨b, o, none⟩) l.length c) W0 hW0.symm
    clear hW0
    refine (KI.out _ (HL.out.below B0)).mono ?_
    rintro e w1 ⟨rfl, b1⟩
    have E1 := E0.below b1 E0.lt
    have F1 := F0.below b1 F0.lt
    have HL1 := Lib.hid ((HL.out.below B0).below b1)
    have B1 := Lib.hid (B0.trans (b1.mono B0.size))
    clear b1 B0 F0 E0 z0 KI HL
    have hR := Reg.new w1 (X + 1) (Y + 1) ((Wn - 2 : Nat) : Int) ((Hn - 2 : Nat) : Int)
    have b2 : Below w1.heap.size w1 (w1.alloc (.cells #[.int .i64 (X + 1), .int .i64 (Y + 1), .int .i64 ((Wn - 2 : Nat) : Int), .int .i64 ((Hn - 2 : Nat) : Int)] 33)) := (by repeat (first | with_reducible exact Below.refl _ _ | with_reducible apply Below.drew | with_reducible refine below_drewN ?_ _ | (with_reducible refine Below.setCell ?_ ?_ _; rotate_left; focus (first | omega | (simp <;> omega))) | (with_reducible refine Below.alloc ?_ ?_ _; rotate_left; focus (first | omega | (simp <;> omega)))))
    have HE2 := Lib.hid (E1.below b2 E1.lt)
    have HF2 := Lib.hid (F1.below b2 F1.lt)
    have HL2 := Lib.hid (HL1.out.below b2)
    have HB2 := Lib.hid (B1.out.trans (b2.mono B1.out.size))
    have l0 : w.heap.size < w1.heap.size := E1.lt
    have l1 : w.heap.size + 1 < w1.heap.size := F1.lt
    have HR2 := Lib.hid hR
    clear E1 F1 HL1 B1 b2 hR
    have HS2 : Hid (w1.heap.size + 1 = (w1.alloc (.cells #[.int .i64 (X + 1), .int .i64 (Y + 1), .int .i64 ((Wn - 2 : Nat) : Int), .int .i64 ((Hn - 2 : Nat) : Int)] 33)).heap.size) := Lib.hid (by simp)
    go_wp2_with fail
    generalize w1.alloc (.cells #[.int .i64 (X + 1), .int .i64 (Y + 1), .int .i64 ((Wn - 2 : Nat) : Int), .int .i64 ((Hn - 2 : Nat) : Int)] 33) = w2 at *
    rw [HS2.out]
    obtain ⟨r0, r1, r2, r3⟩ := HR2.out.cells
    have r4 : w1.heap.size < w2.heap.size := HR2.out.lt
    have r5 : w1.heap.size < w2.heap.size + 1 := by omega
    have r6 : w1.heap.size < w2.heap.size + 1 + 1 := by omega
    have r7 : w1.heap.size < w2.heap.size + 1 + 1 + 1 := by omega
    have r8 : w1.heap.size < w2.heap.size + 1 + 1 + 1 + 1 := by omega
    have r9 : w1.heap.size < w2.heap.size + 1 + 1 + 1 + 1 + 1 := by omega
    refine (KW.out _ _ (by simp [go_sem]) (by simp [go_sem]) (by simp [go_sem])).mono ?_
    rintro e w3 ⟨rfl, rfl⟩
    go_wp2_with fail
    refine (KT.out _ (by first | rfl | simp) _).mono ?_
    rintro e w4 ⟨rfl, rfl⟩
    go_wp2_with fail
    generalize hW5 : ((((w2.alloc (.cells #[.int .i64 0, .int .i64 ly, .int .i64 lz] 3)).alloc (.cells #[.float .f32 M] 46)).alloc (.cells #[.float .f32 (cv 0)] 46)).alloc (.cells #[.float .f32 (cv ly)] 46)).alloc (.cells #[.float .f32 (cv lz)] 46) = W5 at *
    obtain ⟨m0, a0, b0, c0, B5⟩ := light_world w2 0 ly lz M (cv 0) (cv ly) (cv lz) W5 hW5.symm
    have HE5 := Lib.hid (HE2.out.below B5 HE2.out.lt)
    have HF5 := Lib.hid (HF2.out.below B5 HF2.out.lt)
    have HL5 := Lib.hid (HL2.out.below B5)
    have HB5 := Lib.hid (HB2.out.trans (B5.mono HB2.out.size))
    have HG5 : Hid (w2.heap.size ≤ W5.heap.size) := B5.size
    clear hW5 B5 r0 r1 r2 r3 r4 r5 r6 r7 r8 r9
    refine (KM.out _ _ _ _ _ _ HL5.out HE5.out a0 b0 c0 m0).mono ?_
    rintro e w6 ⟨⟨g, cap, rfl, ho⟩, b6⟩
    have HO6 := Lib.hid ho
    have HF6 := Lib.hid (HF5.out.below b6 HF5.out.lt)
    have HB6 := Lib.hid (HB5.out.trans (b6.mono HB5.out.size))
    clear ho b6 KM HE5 HL5 HE2 HL2 a0 b0 c0 m0
    go_wp2_with fail
    refine (KR.out _ _ _ _ _ _ _ _ HO6.out).mono ?_
    rintro e w7 ⟨⟨x, y, p, q, a, m, k, rfl, o7⟩, b7⟩
    have HOZ := Lib.hid o7
    have HFZ := Lib.hid (HF6.out.below b7 HF6.out.lt)
    have HBZ := Lib.hid (HB6.out.trans (b7.mono HB6.out.size))
    have HZB : Hid (w.heap.size + 1 < W5.heap.size) := HF5.out.lt
    have HBB : Hid (w.heap.size ≤ W5.heap.size) := HB5.out.size
    clear o7 b7 KR HO6 HF6 HB6 HF2 HB2 HF5 HB5 l0 l1 x1 x2 y1 y2 z1 z2 x3 x4 y3 y4 z3 z4 HG5
    obtain ⟨d0, d1, d2, d3, d4⟩ := HFZ.out.cells
    have qf0 := HFZ.out.frozen 0
    have qf1 := HFZ.out.frozen 1
    have qf2 := HFZ.out.frozen 2
    have qf3 := HFZ.out.frozen 3
    have qf4 := HFZ.out.frozen 4
    have lz := HFZ.out.lt
    go_wp2_with fail
    generalize hW5 : ((((w7.setCell ⟨w.heap.size + 1, 0, none⟩ (.int .i64 x)).setCell ⟨w.heap.size + 1, 1, none⟩ (.int .i64 y)).setCell ⟨w.heap.size + 1, 2, none⟩ (.int .i64 p)).setCell ⟨w.heap.size + 1, 3, none⟩ (.int .i64 q)).setCell ⟨w.heap.size + 1, 4, none⟩ (.slice a m k) = W5 at *
    obtain ⟨f5, bb5, oo5, _, z5⟩ := fld_store w7 (w.heap.size + 1) 0 0 0 0 _ x y p q (.slice a m k) HFZ.out W5 hW5.symm
    have hO5 := (HOZ.out.set oo5 HZB.out).base HBB.out
    have hB5 := HBZ.out.trans (bb5.mono (by omega))
    clear d0 d1 d2 d3 d4 qf0 qf1 qf2 qf3 qf4 hW5 oo5
    obtain ⟨d0, d1, d2, d3, d4⟩ := f5.cells
    exact bodyPost_ret (v := .tuple #[fldV x y p q a m k, .int .i64 C]) (by simp [results, Tryz.results131, go_sem, *]) rfl ⟨⟨x, y, p, q, a, m, k, rfl, hO5⟩, hB5⟩
  · have q3 : (lz == 0) = false := by simpa using hw
    clear hw hnz
    go_enter Tryz.func131, Tryz.ntmps131
    go_wp2_with fail
    generalize hW0 : (w.alloc (.cells #[.int .i64 X, .int .i64 Y, .int .i64 Wn, .int .i64 Hn, .slice (some ⟨b, o, none⟩) l.length c] 78)).alloc (.cells #[.int .i64 0, .int .i64 0, .int .i64 0, .int .i64 0, .slice none 0 0] 78) = W0 at *
    obtain ⟨E0, F0, B0, z0⟩ := two_fields w X Y Wn Hn (.slice (some ⟨b, o, none⟩) l.length c) W0 hW0.symm
    clear hW0
    refine (KI.out _ (HL.out.below B0)).mono ?_
    rintro e w1 ⟨rfl, b1⟩
    have E1 := E0.below b1 E0.lt
    have F1 := F0.below b1 F0.lt
    have HL1 := Lib.hid ((HL.out.below B0).below b1)
    have B1 := Lib.hid (B0.trans (b1.mono B0.size))
    clear b1 B0 F0 E0 z0 KI HL
    have hR := Reg.new w1 (X + 1) (Y + 1) ((Wn - 2 : Nat) : Int) ((Hn - 2 : Nat) : Int)
    have b2 : Below w1.heap.size w1 (w1.alloc (.cells #[.int .i64 (X + 1), .int .i64 (Y + 1), .int .i64 ((Wn - 2 : Nat) : Int), .int .i64 ((Hn - 2 : Nat) : Int)] 33)) := (by repeat (first | with_reducible exact Below.refl _ _ | with_reducible apply Below.drew | with_reducible refine below_drewN ?_ _ | (with_reducible refine Below.setCell ?_ ?_ _; rotate_left; focus (first | omega | (simp <;> omega))) | (with_reducible refine Below.alloc ?_ ?_ _; rotate_left; focus (first | omega | (simp <;> omega)))))
    have HE2 := Lib.hid (E1.below b2 E1.lt)
    have HF2 := Lib.hid (F1.below b2 F1.lt)
    have HL2 := Lib.hid (HL1.out.below b2)
    have HB2 := Lib.hid (B1.out.trans (b2.mono B1.out.size))
    have l0 : w.heap.size < w1.heap.size := E1.lt
    have l1 : w.heap.size + 1 < w1.heap.size := F1.lt
    have HR2 := Lib.hid hR
    clear E1 F1 HL1 B1 b2 hR
    have HS2 : Hid (w1.heap.size + 1 = (w1.alloc (.cells #[.int .i64 (X + 1), .int .i64 (Y + 1), .int .i64 ((Wn - 2 : Nat) : Int), .int .i64 ((Hn - 2 : Nat) : Int)] 33)).heap.size) := Lib.hid (by simp)
    go_wp2_with fail
    generalize w1.alloc (.cells #[.int .i64 (X + 1), .int .i64 (Y + 1), .int .i64 ((Wn - 2 : Nat) : Int), .int .i64 ((Hn - 2 : Nat) : Int)] 33) = w2 at *
    rw [HS2.out]
    obtain ⟨r0, r1, r2, r3⟩ := HR2.out.cells
    have r4 : w1.heap.size < w2.heap.size := HR2.out.lt
    have r5 : w1.heap.size < w2.heap.size + 1 := by omega
    have r6 : w1.heap.size < w2.heap.size + 1 + 1 := by omega
    have r7 : w1.heap.size < w2.heap.size + 1 + 1 + 1 := by omega
    have r8 : w1.heap.size < w2.heap.size + 1 + 1 + 1 + 1 := by omega
    have r9 : w1.heap.size < w2.heap.size + 1 + 1 + 1 + 1 + 1 := by omega
    refine (KW.out _ _ (by simp [go_sem]) (by simp [go_sem]) (by simp [go_sem])).mono ?_
    rintro e w3 ⟨rfl, rfl⟩
    go_wp2_with fail
    refine (KT.out _ (by first | rfl | simp) _).mono ?_
    rintro e w4 ⟨rfl, rfl⟩
    go_wp2_with fail
    generalize hW5 : ((((w2.alloc (.cells #[.int .i64 0, .int .i64 0, .int .i64 lz] 3)).alloc (.cells #[.float .f32 M] 46)).alloc (.cells #[.float .f32 (cv 0)] 46)).alloc (.cells #[.float .f32 (cv 0)] 46)).alloc (.cells #[.float .f32 (cv lz)] 46) = W5 at *
    obtain ⟨m0, a0, b0, c0, B5⟩ := light_world w2 0 0 lz M (cv 0) (cv 0) (cv lz) W5 hW5.symm
    have HE5 := Lib.hid (HE2.out.below B5 HE2.out.lt)
    have HF5 := Lib.hid (HF2.out.below B5 HF2.out.lt)
    have HL5 := Lib.hid (HL2.out.below B5)
    have HB5 := Lib.hid (HB2.out.trans (B5.mono HB2.out.size))
    have HG5 : Hid (w2.heap.size ≤ W5.heap.size) := B5.size
    clear hW5 B5 r0 r1 r2 r3 r4 r5 r6 r7 r8 r9
    refine (KM.out _ _ _ _ _ _ HL5.out HE5.out a0 b0 c0 m0).mono ?_
    rintro e w6 ⟨⟨g, cap, rfl, ho⟩, b6⟩
    have HO6 := Lib.hid ho
    have HF6 := Lib.hid (HF5.out.below b6 HF5.out.lt)
    have HB6 := Lib.hid (HB5.out.trans (b6.mono HB5.out.size))
    clear ho b6 KM HE5 HL5 HE2 HL2 a0 b0 c0 m0
    go_wp2_with fail
    refine (KR.out _ _ _ _ _ _ _ _ HO6.out).mono ?_
    rintro e w7 ⟨⟨x, y, p, q, a, m, k, rfl, o7⟩, b7⟩
    have HOZ := Lib.hid o7
    have HFZ := Lib.hid (HF6.out.below b7 HF6.out.lt)
    have HBZ := Lib.hid (HB6.out.trans (b7.mono HB6.out.size))
    have HZB : Hid (w.heap.size + 1 < W5.heap.size) := HF5.out.lt
    have HBB : Hid (w.heap.size ≤ W5.heap.size) := HB5.out.size
    clear o7 b7 KR HO6 HF6 HB6 HF2 HB2 HF5 HB5 l0 l1 x1 x2 y1 y2 z1 z2 x3 x4 y3 y4 z3 z4 HG5
    obtain ⟨d0, d1, d2, d3, d4⟩ := HFZ.out.cells
    have qf0 := HFZ.out.frozen 0
    have qf1 := HFZ.out.frozen 1
    have qf2 := HFZ.out.frozen 2
    have qf3 := HFZ.out.frozen 3
    have qf4 := HFZ.out.frozen 4
    have lz := HFZ.out.lt
    go_wp2_with fail
    generalize hW5 : ((((w7.setCell ⟨w.heap.size + 1, 0, none⟩ (.int .i64 x)).setCell ⟨w.heap.size + 1, 1, none⟩ (.int .i64 y)).setCell ⟨w.heap.size + 1, 2, none⟩ (.int .i64 p)).setCell ⟨w.heap.size + 1, 3, none⟩ (.int .i64 q)).setCell ⟨w.heap.size + 1, 4, none⟩ (.slice a m k) = W5 at *
    obtain ⟨f5, bb5, oo5, _, z5⟩ := fld_store w7 (w.heap.size + 1) 0 0 0 0 _ x y p q (.slice a m k) HFZ.out W5 hW5.symm
    have hO5 := (HOZ.out.set oo5 HZB.out).base HBB.out
    have hB5 := HBZ.out.trans (bb5.mono (by omega))
    clear d0 d1 d2 d3 d4 qf0 qf1 qf2 qf3 qf4 hW5 oo5
    obtain ⟨d0, d1, d2, d3, d4⟩ := f5.cells
    exact bodyPost_ret (v := .tuple #[fldV x y p q a m k, .int .i64 C]) (by simp [results, Tryz.results131, go_sem, *]) rfl ⟨⟨x, y, p, q, a, m, k, rfl, hO5⟩, hB5⟩
end Go.Proofs.YtimhpmccmafnpaaGreat



namespace Go.Proofs.YtimhpmccmafnpaaGreat
open Go.ChangeShapes Go.WideShapes Go.ChangeAt Go.RowKit
open Ieee.Format (fin finE htE allFin allHt all_true all_false mulF subF addF Ht Bd divF rootF floorF easeF mixF)
set_option linter.unusedVariables false

theorem row_three_at (W : World) (g x y z : Nat) (hx : x < 4294967296) (hy : y < 4294967296) (hz : z < 4294967296) (h0 : W.cell? ⟨g, 0, none⟩ = some (.float .f32 x)) (h1 : W.cell? ⟨g, 1, none⟩ = some (.float .f32 y)) (h2 : W.cell? ⟨g, 2, none⟩ = some (.float .f32 z)) : SRow W (some ⟨g, 0, none⟩) [x, y, z] := by
  refine ⟨⟨by simp, by simp; exact ⟨hx, hy, hz⟩⟩, .inr ⟨g, 0, rfl, ?_⟩⟩
  intro i hi
  match i, hi with
  | 0, _ => exact h0
  | 1, _ => exact h1
  | 2, _ => exact h2
theorem heights_three (W : World) (g x y z : Nat) (hx : x < 4294967296) (hy : y < 4294967296) (hz : z < 4294967296) (h0 : W.cell? ⟨g, 0, none⟩ = some (.float .f32 x)) (h1 : W.cell? ⟨g, 1, none⟩ = some (.float .f32 y)) (h2 : W.cell? ⟨g, 2, none⟩ = some (.float .f32 z)) :
    Calls Tryz.prog 16 #[.slice (some ⟨g, 0, none⟩) 3 3] W fun e w' => e = .returned (.int .i64 (htE [x, y, z])) ∧ W = w' := heights_any (some ⟨g, 0, none⟩) 3 [x, y, z] W (row_three_at W g x y z hx hy hz h0 h1 h2)
theorem refheight_three (W : World) (g x y z : Nat) (hx : x < 4294967296) (hy : y < 4294967296) (hz : z < 4294967296) (h0 : W.cell? ⟨g, 0, none⟩ = some (.float .f32 x)) (h1 : W.cell? ⟨g, 1, none⟩ = some (.float .f32 y)) (h2 : W.cell? ⟨g, 2, none⟩ = some (.float .f32 z)) :
    Calls Tryz.prog 49 #[.slice (some ⟨g, 0, none⟩) 3 3] W fun e w' => e = .returned (.int .i64 (htE [x, y, z])) ∧ W = w' := refheight_any (some ⟨g, 0, none⟩) 3 [x, y, z] W (row_three_at W g x y z hx hy hz h0 h1 h2)

theorem box_f3c (w : World) (X Y W H : Int) (v : Value) (c1 c2 c3 : Array Value) (t : TypeId) : ∀ W0, W0 = ((((w.alloc (.cells #[.int .i64 X, .int .i64 Y, .int .i64 W, .int .i64 H, v] 78)).alloc (.cells c1 t)).alloc (.cells c2 t)).alloc (.cells c3 t)).alloc (.cells #[.int .i64 0, .int .i64 0, .int .i64 0, .int .i64 0, .slice none 0 0] 78) →
    Fld W0 w.heap.size X Y W H v ∧ Blk W0 (w.heap.size + 1) c1 t ∧ Blk W0 (w.heap.size + 1 + 1) c2 t ∧ Blk W0 (w.heap.size + 1 + 1 + 1) c3 t ∧ Fld W0 (w.heap.size + 1 + 1 + 1 + 1) 0 0 0 0 (.slice none 0 0) ∧ Below w.heap.size w W0 := by
  rintro _ rfl
  refine ⟨((((Fld.new w X Y W H v).alloc _).alloc _).alloc _).alloc _, ?_, ?_, ?_, ?_, (by repeat (first | with_reducible exact Below.refl _ _ | with_reducible apply Below.drew | with_reducible refine below_drewN ?_ _ | (with_reducible refine Below.setCell ?_ ?_ _; rotate_left; focus (first | omega | (simp <;> omega))) | (with_reducible refine Below.alloc ?_ ?_ _; rotate_left; focus (first | omega | (simp <;> omega)))))⟩
  · have := (((Blk.new (w.alloc (.cells #[.int .i64 X, .int .i64 Y, .int .i64 W, .int .i64 H, v] 78)) c1 t).alloc (.cells c2 t)).alloc (.cells c3 t)).alloc (.cells #[.int .i64 0, .int .i64 0, .int .i64 0, .int .i64 0, .slice none 0 0] 78)
    simpa using this
  · have := ((Blk.new ((w.alloc (.cells #[.int .i64 X, .int .i64 Y, .int .i64 W, .int .i64 H, v] 78)).alloc (.cells c1 t)) c2 t).alloc (.cells c3 t)).alloc (.cells #[.int .i64 0, .int .i64 0, .int .i64 0, .int .i64 0, .slice none 0 0] 78)
    simpa using this
  · have := (Blk.new (((w.alloc (.cells #[.int .i64 X, .int .i64 Y, .int .i64 W, .int .i64 H, v] 78)).alloc (.cells c1 t)).alloc (.cells c2 t)) c3 t).alloc (.cells #[.int .i64 0, .int .i64 0, .int .i64 0, .int .i64 0, .slice none 0 0] 78)
    simpa using this
  · have := Fld.new ((((w.alloc (.cells #[.int .i64 X, .int .i64 Y, .int .i64 W, .int .i64 H, v] 78)).alloc (.cells c1 t)).alloc (.cells c2 t)).alloc (.cells c3 t)) 0 0 0 0 (.slice none 0 0)
    simpa using this

/-- the field's values, each given to a function: by a function that counts -/
theorem make_map (gn : Nat) (caps : Array Value) (p : Nat) (φ : Nat → Nat) (X Y : Int) (Wn Hn : Nat) (l : List Nat) (w : World) (hr : Right X Y Wn Hn l)
    (eg : ∀ args w, (callFunc gn args).run Tryz.prog w = .ok (.enter gn args) w) (hp : CntAt w p (-1)) (hφ : ∀ v, φ v < 4294967296)
    (hf : ∀ x y (k : Nat), k < l.length → ∀ W', But w.heap.size (fun k => k = p) w W' → CntAt W' p ((k : Int) - 1) → Calls Tryz.prog gn (#[.int .i64 x, .int .i64 y] ++ caps) W' fun e w' => e = .returned (.float .f32 (φ (l.getD k 0))) ∧ But W'.heap.size (fun k => k = p) W' w' ∧ CntAt w' p (k : Int)) :
    Calls Tryz.prog 69 #[reg X Y Wn Hn, .func (.func gn) #[] caps] w fun e w' => MakeCP p X Y Wn Hn (l.map φ) w e w' := by
  have g1 := hr.w1; have g2 := hr.w2; have g3 := hr.h1; have g4 := hr.h2; have g5 := hr.x1; have g6 := hr.x2; have g7 := hr.y1; have g8 := hr.y2
  have := make_cnt gn caps p (fun x y => φ (l.getD (cellNo X Y Wn x y).toNat 0)) X Y Wn Hn w (by omega) (by omega) (by omega) (by omega) (by omega) (by omega) (by omega) (by omega) eg hp (fun x y => hφ _) ?_
  · rw [madeL_map φ X Y Wn Hn l (by omega) hr.len] at this
    exact this
  · intro i j k hi hj hk W' hb hc
    rw [cell_ij hk]
    exact hf _ _ k (by rw [hr.len]; exact cell_lt hi hj hk) W' hb hc

def selC (lo hi soft : Nat) : Int := if htE [lo, hi, soft] ≠ 0 then htE [lo, hi, soft] else if gtr lo hi = true then 8 else if lss soft 0 = true then 3 else 0

set_option maxRecDepth 100000 in
theorem select_bad (X Y : Int) (Wn Hn : Nat) (b o c : Nat) (l : List Nat) (lo hi soft : Nat) (w : World) (hl : SRow w (some ⟨b, o, none⟩) l) (hr : Right X Y Wn Hn l) (h1 : lo < 4294967296) (h2 : hi < 4294967296) (h3 : soft < 4294967296) (h : selC lo hi soft ≠ 0) :
    Calls Tryz.prog 76 #[fldV X Y Wn Hn (some ⟨b, o, none⟩) l.length c, .float .f32 lo, .float .f32 hi, .float .f32 soft] w fun e w' => e = .returned (.tuple #[fldV 0 0 0 0 none 0 0, .int .i64 (selC lo hi soft)]) ∧ Below w.heap.size w w' := by
  have K := Lib.hid (fun w h => check_field X Y Wn Hn (some ⟨b, o, none⟩) c l w h)
  rw [hr.chk] at K
  have HL := Lib.hid hl
  have KH := Lib.hid (fun W g c0 c1 c2 => heights_three W g lo hi soft h1 h2 h3 c0 c1 c2)
  clear hl hr h1 h2 h3
  unfold selC at *
  generalize htE [lo, hi, soft] = a at *
  by_cases ha : a = 0
  · rw [ha] at KH
    rw [if_neg (by omega)] at h ⊢
    clear ha
    cases hg : gtr lo hi with
    | true =>
      rw [if_pos rfl]
      change (FloatKind.f32.format.order lo hi == some .gt) = true at hg
      clear h
      go_enter Tryz.func76, Tryz.ntmps76
      go_wp2_with fail
      generalize hW0 : ((((w.alloc (.cells #[.int .i64 X, .int .i64 Y, .int .i64 Wn, .int .i64 Hn, .slice (some ⟨b, o, none⟩) l.length c] 78)).alloc (.cells #[.float .f32 lo] 46)).alloc (.cells #[.float .f32 hi] 46)).alloc (.cells #[.float .f32 soft] 46)).alloc (.cells #[.int .i64 0, .int .i64 0, .int .i64 0, .int .i64 0, .slice none 0 0] 78) = W0 at *
      obtain ⟨E0, P0, Q0, R0, F0, B0⟩ := box_f3c w X Y Wn Hn (.slice (some ⟨b, o, none⟩) l.length c) #[.float .f32 lo] #[.float .f32 hi] #[.float .f32 soft] 46 W0 hW0.symm
      clear hW0
      refine (K.out _ (HL.out.below B0)).mono ?_
      rintro e w1 ⟨rfl, b1⟩
      have HE1 := Lib.hid (E0.below b1 E0.lt)
      have HP1 := Lib.hid (P0.below b1 P0.lt)
      have HQ1 := Lib.hid (Q0.below b1 Q0.lt)
      have HC1 := Lib.hid (R0.below b1 R0.lt)
      have HF1 := Lib.hid (F0.below b1 F0.lt)
      have HL1 := Lib.hid ((HL.out.below B0).below b1)
      have HB1 := Lib.hid (B0.trans (b1.mono B0.size))
      clear b1 B0 F0 E0 P0 Q0 R0 K HL
      have p0 : w1.cell? ⟨w.heap.size + 1, 0, none⟩ = some (.float .f32 lo) := HP1.out.cell 0
      have p1 : w1.cell? ⟨w.heap.size + 1 + 1, 0, none⟩ = some (.float .f32 hi) := HQ1.out.cell 0
      have p2 : w1.cell? ⟨w.heap.size + 1 + 1 + 1, 0, none⟩ = some (.float .f32 soft) := HC1.out.cell 0
      have l4 : w.heap.size + 1 + 1 + 1 + 1 < w1.heap.size := HF1.out.lt
      have l3 : w.heap.size + 1 + 1 + 1 < w1.heap.size := by omega
      have l2 : w.heap.size + 1 + 1 < w1.heap.size := by omega
      have l1 : w.heap.size + 1 < w1.heap.size := by omega
      have l0 : w.heap.size < w1.heap.size := by omega
      go_wp2_with fail
      refine (KH.out _ _ (by simp [go_sem]) (by simp [go_sem]) (by simp [go_sem])).mono ?_
      rintro e w2 ⟨rfl, rfl⟩
      obtain ⟨d0, d1, d2, d3, d4⟩ := HF1.out.cells
      have qf0 := HF1.out.frozen 0
      have qf1 := HF1.out.frozen 1
      have qf2 := HF1.out.frozen 2
      have qf3 := HF1.out.frozen 3
      have qf4 := HF1.out.frozen 4
      go_wp2_with fail
      have B3 := HB1.out
      exact bodyPost_ret (v := .tuple #[fldV 0 0 0 0 none 0 0, .int .i64 8]) (by simp [results, Tryz.results76, go_sem, *]) rfl ⟨rfl, (by have hszz := B3.size; repeat (first | with_reducible exact B3 | with_reducible apply Below.drew | with_reducible refine below_drewN ?_ _ | (with_reducible refine Below.setCell ?_ ?_ _; rotate_left; focus (first | omega | (simp <;> omega))) | (with_reducible refine Below.alloc ?_ ?_ _; rotate_left; focus (first | omega | (simp <;> omega)))))⟩
    | false =>
      rw [hg, if_neg (by decide)] at h
      rw [if_neg (by decide)]
      change (FloatKind.f32.format.order lo hi == some .gt) = false at hg
      cases hs : lss soft 0 with
      | true =>
        rw [if_pos rfl]
        change (FloatKind.f32.format.order soft 0 == some .lt) = true at hs
        clear h
        go_enter Tryz.func76, Tryz.ntmps76
        go_wp2_with fail
        generalize hW0 : ((((w.alloc (.cells #[.int .i64 X, .int .i64 Y, .int .i64 Wn, .int .i64 Hn, .slice (some ⟨b, o, none⟩) l.length c] 78)).alloc (.cells #[.float .f32 lo] 46)).alloc (.cells #[.float .f32 hi] 46)).alloc (.cells #[.float .f32 soft] 46)).alloc (.cells #[.int .i64 0, .int .i64 0, .int .i64 0, .int .i64 0, .slice none 0 0] 78) = W0 at *
        obtain ⟨E0, P0, Q0, R0, F0, B0⟩ := box_f3c w X Y Wn Hn (.slice (some ⟨b, o, none⟩) l.length c) #[.float .f32 lo] #[.float .f32 hi] #[.float .f32 soft] 46 W0 hW0.symm
        clear hW0
        refine (K.out _ (HL.out.below B0)).mono ?_
        rintro e w1 ⟨rfl, b1⟩
        have HE1 := Lib.hid (E0.below b1 E0.lt)
        have HP1 := Lib.hid (P0.below b1 P0.lt)
        have HQ1 := Lib.hid (Q0.below b1 Q0.lt)
        have HC1 := Lib.hid (R0.below b1 R0.lt)
        have HF1 := Lib.hid (F0.below b1 F0.lt)
        have HL1 := Lib.hid ((HL.out.below B0).below b1)
        have HB1 := Lib.hid (B0.trans (b1.mono B0.size))
        clear b1 B0 F0 E0 P0 Q0 R0 K HL
        have p0 : w1.cell? ⟨w.heap.size + 1, 0, none⟩ = some (.float .f32 lo) := HP1.out.cell 0
        have p1 : w1.cell? ⟨w.heap.size + 1 + 1, 0, none⟩ = some (.float .f32 hi) := HQ1.out.cell 0
        have p2 : w1.cell? ⟨w.heap.size + 1 + 1 + 1, 0, none⟩ = some (.float .f32 soft) := HC1.out.cell 0
        have l4 : w.heap.size + 1 + 1 + 1 + 1 < w1.heap.size := HF1.out.lt
        have l3 : w.heap.size + 1 + 1 + 1 < w1.heap.size := by omega
        have l2 : w.heap.size + 1 + 1 < w1.heap.size := by omega
        have l1 : w.heap.size + 1 < w1.heap.size := by omega
        have l0 : w.heap.size < w1.heap.size := by omega
        go_wp2_with fail
        refine (KH.out _ _ (by simp [go_sem]) (by simp [go_sem]) (by simp [go_sem])).mono ?_
        rintro e w2 ⟨rfl, rfl⟩
        obtain ⟨d0, d1, d2, d3, d4⟩ := HF1.out.cells
        have qf0 := HF1.out.frozen 0
        have qf1 := HF1.out.frozen 1
        have qf2 := HF1.out.frozen 2
        have qf3 := HF1.out.frozen 3
        have qf4 := HF1.out.frozen 4
        go_wp2_with fail
        have B3 := HB1.out
        exact bodyPost_ret (v := .tuple #[fldV 0 0 0 0 none 0 0, .int .i64 3]) (by simp [results, Tryz.results76, go_sem, *]) rfl ⟨rfl, (by have hszz := B3.size; repeat (first | with_reducible exact B3 | with_reducible apply Below.drew | with_reducible refine below_drewN ?_ _ | (with_reducible refine Below.setCell ?_ ?_ _; rotate_left; focus (first | omega | (simp <;> omega))) | (with_reducible refine Below.alloc ?_ ?_ _; rotate_left; focus (first | omega | (simp <;> omega)))))⟩
      | false => rw [hs, if_neg (by decide)] at h; exact absurd rfl h
  · rw [if_pos ha]
    have hb' : (a != 0) = true := by rw [bne_iff_ne]; exact ha
    clear h ha
    go_enter Tryz.func76, Tryz.ntmps76
    go_wp2_with fail
    generalize hW0 : ((((w.alloc (.cells #[.int .i64 X, .int .i64 Y, .int .i64 Wn, .int .i64 Hn, .slice (some ⟨b, o, none⟩) l.length c] 78)).alloc (.cells #[.float .f32 lo] 46)).alloc (.cells #[.float .f32 hi] 46)).alloc (.cells #[.float .f32 soft] 46)).alloc (.cells #[.int .i64 0, .int .i64 0, .int .i64 0, .int .i64 0, .slice none 0 0] 78) = W0 at *
    obtain ⟨E0, P0, Q0, R0, F0, B0⟩ := box_f3c w X Y Wn Hn (.slice (some ⟨b, o, none⟩) l.length c) #[.float .f32 lo] #[.float .f32 hi] #[.float .f32 soft] 46 W0 hW0.symm
    clear hW0
    refine (K.out _ (HL.out.below B0)).mono ?_
    rintro e w1 ⟨rfl, b1⟩
    have HE1 := Lib.hid (E0.below b1 E0.lt)
    have HP1 := Lib.hid (P0.below b1 P0.lt)
    have HQ1 := Lib.hid (Q0.below b1 Q0.lt)
    have HC1 := Lib.hid (R0.below b1 R0.lt)
    have HF1 := Lib.hid (F0.below b1 F0.lt)
    have HL1 := Lib.hid ((HL.out.below B0).below b1)
    have HB1 := Lib.hid (B0.trans (b1.mono B0.size))
    clear b1 B0 F0 E0 P0 Q0 R0 K HL
    have p0 : w1.cell? ⟨w.heap.size + 1, 0, none⟩ = some (.float .f32 lo) := HP1.out.cell 0
    have p1 : w1.cell? ⟨w.heap.size + 1 + 1, 0, none⟩ = some (.float .f32 hi) := HQ1.out.cell 0
    have p2 : w1.cell? ⟨w.heap.size + 1 + 1 + 1, 0, none⟩ = some (.float .f32 soft) := HC1.out.cell 0
    have l4 : w.heap.size + 1 + 1 + 1 + 1 < w1.heap.size := HF1.out.lt
    have l3 : w.heap.size + 1 + 1 + 1 < w1.heap.size := by omega
    have l2 : w.heap.size + 1 + 1 < w1.heap.size := by omega
    have l1 : w.heap.size + 1 < w1.heap.size := by omega
    have l0 : w.heap.size < w1.heap.size := by omega
    go_wp2_with fail
    refine (KH.out _ _ (by simp [go_sem]) (by simp [go_sem]) (by simp [go_sem])).mono ?_
    rintro e w2 ⟨rfl, rfl⟩
    obtain ⟨d0, d1, d2, d3, d4⟩ := HF1.out.cells
    have qf0 := HF1.out.frozen 0
    have qf1 := HF1.out.frozen 1
    have qf2 := HF1.out.frozen 2
    have qf3 := HF1.out.frozen 3
    have qf4 := HF1.out.frozen 4
    go_wp2_with fail
    have B3 := HB1.out
    exact bodyPost_ret (v := .tuple #[fldV 0 0 0 0 none 0 0, .int .i64 a]) (by simp [results, Tryz.results76, go_sem, *]) rfl ⟨rfl, (by have hszz := B3.size; repeat (first | with_reducible exact B3 | with_reducible apply Below.drew | with_reducible refine below_drewN ?_ _ | (with_reducible refine Below.setCell ?_ ?_ _; rotate_left; focus (first | omega | (simp <;> omega))) | (with_reducible refine Below.alloc ?_ ?_ _; rotate_left; focus (first | omega | (simp <;> omega)))))⟩
end Go.Proofs.YtimhpmccmafnpaaGreat


namespace Go.Proofs.YtimhpmccmafnpaaGreat
open Go.ChangeShapes Go.WideShapes Go.ChangeAt Go.RowKit
open Ieee.Format (fin finE htE allFin allHt all_true all_false mulF subF addF Ht Bd divF rootF floorF easeF mixF)
set_option linter.unusedVariables false

theorem SRow.blt {w : World} {b o : Nat} {l : List Nat} (h : SRow w (some ⟨b, o, none⟩) l) (hn : 0 < l.length) : b < w.heap.size := by
  have := h.at_ hn
  rcases Nat.lt_or_ge b w.heap.size with hlt | hge
  · exact hlt
  · simp [World.cell?, Array.getElem?_eq_none hge] at this
theorem Right.pos {X Y : Int} {Wn Hn : Nat} {l : List Nat} (h : Right X Y Wn Hn l) : 0 < l.length := by
  have := Nat.mul_le_mul h.h1 h.w1
  rw [← h.len] at this; omega
theorem Right.small {X Y : Int} {Wn Hn : Nat} {l : List Nat} (h : Right X Y Wn Hn l) : l.length ≤ 1099511627776 := by
  have h1 := Nat.mul_le_mul h.h2 h.w2
  rw [← h.len] at h1; omega

theorem sel_zero {lo hi soft : Nat} (h : selC lo hi soft = 0) : htE [lo, hi, soft] = 0 ∧ gtr lo hi = false ∧ lss soft 0 = false := by
  unfold selC at h
  by_cases h1 : htE [lo, hi, soft] = 0
  · rw [if_neg (by omega)] at h
    cases h2 : gtr lo hi with
    | true => rw [h2, if_pos rfl] at h; omega
    | false =>
      rw [h2, if_neg (by decide)] at h
      cases h3 : lss soft 0 with
      | true => rw [h3, if_pos rfl] at h; omega
      | false => exact ⟨h1, rfl, rfl⟩
  · rw [if_pos h1] at h; exact absurd h h1
theorem sel_hts {lo hi soft : Nat} (h : htE [lo, hi, soft] = 0) : Ht lo ∧ Ht hi ∧ Ht soft := by
  have := Ieee.Format.allHt_iff.1 (Ieee.Format.htE_zero h)
  exact ⟨this _ (by simp), this _ (by simp), this _ (by simp)⟩
theorem cnt_world (w : World) (cs : Array Value) (t : TypeId) : ∀ W0, W0 = (w.alloc (.cells cs t)).alloc (.cells #[.int .i64 (-1)] 3) → CntAt W0 (w.heap.size + 1) (-1) ∧ Below w.heap.size w W0 ∧ W0.heap.size = w.heap.size + 2 := by
  rintro _ rfl
  refine ⟨?_, (by repeat (first | with_reducible exact Below.refl _ _ | with_reducible apply Below.drew | with_reducible refine below_drewN ?_ _ | (with_reducible refine Below.setCell ?_ ?_ _; rotate_left; focus (first | omega | (simp <;> omega))) | (with_reducible refine Below.alloc ?_ ?_ _; rotate_left; focus (first | omega | (simp <;> omega))))), by simp⟩
  have := Blk.new (w.alloc (.cells cs t)) #[.int .i64 (-1)] 3
  simpa using this

set_option maxRecDepth 100000 in
set_option maxHeartbeats 1000000 in
theorem select_ok (X Y : Int) (Wn Hn : Nat) (b o c : Nat) (l : List Nat) (lo hi soft : Nat) (w : World) (hl : SRow w (some ⟨b, o, none⟩) l) (hr : Right X Y Wn Hn l) (h1 : lo < 4294967296) (h2 : hi < 4294967296) (h3 : soft < 4294967296) (h : selC lo hi soft = 0) :
    Calls Tryz.prog 76 #[fldV X Y Wn Hn (some ⟨b, o, none⟩) l.length c, .float .f32 lo, .float .f32 hi, .float .f32 soft] w fun e w' => OpP 0 X Y Wn Hn (l.map (selF lo hi soft)) w e w' := by
  obtain ⟨hh, hg, hs⟩ := sel_zero h
  obtain ⟨t1, t2, t3⟩ := sel_hts hh
  have K := Lib.hid (fun w h => check_field X Y Wn Hn (some ⟨b, o, none⟩) c l w h)
  rw [hr.chk] at K
  have HL := Lib.hid hl
  have KH := Lib.hid (fun W g c0 c1 c2 => heights_three W g lo hi soft h1 h2 h3 c0 c1 c2)
  rw [hh] at KH
  have HBL : Hid (b < w.heap.size) := SRow.blt hl hr.pos
  have KM := Lib.hid (fun p q pa pb pc w (hl : SRow w (some ⟨b, o, none⟩) l) (hq : Fld w q X Y Wn Hn (.slice (some ⟨b, o, none⟩) l.length c)) (ha : Blk w pa #[.float .f32 lo] 46) (hb : Blk w pb #[.float .f32 hi] 46) (hc : Blk w pc #[.float .f32 soft] 46) (hp : CntAt w p (-1)) (qp : q ≠ p) (bp : b ≠ p) (pap : pa ≠ p) (pbp : pb ≠ p) (pcp : pc ≠ p) =>
    make_map 109 #[.pointer (some ⟨p, 0, none⟩), .pointer (some ⟨q, 0, none⟩), .pointer (some ⟨pa, 0, none⟩), .pointer (some ⟨pb, 0, none⟩), .pointer (some ⟨pc, 0, none⟩)] p (selF lo hi soft) X Y Wn Hn l w hr (enters_of Tryz.func109 (by kernel_rfl) rfl) hp (selF_lt lo hi soft)
      (fun x y k hk W' hb' hcnt => selectfn_any lo hi soft x y p q b o c pa pb pc k X Y Wn Hn l W' ⟨hcnt, hq.but hb' hq.lt qp, SRow.but hl hb' (SRow.blt hl hr.pos) bp, qp, bp, hk, by have := hb'.size; have := SRow.blt hl hr.pos; omega⟩ (hr.getD k) t1 t2 t3 (ha.but hb' ha.lt pap) (hb.but hb' hb.lt pbp) (hc.but hb' hc.lt pcp) pap pbp pcp))
  change (FloatKind.f32.format.order lo hi == some .gt) = false at hg
  change (FloatKind.f32.format.order soft 0 == some .lt) = false at hs
  clear hl hr h1 h2 h3 h hh t1 t2 t3
  generalize hS : l.map (selF lo hi soft) = S at *
  clear hS
  go_enter Tryz.func76, Tryz.ntmps76
  go_wp2_with fail
  generalize hW0 : ((((w.alloc (.cells #[.int .i64 X, .int .i64 Y, .int .i64 Wn, .int .i64 Hn, .slice (some ⟨b, o, none⟩) l.length c] 78)).alloc (.cells #[.float .f32 lo] 46)).alloc (.cells #[.float .f32 hi] 46)).alloc (.cells #[.float .f32 soft] 46)).alloc (.cells #[.int .i64 0, .int .i64 0, .int .i64 0, .int .i64 0, .slice none 0 0] 78) = W0 at *
  obtain ⟨E0, P0, Q0, R0, F0, B0⟩ := box_f3c w X Y Wn Hn (.slice (some ⟨b, o, none⟩) l.length c) #[.float .f32 lo] #[.float .f32 hi] #[.float .f32 soft] 46 W0 hW0.symm
  clear hW0
  refine (K.out _ (HL.out.below B0)).mono ?_
  rintro e w1 ⟨rfl, b1⟩
  have HE1 := Lib.hid (E0.below b1 E0.lt)
  have HP1 := Lib.hid (P0.below b1 P0.lt)
  have HQ1 := Lib.hid (Q0.below b1 Q0.lt)
  have HC1 := Lib.hid (R0.below b1 R0.lt)
  have HF1 := Lib.hid (F0.below b1 F0.lt)
  have HL1 := Lib.hid ((HL.out.below B0).below b1)
  have HB1 := Lib.hid (B0.trans (b1.mono B0.size))
  clear b1 B0 F0 E0 P0 Q0 R0 K HL
  have p0 : w1.cell? ⟨w.heap.size + 1, 0, none⟩ = some (.float .f32 lo) := HP1.out.cell 0
  have p1 : w1.cell? ⟨w.heap.size + 1 + 1, 0, none⟩ = some (.float .f32 hi) := HQ1.out.cell 0
  have p2 : w1.cell? ⟨w.heap.size + 1 + 1 + 1, 0, none⟩ = some (.float .f32 soft) := HC1.out.cell 0
  have l4 : w.heap.size + 1 + 1 + 1 + 1 < w1.heap.size := HF1.out.lt
  have l3 : w.heap.size + 1 + 1 + 1 < w1.heap.size := by omega
  have l2 : w.heap.size + 1 + 1 < w1.heap.size := by omega
  have l1 : w.heap.size + 1 < w1.heap.size := by omega
  have l0 : w.heap.size < w1.heap.size := by omega
  go_wp2_with fail
  refine (KH.out _ _ (by simp [go_sem]) (by simp [go_sem]) (by simp [go_sem])).mono ?_
  rintro e w2 ⟨rfl, rfl⟩
  obtain ⟨c0, c1, c2, c3, c4⟩ := HE1.out.cells
  go_wp2_with fail
  generalize hW2 : (w1.alloc (.cells #[.float .f32 lo, .float .f32 hi, .float .f32 soft] 46)).alloc (.cells #[.int .i64 (-1)] 3) = W2 at *
  obtain ⟨n2, B2, z2⟩ := cnt_world w1 _ _ W2 hW2.symm
  clear hW2
  have HN2 := Lib.hid n2
  have HZ2 := Lib.hid z2
  clear n2 z2
  have HE2 := Lib.hid (HE1.out.below B2 HE1.out.lt)
  have HP2 := Lib.hid (HP1.out.below B2 HP1.out.lt)
  have HQ2 := Lib.hid (HQ1.out.below B2 HQ1.out.lt)
  have HC2 := Lib.hid (HC1.out.below B2 HC1.out.lt)
  have HF2 := Lib.hid (HF1.out.below B2 HF1.out.lt)
  have HL2 := Lib.hid (HL1.out.below B2)
  have HB2 := Lib.hid (HB1.out.trans (B2.mono HB1.out.size))
  have HBS : Hid (w.heap.size ≤ w1.heap.size) := HB1.out.size
  refine (KM.out _ _ _ _ _ _ HL2.out HE2.out HP2.out HQ2.out HC2.out HN2.out (by omega) (by have := HBL.out; omega) (by omega) (by omega) (by omega)).mono ?_
  rintro e w3 ⟨⟨g, cap, rfl, ho⟩, b3⟩
  have HFZ := Lib.hid (HF2.out.below b3 (by omega))
  have HBZ := Lib.hid (HB2.out.trans (b3.mono (by have := HBS.out; omega)))
  have HO3 := Lib.hid ho
  have HZB : Hid (w.heap.size + 1 + 1 + 1 + 1 < W2.heap.size) := HF2.out.lt
  have HBB : Hid (w.heap.size ≤ W2.heap.size) := HB2.out.size
  clear ho b3 KM HE2 HP2 HQ2 HC2 HF2 HL2 HB2 HE1 HP1 HQ1 HC1 HF1 HL1 HB1 B2 p0 p1 p2 l4 l3 l2 l1 l0 c0 c1 c2 c3 c4 HN2
  obtain ⟨d0, d1, d2, d3, d4⟩ := HFZ.out.cells
  have qf0 := HFZ.out.frozen 0
  have qf1 := HFZ.out.frozen 1
  have qf2 := HFZ.out.frozen 2
  have qf3 := HFZ.out.frozen 3
  have qf4 := HFZ.out.frozen 4
  have lz := HFZ.out.lt
  go_wp2_with fail
  generalize hW5 : ((((w3.setCell ⟨w.heap.size + 1 + 1 + 1 + 1, 0, none⟩ (.int .i64 X)).setCell ⟨w.heap.size + 1 + 1 + 1 + 1, 1, none⟩ (.int .i64 Y)).setCell ⟨w.heap.size + 1 + 1 + 1 + 1, 2, none⟩ (.int .i64 Wn)).setCell ⟨w.heap.size + 1 + 1 + 1 + 1, 3, none⟩ (.int .i64 Hn)).setCell ⟨w.heap.size + 1 + 1 + 1 + 1, 4, none⟩ (.slice (some ⟨g, 0, none⟩) S.length cap) = W5 at *
  obtain ⟨f5, bb5, oo5, _, z5⟩ := fld_store w3 (w.heap.size + 1 + 1 + 1 + 1) 0 0 0 0 _ X Y Wn Hn (.slice (some ⟨g, 0, none⟩) S.length cap) HFZ.out W5 hW5.symm
  have hg : g ≠ w.heap.size + 1 + 1 + 1 + 1 := by have := HO3.out.lt.1; have := HZB.out; omega
  have hO5 := (oo5 _ _ _ _ HO3.out hg).base HBB.out
  have hB5 := HBZ.out.trans (bb5.mono (by omega))
  clear d0 d1 d2 d3 d4 qf0 qf1 qf2 qf3 qf4 hW5 oo5
  obtain ⟨d0, d1, d2, d3, d4⟩ := f5.cells
  exact bodyPost_ret (v := .tuple #[fldV X Y Wn Hn (some ⟨g, 0, none⟩) S.length cap, .int .i64 0]) (by simp [results, Tryz.results76, go_sem, *]) rfl ⟨⟨_, _, _, _, _, _, _, rfl, .inr ⟨rfl, rfl, rfl, rfl, rfl, g, rfl, rfl, hO5⟩⟩, hB5⟩
end Go.Proofs.YtimhpmccmafnpaaGreat


namespace Go.Proofs.YtimhpmccmafnpaaGreat
open Go.ChangeShapes Go.WideShapes Go.ChangeAt Go.RowKit
open Ieee.Format (fin finE htE allFin allHt all_true all_false mulF subF addF Ht Bd divF rootF floorF easeF mixF)
set_option linter.unusedVariables false

theorem selecterror_any (lo hi soft : Nat) (w : World) (h1 : lo < 4294967296) (h2 : hi < 4294967296) (h3 : soft < 4294967296) :
    Calls Tryz.prog 55 #[.float .f32 lo, .float .f32 hi, .float .f32 soft] w fun e w' => e = .returned (.int .i64 (selC lo hi soft)) ∧ Below w.heap.size w w' := by
  have KH := Lib.hid (fun W g c0 c1 c2 => refheight_three W g lo hi soft h1 h2 h3 c0 c1 c2)
  clear h1 h2 h3
  unfold selC
  generalize htE [lo, hi, soft] = a at *
  by_cases ha : a = 0
  · rw [ha] at KH
    rw [if_neg (by omega)]
    clear ha
    cases hg : gtr lo hi with
    | true =>
      rw [if_pos rfl]
      change (FloatKind.f32.format.order lo hi == some .gt) = true at hg
      go_enter Tryz.func55, Tryz.ntmps55
      go_wp2_with fail
      refine (KH.out _ _ (by simp [go_sem]) (by simp [go_sem]) (by simp [go_sem])).mono ?_
      rintro e w2 ⟨rfl, rfl⟩
      go_wp2_with fail
      go_ret
      exact ⟨rfl, (by repeat (first | with_reducible exact Below.refl _ _ | with_reducible apply Below.drew | with_reducible refine below_drewN ?_ _ | (with_reducible refine Below.setCell ?_ ?_ _; rotate_left; focus (first | omega | (simp <;> omega))) | (with_reducible refine Below.alloc ?_ ?_ _; rotate_left; focus (first | omega | (simp <;> omega)))))⟩
    | false =>
      rw [if_neg (by decide)]
      change (FloatKind.f32.format.order lo hi == some .gt) = false at hg
      cases hs : lss soft 0 with
      | true =>
        rw [if_pos rfl]
        change (FloatKind.f32.format.order soft 0 == some .lt) = true at hs
        go_enter Tryz.func55, Tryz.ntmps55
        go_wp2_with fail
        refine (KH.out _ _ (by simp [go_sem]) (by simp [go_sem]) (by simp [go_sem])).mono ?_
        rintro e w2 ⟨rfl, rfl⟩
        go_wp2_with fail
        go_ret
        exact ⟨rfl, (by repeat (first | with_reducible exact Below.refl _ _ | with_reducible apply Below.drew | with_reducible refine below_drewN ?_ _ | (with_reducible refine Below.setCell ?_ ?_ _; rotate_left; focus (first | omega | (simp <;> omega))) | (with_reducible refine Below.alloc ?_ ?_ _; rotate_left; focus (first | omega | (simp <;> omega)))))⟩
      | false =>
        rw [if_neg (by decide)]
        change (FloatKind.f32.format.order soft 0 == some .lt) = false at hs
        go_enter Tryz.func55, Tryz.ntmps55
        go_wp2_with fail
        refine (KH.out _ _ (by simp [go_sem]) (by simp [go_sem]) (by simp [go_sem])).mono ?_
        rintro e w2 ⟨rfl, rfl⟩
        go_wp2_with fail
        go_ret
        exact ⟨rfl, (by repeat (first | with_reducible exact Below.refl _ _ | with_reducible apply Below.drew | with_reducible refine below_drewN ?_ _ | (with_reducible refine Below.setCell ?_ ?_ _; rotate_left; focus (first | omega | (simp <;> omega))) | (with_reducible refine Below.alloc ?_ ?_ _; rotate_left; focus (first | omega | (simp <;> omega)))))⟩
  · rw [if_pos ha]
    have hb' : (a != 0) = true := by rw [bne_iff_ne]; exact ha
    clear ha
    go_enter Tryz.func55, Tryz.ntmps55
    go_wp2_with fail
    refine (KH.out _ _ (by simp [go_sem]) (by simp [go_sem]) (by simp [go_sem])).mono ?_
    rintro e w2 ⟨rfl, rfl⟩
    go_wp2_with fail
    go_ret
    exact ⟨rfl, (by repeat (first | with_reducible exact Below.refl _ _ | with_reducible apply Below.drew | with_reducible refine below_drewN ?_ _ | (with_reducible refine Below.setCell ?_ ?_ _; rotate_left; focus (first | omega | (simp <;> omega))) | (with_reducible refine Below.alloc ?_ ?_ _; rotate_left; focus (first | omega | (simp <;> omega)))))⟩

end Go.Proofs.YtimhpmccmafnpaaGreat
