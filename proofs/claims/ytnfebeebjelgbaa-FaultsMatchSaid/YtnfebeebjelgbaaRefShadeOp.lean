import Derived.Test.YtnfebeebjelgbaaRefShade
namespace Go.Proofs.Ytnfebeebjelgbaa
open Go.ChangeShapes Go.WideShapes Go.ChangeAt Go.RowKit
open Ieee.Format (fin finE htE allFin allHt all_true all_false mulF subF addF Ht Bd divF rootF floorF easeF mixF)
set_option linter.unusedVariables false

theorem box_f3z (w : World) (X Y W H : Int) (v : Value) (x y z : Int) : ∀ W0, W0 = ((((w.alloc (.cells #[.int .i64 X, .int .i64 Y, .int .i64 W, .int .i64 H, v] 36)).alloc (.cells #[.int .i64 x] 3)).alloc (.cells #[.int .i64 y] 3)).alloc (.cells #[.int .i64 z] 3)).alloc (.cells #[.int .i64 0, .int .i64 0, .int .i64 0, .int .i64 0, .slice none 0 0] 36) →
    Fld W0 w.heap.size X Y W H v ∧ Blk W0 (w.heap.size + 1) #[.int .i64 x] 3 ∧ Blk W0 (w.heap.size + 1 + 1) #[.int .i64 y] 3 ∧ Blk W0 (w.heap.size + 1 + 1 + 1) #[.int .i64 z] 3 ∧ Fld W0 (w.heap.size + 1 + 1 + 1 + 1) 0 0 0 0 (.slice none 0 0) ∧ Below w.heap.size w W0 := by
  rintro _ rfl
  refine ⟨((((Fld.new w X Y W H v).alloc _).alloc _).alloc _).alloc _, ?_, ?_, ?_, ?_, (by repeat (first | with_reducible exact Below.refl _ _ | with_reducible apply Below.drew | with_reducible refine below_drewN ?_ _ | (with_reducible refine Below.setCell ?_ ?_ _; rotate_left; focus (first | omega | (simp <;> omega))) | (with_reducible refine Below.alloc ?_ ?_ _; rotate_left; focus (first | omega | (simp <;> omega)))))⟩
  · have := (((Blk.new (w.alloc (.cells #[.int .i64 X, .int .i64 Y, .int .i64 W, .int .i64 H, v] 36)) #[.int .i64 x] 3).alloc (.cells #[.int .i64 y] 3)).alloc (.cells #[.int .i64 z] 3)).alloc (.cells #[.int .i64 0, .int .i64 0, .int .i64 0, .int .i64 0, .slice none 0 0] 36)
    simpa using this
  · have := ((Blk.new ((w.alloc (.cells #[.int .i64 X, .int .i64 Y, .int .i64 W, .int .i64 H, v] 36)).alloc (.cells #[.int .i64 x] 3)) #[.int .i64 y] 3).alloc (.cells #[.int .i64 z] 3)).alloc (.cells #[.int .i64 0, .int .i64 0, .int .i64 0, .int .i64 0, .slice none 0 0] 36)
    simpa using this
  · have := (Blk.new (((w.alloc (.cells #[.int .i64 X, .int .i64 Y, .int .i64 W, .int .i64 H, v] 36)).alloc (.cells #[.int .i64 x] 3)).alloc (.cells #[.int .i64 y] 3)) #[.int .i64 z] 3).alloc (.cells #[.int .i64 0, .int .i64 0, .int .i64 0, .int .i64 0, .slice none 0 0] 36)
    simpa using this
  · have := Fld.new ((((w.alloc (.cells #[.int .i64 X, .int .i64 Y, .int .i64 W, .int .i64 H, v] 36)).alloc (.cells #[.int .i64 x] 3)).alloc (.cells #[.int .i64 y] 3)).alloc (.cells #[.int .i64 z] 3)) 0 0 0 0 (.slice none 0 0)
    simpa using this

theorem refshade_no (X Y : Int) (Wn Hn : Nat) (b o c : Nat) (l : List Nat) (lx ly lz : Int) (w : World) (hl : SRow w (some ⟨b, o, none⟩) l) (hr : Right X Y Wn Hn l) (hx : -1000000 ≤ X ∧ X ≤ 1000000 ∧ -1000000 ≤ Y ∧ Y ≤ 1000000) (h : Wn < 3 ∨ Hn < 3) :
    Calls Try.prog 67 #[fldV X Y Wn Hn (some ⟨b, o, none⟩) l.length c, .int .i64 lx, .int .i64 ly, .int .i64 lz] w fun e w' => e = .returned (.tuple #[fldV 0 0 0 0 none 0 0, .int .i64 10]) ∧ Below w.heap.size w w' := by
  have KI := Lib.hid (fun w => refinner_rno X Y Wn Hn (some ⟨b, o, none⟩) l.length c l w hr hx h)
  have HL := Lib.hid hl
  clear hl hr h hx
  go_enter Try.func67, Try.ntmps67
  go_wp2_with fail
  generalize hW0 : ((((w.alloc (.cells #[.int .i64 X, .int .i64 Y, .int .i64 Wn, .int .i64 Hn, .slice (some ⟨b, o, none⟩) l.length c] 36)).alloc (.cells #[.int .i64 lx] 3)).alloc (.cells #[.int .i64 ly] 3)).alloc (.cells #[.int .i64 lz] 3)).alloc (.cells #[.int .i64 0, .int .i64 0, .int .i64 0, .int .i64 0, .slice none 0 0] 36) = W0 at *
  obtain ⟨E0, P0, Q0, R0, F0, B0⟩ := box_f3z w X Y Wn Hn (.slice (some ⟨b, o, none⟩) l.length c) lx ly lz W0 hW0.symm
  clear hW0
  refine (KI.out _).mono ?_
  rintro e w1 ⟨rfl, b1⟩
  have E1 := E0.below b1 E0.lt
  have P1 := P0.below b1 P0.lt
  have Q1 := Q0.below b1 Q0.lt
  have R1 := R0.below b1 R0.lt
  have F1 := F0.below b1 F0.lt
  have HL1 := Lib.hid ((HL.out.below B0).below b1)
  have B1 := Lib.hid (B0.trans (b1.mono B0.size))
  clear b1 B0 F0 E0 P0 Q0 R0 KI HL
  clear P1 Q1 R1
  have l1 := F1.lt
  obtain ⟨d0, d1, d2, d3, d4⟩ := F1.cells
  have qf0 := F1.frozen 0
  have qf1 := F1.frozen 1
  have qf2 := F1.frozen 2
  have qf3 := F1.frozen 3
  have qf4 := F1.frozen 4
  clear F1 E1
  go_wp2_with fail
  have B2 := B1.out
  exact bodyPost_ret (v := .tuple #[fldV 0 0 0 0 none 0 0, .int .i64 10]) (by simp [results, Try.results67, go_sem, *]) rfl ⟨rfl, (by have hszz := B2.size; repeat (first | with_reducible exact B2 | with_reducible apply Below.drew | with_reducible refine below_drewN ?_ _ | (with_reducible refine Below.setCell ?_ ?_ _; rotate_left; focus (first | omega | (simp <;> omega))) | (with_reducible refine Below.alloc ?_ ?_ _; rotate_left; focus (first | omega | (simp <;> omega)))))⟩

theorem refshade_bad (X Y : Int) (Wn Hn : Nat) (b o c : Nat) (l : List Nat) (lx ly lz : Int) (w : World) (hl : SRow w (some ⟨b, o, none⟩) l) (hr : Right X Y Wn Hn l) (h3 : 3 ≤ Wn) (h4 : 3 ≤ Hn) (h : lightE lx ly lz ≠ 0) :
    Calls Try.prog 67 #[fldV X Y Wn Hn (some ⟨b, o, none⟩) l.length c, .int .i64 lx, .int .i64 ly, .int .i64 lz] w fun e w' => e = .returned (.tuple #[fldV 0 0 0 0 none 0 0, .int .i64 (lightE lx ly lz)]) ∧ Below w.heap.size w w' := by
  have KI := Lib.hid (fun w => refinner_ryes X Y Wn Hn (some ⟨b, o, none⟩) l.length c l w hr h3 h4)
  have HL := Lib.hid hl
  have KE := Lib.hid (fun w => lighterror_any lx ly lz w)
  clear hl hr h3 h4
  generalize lightE lx ly lz = q at *
  have hb : (q != 0) = true := by rw [bne_iff_ne]; exact h
  clear h
  go_enter Try.func67, Try.ntmps67
  go_wp2_with fail
  generalize hW0 : ((((w.alloc (.cells #[.int .i64 X, .int .i64 Y, .int .i64 Wn, .int .i64 Hn, .slice (some ⟨b, o, none⟩) l.length c] 36)).alloc (.cells #[.int .i64 lx] 3)).alloc (.cells #[.int .i64 ly] 3)).alloc (.cells #[.int .i64 lz] 3)).alloc (.cells #[.int .i64 0, .int .i64 0, .int .i64 0, .int .i64 0, .slice none 0 0] 36) = W0 at *
  obtain ⟨E0, P0, Q0, R0, F0, B0⟩ := box_f3z w X Y Wn Hn (.slice (some ⟨b, o, none⟩) l.length c) lx ly lz W0 hW0.symm
  clear hW0
  refine (KI.out _).mono ?_
  rintro e w1 ⟨rfl, b1⟩
  have E1 := E0.below b1 E0.lt
  have P1 := P0.below b1 P0.lt
  have Q1 := Q0.below b1 Q0.lt
  have R1 := R0.below b1 R0.lt
  have F1 := F0.below b1 F0.lt
  have HL1 := Lib.hid ((HL.out.below B0).below b1)
  have B1 := Lib.hid (B0.trans (b1.mono B0.size))
  clear b1 B0 F0 E0 P0 Q0 R0 KI HL
  have hR := Reg.new w1 (X + 1) (Y + 1) ((Wn - 2 : Nat) : Int) ((Hn - 2 : Nat) : Int)
  have b2 : Below w1.heap.size w1 (w1.alloc (.cells #[.int .i64 (X + 1), .int .i64 (Y + 1), .int .i64 ((Wn - 2 : Nat) : Int), .int .i64 ((Hn - 2 : Nat) : Int)] 23)) := (by repeat (first | with_reducible exact Below.refl _ _ | with_reducible apply Below.drew | with_reducible refine below_drewN ?_ _ | (with_reducible refine Below.setCell ?_ ?_ _; rotate_left; focus (first | omega | (simp <;> omega))) | (with_reducible refine Below.alloc ?_ ?_ _; rotate_left; focus (first | omega | (simp <;> omega)))))
  have HE2 := Lib.hid (E1.below b2 E1.lt)
  have HP2 := Lib.hid (P1.below b2 P1.lt)
  have HQ2 := Lib.hid (Q1.below b2 Q1.lt)
  have HC2 := Lib.hid (R1.below b2 R1.lt)
  have HF2 := Lib.hid (F1.below b2 F1.lt)
  have HL2 := Lib.hid (HL1.out.below b2)
  have HB2 := Lib.hid (B1.out.trans (b2.mono B1.out.size))
  have p0 : w1.cell? ⟨w.heap.size + 1, 0, none⟩ = some (.int .i64 lx) := P1.cell 0
  have p1 : w1.cell? ⟨w.heap.size + 1 + 1, 0, none⟩ = some (.int .i64 ly) := Q1.cell 0
  have p2 : w1.cell? ⟨w.heap.size + 1 + 1 + 1, 0, none⟩ = some (.int .i64 lz) := R1.cell 0
  have l4 : w.heap.size + 1 + 1 + 1 + 1 < w1.heap.size := F1.lt
  have l3 : w.heap.size + 1 + 1 + 1 < w1.heap.size := by omega
  have l2 : w.heap.size + 1 + 1 < w1.heap.size := by omega
  have l1 : w.heap.size + 1 < w1.heap.size := by omega
  have l0 : w.heap.size < w1.heap.size := by omega
  have HR2 := Lib.hid hR
  have HS2 : Hid (w1.heap.size + 1 = (w1.alloc (.cells #[.int .i64 (X + 1), .int .i64 (Y + 1), .int .i64 ((Wn - 2 : Nat) : Int), .int .i64 ((Hn - 2 : Nat) : Int)] 23)).heap.size) := Lib.hid (by simp)
  clear E1 P1 Q1 R1 F1 HL1 B1 b2 hR
  go_wp2_with fail
  generalize w1.alloc (.cells #[.int .i64 (X + 1), .int .i64 (Y + 1), .int .i64 ((Wn - 2 : Nat) : Int), .int .i64 ((Hn - 2 : Nat) : Int)] 23) = w2 at *
  clear p0 p1 p2
  refine (KE.out _).mono ?_
  rintro e w3 ⟨rfl, rfl⟩
  obtain ⟨d0, d1, d2, d3, d4⟩ := HF2.out.cells
  have qf0 := HF2.out.frozen 0
  have qf1 := HF2.out.frozen 1
  have qf2 := HF2.out.frozen 2
  have qf3 := HF2.out.frozen 3
  have qf4 := HF2.out.frozen 4
  have l5 := HF2.out.lt
  go_wp2_with fail
  have B3 := HB2.out
  exact bodyPost_ret (v := .tuple #[fldV 0 0 0 0 none 0 0, .int .i64 q]) (by simp [results, Try.results67, go_sem, *]) rfl ⟨rfl, (by have hszz := B3.size; repeat (first | with_reducible exact B3 | with_reducible apply Below.drew | with_reducible refine below_drewN ?_ _ | (with_reducible refine Below.setCell ?_ ?_ _; rotate_left; focus (first | omega | (simp <;> omega))) | (with_reducible refine Below.alloc ?_ ?_ _; rotate_left; focus (first | omega | (simp <;> omega)))))⟩

set_option maxRecDepth 100000 in
set_option maxHeartbeats 1000000 in
theorem refshade_ok (X Y : Int) (Wn Hn : Nat) (b o c : Nat) (l : List Nat) (lx ly lz : Int) (w : World) (hl : SRow w (some ⟨b, o, none⟩) l) (hr : Right X Y Wn Hn l) (h3 : 3 ≤ Wn) (h4 : 3 ≤ Hn) (h : lightE lx ly lz = 0) (φ : Nat → Nat → Nat → Nat → Nat → Nat) (hφ : φ = shadeF (cv lx) (cv ly) (cv lz) (rootF (cv (lx * lx + ly * ly + lz * lz)))) :
    Calls Try.prog 67 #[fldV X Y Wn Hn (some ⟨b, o, none⟩) l.length c, .int .i64 lx, .int .i64 ly, .int .i64 lz] w fun e w' => OpP (resC (innerL φ X Y Wn Hn l)) (X + 1) (Y + 1) ((Wn - 2 : Nat) : Int) ((Hn - 2 : Nat) : Int) (innerL φ X Y Wn Hn l) w e w' := by
  obtain ⟨hL, hs1, hs2, hx, hy, hz⟩ := light_ok h
  have KI := Lib.hid (fun w => refinner_ryes X Y Wn Hn (some ⟨b, o, none⟩) l.length c l w hr h3 h4)
  have HL := Lib.hid hl
  have KE := Lib.hid (fun w => lighterror_any lx ly lz w)
  rw [h] at KE
  have KC : Hid (∀ n, n = lx * lx + ly * ly + lz * lz → ∀ w, Calls Try.prog 140 #[.int .i64 n] w fun e w' => e = .returned (.float .f32 (cv (lx * lx + ly * ly + lz * lz))) ∧ w = w') := by
    rintro n rfl w
    exact ref_conv_ok _ w
  have KT := Lib.hid (fun w => refroot_any _ hs1 hs2 w)
  have KM := Lib.hid (fun q pa pb pc pm w hl (hq : Fld w q X Y Wn Hn (.slice (some ⟨b, o, none⟩) l.length c)) ha hb hc hm => made_inner 164 #[.pointer (some ⟨q, 0, none⟩), .pointer (some ⟨pa, 0, none⟩), .pointer (some ⟨pb, 0, none⟩), .pointer (some ⟨pc, 0, none⟩), .pointer (some ⟨pm, 0, none⟩)] φ X Y Wn Hn l w hr h3 h4 (enters_of Try.func164 (by kernel_rfl) rfl) (fun k => by rw [hφ]; exact shadeF_lt _ _ _ _ _ _ _ _ _)
    (fun x y k hk W' hb' => by rw [hφ]; exact refshade_fn lx ly lz (rootF (cv (lx * lx + ly * ly + lz * lz))) X Y Wn Hn x y b o c k q pa pb pc pm l W' (SRow.below hl hb') hr hk hL (hq.below hb' hq.lt) (Blk.below ha hb' ha.lt) (Blk.below hb hb' hb.lt) (Blk.below hc hb' hc.lt) (Blk.below hm hb' hm.lt)))
  clear hl hr h3 h4 hL hs1 hs2 h hφ
  generalize innerL φ X Y Wn Hn l = S at *
  generalize resC S = C at *
  generalize hM : rootF (cv (lx * lx + ly * ly + lz * lz)) = M at *
  generalize hN : cv (lx * lx + ly * ly + lz * lz) = N at *
  clear hM hN
  obtain ⟨x1, x2⟩ := hx
  obtain ⟨y1, y2⟩ := hy
  obtain ⟨z1, z2⟩ := hz
  go_enter Try.func67, Try.ntmps67
  go_wp2_with fail
  generalize hW0 : ((((w.alloc (.cells #[.int .i64 X, .int .i64 Y, .int .i64 Wn, .int .i64 Hn, .slice (some ⟨b, o, none⟩) l.length c] 36)).alloc (.cells #[.int .i64 lx] 3)).alloc (.cells #[.int .i64 ly] 3)).alloc (.cells #[.int .i64 lz] 3)).alloc (.cells #[.int .i64 0, .int .i64 0, .int .i64 0, .int .i64 0, .slice none 0 0] 36) = W0 at *
  obtain ⟨E0, P0, Q0, R0, F0, B0⟩ := box_f3z w X Y Wn Hn (.slice (some ⟨b, o, none⟩) l.length c) lx ly lz W0 hW0.symm
  clear hW0
  refine (KI.out _).mono ?_
  rintro e w1 ⟨rfl, b1⟩
  have E1 := E0.below b1 E0.lt
  have P1 := P0.below b1 P0.lt
  have Q1 := Q0.below b1 Q0.lt
  have R1 := R0.below b1 R0.lt
  have F1 := F0.below b1 F0.lt
  have HL1 := Lib.hid ((HL.out.below B0).below b1)
  have B1 := Lib.hid (B0.trans (b1.mono B0.size))
  clear b1 B0 F0 E0 P0 Q0 R0 KI HL
  have hR := Reg.new w1 (X + 1) (Y + 1) ((Wn - 2 : Nat) : Int) ((Hn - 2 : Nat) : Int)
  have b2 : Below w1.heap.size w1 (w1.alloc (.cells #[.int .i64 (X + 1), .int .i64 (Y + 1), .int .i64 ((Wn - 2 : Nat) : Int), .int .i64 ((Hn - 2 : Nat) : Int)] 23)) := (by repeat (first | with_reducible exact Below.refl _ _ | with_reducible apply Below.drew | with_reducible refine below_drewN ?_ _ | (with_reducible refine Below.setCell ?_ ?_ _; rotate_left; focus (first | omega | (simp <;> omega))) | (with_reducible refine Below.alloc ?_ ?_ _; rotate_left; focus (first | omega | (simp <;> omega)))))
  have HE2 := Lib.hid (E1.below b2 E1.lt)
  have HP2 := Lib.hid (P1.below b2 P1.lt)
  have HQ2 := Lib.hid (Q1.below b2 Q1.lt)
  have HC2 := Lib.hid (R1.below b2 R1.lt)
  have HF2 := Lib.hid (F1.below b2 F1.lt)
  have HL2 := Lib.hid (HL1.out.below b2)
  have HB2 := Lib.hid (B1.out.trans (b2.mono B1.out.size))
  have p0 : w1.cell? ⟨w.heap.size + 1, 0, none⟩ = some (.int .i64 lx) := P1.cell 0
  have p1 : w1.cell? ⟨w.heap.size + 1 + 1, 0, none⟩ = some (.int .i64 ly) := Q1.cell 0
  have p2 : w1.cell? ⟨w.heap.size + 1 + 1 + 1, 0, none⟩ = some (.int .i64 lz) := R1.cell 0
  have l4 : w.heap.size + 1 + 1 + 1 + 1 < w1.heap.size := F1.lt
  have l3 : w.heap.size + 1 + 1 + 1 < w1.heap.size := by omega
  have l2 : w.heap.size + 1 + 1 < w1.heap.size := by omega
  have l1 : w.heap.size + 1 < w1.heap.size := by omega
  have l0 : w.heap.size < w1.heap.size := by omega
  have HR2 := Lib.hid hR
  have HS2 : Hid (w1.heap.size + 1 = (w1.alloc (.cells #[.int .i64 (X + 1), .int .i64 (Y + 1), .int .i64 ((Wn - 2 : Nat) : Int), .int .i64 ((Hn - 2 : Nat) : Int)] 23)).heap.size) := Lib.hid (by simp)
  clear E1 P1 Q1 R1 F1 HL1 B1 b2 hR
  go_wp2_with fail
  generalize w1.alloc (.cells #[.int .i64 (X + 1), .int .i64 (Y + 1), .int .i64 ((Wn - 2 : Nat) : Int), .int .i64 ((Hn - 2 : Nat) : Int)] 23) = w2 at *
  clear p0 p1 p2
  refine (KE.out _).mono ?_
  rintro e w3 ⟨rfl, rfl⟩
  have p0 : w2.cell? ⟨w.heap.size + 1, 0, none⟩ = some (.int .i64 lx) := HP2.out.cell 0
  have p1 : w2.cell? ⟨w.heap.size + 1 + 1, 0, none⟩ = some (.int .i64 ly) := HQ2.out.cell 0
  have p2 : w2.cell? ⟨w.heap.size + 1 + 1 + 1, 0, none⟩ = some (.int .i64 lz) := HC2.out.cell 0
  obtain ⟨r0, r1, r2, r3⟩ := HR2.out.cells
  have r4 : w1.heap.size < w2.heap.size := HR2.out.lt
  have r5 : w1.heap.size < w2.heap.size + 1 := by omega
  go_wp2_with fail
  refine (KC.out _ (by first | rfl | simp) _).mono ?_
  rintro e w4 ⟨rfl, rfl⟩
  go_wp2_with fail
  refine (KT.out _).mono ?_
  rintro e w4 ⟨rfl, rfl⟩
  go_wp2_with fail
  have m0 := Blk.new w2 #[.float .f32 M] 37
  have B5 : Below w2.heap.size w2 (w2.alloc (.cells #[.float .f32 M] 37)) := (by repeat (first | with_reducible exact Below.refl _ _ | with_reducible apply Below.drew | with_reducible refine below_drewN ?_ _ | (with_reducible refine Below.setCell ?_ ?_ _; rotate_left; focus (first | omega | (simp <;> omega))) | (with_reducible refine Below.alloc ?_ ?_ _; rotate_left; focus (first | omega | (simp <;> omega)))))
  generalize w2.alloc (.cells #[.float .f32 M] 37) = W5 at *
  have HE5 := Lib.hid (HE2.out.below B5 HE2.out.lt)
  have HF5 := Lib.hid (HF2.out.below B5 HF2.out.lt)
  have HL5 := Lib.hid (HL2.out.below B5)
  have HB5 := Lib.hid (HB2.out.trans (B5.mono HB2.out.size))
  have HP5 := Lib.hid (HP2.out.below B5 HP2.out.lt)
  have HQ5 := Lib.hid (HQ2.out.below B5 HQ2.out.lt)
  have HC5 := Lib.hid (HC2.out.below B5 HC2.out.lt)
  clear B5 r0 r1 r2 r3 r4 r5 p0 p1 p2
  refine (KM.out _ _ _ _ _ _ HL5.out HE5.out HP5.out HQ5.out HC5.out m0).mono ?_
  rintro e w7 ⟨⟨x, y, p, q, a, m, k, rfl, o7⟩, b7⟩
  have HOZ := Lib.hid o7
  have HFZ := Lib.hid (HF5.out.below b7 HF5.out.lt)
  have HBZ := Lib.hid (HB5.out.trans (b7.mono HB5.out.size))
  have HZB : Hid (w.heap.size + 1 + 1 + 1 + 1 < W5.heap.size) := HF5.out.lt
  have HBB : Hid (w.heap.size ≤ W5.heap.size) := HB5.out.size
  clear o7 b7 HF2 HB2 HF5 HB5 l0 l1 x1 x2 y1 y2 z1 z2 KM m0 HE5 HL5 HP5 HQ5 HC5
  obtain ⟨d0, d1, d2, d3, d4⟩ := HFZ.out.cells
  have qf0 := HFZ.out.frozen 0
  have qf1 := HFZ.out.frozen 1
  have qf2 := HFZ.out.frozen 2
  have qf3 := HFZ.out.frozen 3
  have qf4 := HFZ.out.frozen 4
  have lz := HFZ.out.lt
  go_wp2_with fail
  generalize hW5 : ((((w7.setCell ⟨w.heap.size + 1 + 1 + 1 + 1, 0, none⟩ (.int .i64 x)).setCell ⟨w.heap.size + 1 + 1 + 1 + 1, 1, none⟩ (.int .i64 y)).setCell ⟨w.heap.size + 1 + 1 + 1 + 1, 2, none⟩ (.int .i64 p)).setCell ⟨w.heap.size + 1 + 1 + 1 + 1, 3, none⟩ (.int .i64 q)).setCell ⟨w.heap.size + 1 + 1 + 1 + 1, 4, none⟩ (.slice a m k) = W5 at *
  obtain ⟨f5, bb5, oo5, _, z5⟩ := fld_store w7 (w.heap.size + 1 + 1 + 1 + 1) 0 0 0 0 _ x y p q (.slice a m k) HFZ.out W5 hW5.symm
  have hO5 := (HOZ.out.set oo5 HZB.out).base HBB.out
  have hB5 := HBZ.out.trans (bb5.mono (by omega))
  clear d0 d1 d2 d3 d4 qf0 qf1 qf2 qf3 qf4 hW5 oo5
  obtain ⟨d0, d1, d2, d3, d4⟩ := f5.cells
  exact bodyPost_ret (v := .tuple #[fldV x y p q a m k, .int .i64 C]) (by simp [results, Try.results67, go_sem, *]) rfl ⟨⟨x, y, p, q, a, m, k, rfl, hO5⟩, hB5⟩
end Go.Proofs.Ytnfebeebjelgbaa
