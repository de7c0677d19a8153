import Derived.Test.YtnfebeebjelgbaaPasteOp
import Derived.Deep.DeepCutAuto
import Derived.IntWalk
namespace Go.Proofs.Ytnfebeebjelgbaa
open Go.ChangeShapes Go.WideShapes Go.ChangeAt Go.RowKit
open Ieee.Format (fin finE htE allFin allHt all_true all_false mulF subF addF Ht Bd divF rootF floorF easeF mixF)
set_option linter.unusedVariables false

set_option maxRecDepth 100000 in
set_option maxHeartbeats 1000000 in
theorem paste_no (X Y : Int) (Wn Hn : Nat) (b o c : Nat) (l : List Nat) (X' Y' : Int) (Wn' Hn' : Nat) (b' o' c' : Nat) (l' : List Nat) (w : World)
    (hl : SRow w (some ⟨b, o, none⟩) l) (hr : Right X Y Wn Hn l) (hl' : SRow w (some ⟨b', o', none⟩) l') (hr' : Right X' Y' Wn' Hn' l') (hok : cmOk X Y Wn Hn X' Y' Wn' Hn' = false) :
    Calls Try.prog 31 #[fldV X Y Wn Hn (some ⟨b, o, none⟩) l.length c, fldV X' Y' Wn' Hn' (some ⟨b', o', none⟩) l'.length c'] w fun e w' => e = .returned (.tuple #[fldV 0 0 0 0 none 0 0, .int .i64 5]) ∧ Below w.heap.size w w' := by
  have r1 := hr.w1; have r2 := hr.w2; have r3 := hr.h1; have r4 := hr.h2; have r5 := hr.x1; have r6 := hr.x2; have r7 := hr.y1; have r8 := hr.y2
  have s1 := hr'.w1; have s2 := hr'.w2; have s3 := hr'.h1; have s4 := hr'.h2; have s5 := hr'.x1; have s6 := hr'.x2; have s7 := hr'.y1; have s8 := hr'.y2
  have CW := Lib.hid (ck_world2 w X Y Wn Hn b o c l X' Y' Wn' Hn' b' o' c' l' hl hl' hr hr')
  have KC := Lib.hid (fun w => common1 X Y Wn Hn X' Y' Wn' Hn' w (by omega) (by omega) (by omega) (by omega) (by omega) (by omega) (by omega) (by omega) (by omega) (by omega) (by omega) (by omega) (by omega) (by omega) (by omega) (by omega))
  rw [hok] at KC
  obtain ⟨p1, p2, p3, p4, hp⟩ := cmR_frm X Y Wn Hn X' Y' Wn' Hn'
  rw [hp] at KC
  clear hl hr hl' hr' hok hp r1 r2 r3 r4 r5 r6 r7 r8 s1 s2 s3 s4 s5 s6 s7 s8
  go_enter Try.func31, Try.ntmps31
  go_wp2_with fail
  generalize hW0 : (((w.alloc (.cells #[.int .i64 X, .int .i64 Y, .int .i64 Wn, .int .i64 Hn, .slice (some ⟨b, o, none⟩) l.length c] 36)).alloc (.cells #[.int .i64 X', .int .i64 Y', .int .i64 Wn', .int .i64 Hn', .slice (some ⟨b', o', none⟩) l'.length c'] 36)).alloc (.cells #[.int .i64 0, .int .i64 0, .int .i64 0, .int .i64 0, .slice none 0 0] 36)).alloc (.cells #[.int .i64 X, .int .i64 Y, .int .i64 Wn, .int .i64 Hn, .slice (some ⟨b, o, none⟩) l.length c, .int .i64 X', .int .i64 Y', .int .i64 Wn', .int .i64 Hn', .slice (some ⟨b', o', none⟩) l'.length c'] 36) = W0
  obtain ⟨E0, P0, F0, B0, z0, hfl⟩ := CW.out W0 hW0.symm
  clear hW0 CW
  refine (checkall_any _ 0 2 2 _ z0 (by omega) hfl).mono ?_
  rintro e w1 ⟨rfl, b1⟩
  have HE1 := Lib.hid (E0.below b1 E0.lt)
  have HP1 := Lib.hid (P0.below b1 P0.lt)
  have HF1 := Lib.hid (F0.below b1 F0.lt)
  have HB1 := Lib.hid (B0.trans (b1.mono B0.size))
  clear E0 P0 F0 B0 z0 hfl b1
  obtain ⟨f0, f1, f2, f3, f4⟩ := HE1.out.cells
  obtain ⟨g0, g1, g2, g3, g4⟩ := HP1.out.cells
  have l2 : w.heap.size + 1 + 1 < w1.heap.size := HF1.out.lt
  have l1 : w.heap.size + 1 < w1.heap.size := by omega
  have l0 : w.heap.size < w1.heap.size := by omega
  go_wp2_with fail
  refine (KC.out _).mono ?_
  rintro e w2 ⟨rfl, b2⟩
  have HE2 := Lib.hid (HE1.out.below b2 HE1.out.lt)
  have HP2 := Lib.hid (HP1.out.below b2 HP1.out.lt)
  have HF2 := Lib.hid (HF1.out.below b2 HF1.out.lt)
  have HB2 := Lib.hid (HB1.out.trans (b2.mono HB1.out.size))
  clear b2 f0 f1 f2 f3 f4 g0 g1 g2 g3 g4 l0 l1 l2 HE1 HP1 HF1 HB1 KC
  obtain ⟨d0, d1, d2, d3, d4⟩ := HF2.out.cells
  have qf0 := HF2.out.frozen 0
  have qf1 := HF2.out.frozen 1
  have qf2 := HF2.out.frozen 2
  have qf3 := HF2.out.frozen 3
  have qf4 := HF2.out.frozen 4
  have lz := HF2.out.lt
  go_wp2_with fail
  have B3 := HB2.out
  exact bodyPost_ret (v := .tuple #[fldV 0 0 0 0 none 0 0, .int .i64 5]) (by simp [results, Try.results31, go_sem, *]) rfl ⟨rfl, (by have hszz := B3.size; repeat (first | with_reducible exact B3 | with_reducible apply Below.drew | with_reducible refine below_drewN ?_ _ | (with_reducible refine Below.setCell ?_ ?_ _; rotate_left; focus (first | omega | (simp <;> omega))) | (with_reducible refine Below.alloc ?_ ?_ _; rotate_left; focus (first | omega | (simp <;> omega)))))⟩

set_option maxRecDepth 100000 in
set_option maxHeartbeats 4000000 in
theorem paste_yes (X Y : Int) (Wn Hn : Nat) (b o c : Nat) (l : List Nat) (X' Y' : Int) (Wn' Hn' : Nat) (b' o' c' : Nat) (l' : List Nat) (cx cy : Int) (cw ch : Nat) (w : World)
    (hl : SRow w (some ⟨b, o, none⟩) l) (hr : Right X Y Wn Hn l) (hl' : SRow w (some ⟨b', o', none⟩) l') (hcap : l'.length ≤ c') (hr' : Right X' Y' Wn' Hn' l') (hok : cmOk X Y Wn Hn X' Y' Wn' Hn' = true) (hcm : cmR X Y Wn Hn X' Y' Wn' Hn' = reg cx cy cw ch)
    (hw : 1 ≤ cw) (hh : 1 ≤ ch) (a1 : X ≤ cx) (a2 : cx + cw ≤ X + Wn) (a3 : Y ≤ cy) (a4 : cy + ch ≤ Y + Hn) (b1 : X' ≤ cx) (b2 : cx + cw ≤ X' + Wn') (b3 : Y' ≤ cy) (b4 : cy + ch ≤ Y' + Hn') :
    Calls Try.prog 31 #[fldV X Y Wn Hn (some ⟨b, o, none⟩) l.length c, fldV X' Y' Wn' Hn' (some ⟨b', o', none⟩) l'.length c'] w fun e w' => OpP 0 X Y Wn Hn (pasL l l' X Y Wn Hn X' Y' Wn' cx cy cw ch) w e w' := by
  have r1 := hr.w1; have r2 := hr.w2; have r3 := hr.h1; have r4 := hr.h2; have r5 := hr.x1; have r6 := hr.x2; have r7 := hr.y1; have r8 := hr.y2
  have s1 := hr'.w1; have s2 := hr'.w2; have s3 := hr'.h1; have s4 := hr'.h2; have s5 := hr'.x1; have s6 := hr'.x2; have s7 := hr'.y1; have s8 := hr'.y2
  have CW := Lib.hid (ck_world2 w X Y Wn Hn b o c l X' Y' Wn' Hn' b' o' c' l' hl hl' hr hr')
  have KC := Lib.hid (fun w => common1 X Y Wn Hn X' Y' Wn' Hn' w (by omega) (by omega) (by omega) (by omega) (by omega) (by omega) (by omega) (by omega) (by omega) (by omega) (by omega) (by omega) (by omega) (by omega) (by omega) (by omega))
  rw [hok, hcm] at KC
  have KP := Lib.hid (fun w hl => copy_any X Y Wn Hn b o c l w hl hr.ne)
  have KS := Lib.hid (fun j hj => pasL_step l l' X Y Wn Hn X' Y' Wn' Hn' cx cy cw ch j hr'.len hj a1 a2 a3 a4 b1 b2 b3 b4)
  have KZ := Lib.hid (pasL_zero l l' X Y Wn Hn X' Y' Wn' cx cy cw r1 hr.len)
  have KN := Lib.hid (fun j => pasL_len l l' X Y Wn Hn X' Y' Wn' cx cy cw j)
  have KB : Hid (∀ j, j < ch → (rowAt X Y Wn cx cy j : Int) = (cy + j - Y) * Wn + cx - X ∧ 0 ≤ (cy + j - Y) * Wn ∧ (cy + j - Y) * Wn ≤ 262144 ∧ (rowAt X' Y' Wn' cx cy j : Int) = (cy + j - Y') * Wn' + cx - X' ∧ 0 ≤ (cy + j - Y') * Wn' ∧ (cy + j - Y') * Wn' ≤ 262144) := by
    intro j hj
    obtain ⟨q, hq⟩ : ∃ q : Nat, (q : Int) = cy + j - Y := ⟨(cy + j - Y).toNat, by omega⟩
    obtain ⟨q', hq'⟩ : ∃ q' : Nat, (q' : Int) = cy + j - Y' := ⟨(cy + j - Y').toNat, by omega⟩
    have h5 : q * Wn ≤ 512 * 512 := Nat.mul_le_mul (by omega) (by omega)
    have h6 : q' * Wn' ≤ 512 * 512 := Nat.mul_le_mul (by omega) (by omega)
    unfold rowAt
    rw [← hq, ← hq', ← Int.natCast_mul, ← Int.natCast_mul]
    omega
  have HHW : Hn * Wn ≤ 262144 := Nat.mul_le_mul r4 r2
  have hln : l.length = Hn * Wn := hr.len
  have hll' : l'.length ≤ 262144 := by have := Nat.mul_le_mul s4 s2; rw [hr'.len]; omega
  have bl : b' < w.heap.size := bl_blt0 hl' (bl_pos0 hr')
  have HL := Lib.hid hl
  have HL' := Lib.hid hl'
  have HLN := Lib.hid hln
  clear hl hr hl' hr' hok hcm r3 r4 s3 s4 hln
  go_enter Try.func31, Try.ntmps31
  go_wp2_with fail
  generalize hW0 : (((w.alloc (.cells #[.int .i64 X, .int .i64 Y, .int .i64 Wn, .int .i64 Hn, .slice (some ⟨b, o, none⟩) l.length c] 36)).alloc (.cells #[.int .i64 X', .int .i64 Y', .int .i64 Wn', .int .i64 Hn', .slice (some ⟨b', o', none⟩) l'.length c'] 36)).alloc (.cells #[.int .i64 0, .int .i64 0, .int .i64 0, .int .i64 0, .slice none 0 0] 36)).alloc (.cells #[.int .i64 X, .int .i64 Y, .int .i64 Wn, .int .i64 Hn, .slice (some ⟨b, o, none⟩) l.length c, .int .i64 X', .int .i64 Y', .int .i64 Wn', .int .i64 Hn', .slice (some ⟨b', o', none⟩) l'.length c'] 36) = W0
  obtain ⟨E0, P0, F0, B0, z0, hfl⟩ := CW.out W0 hW0.symm
  clear hW0 CW
  refine (checkall_any _ 0 2 2 _ z0 (by omega) hfl).mono ?_
  rintro e w1 ⟨rfl, b1⟩
  have HE1 := Lib.hid (E0.below b1 E0.lt)
  have HP1 := Lib.hid (P0.below b1 P0.lt)
  have HF1 := Lib.hid (F0.below b1 F0.lt)
  have HB1 := Lib.hid (B0.trans (b1.mono B0.size))
  clear E0 P0 F0 B0 z0 hfl b1
  obtain ⟨f0, f1, f2, f3, f4⟩ := HE1.out.cells
  obtain ⟨g0, g1, g2, g3, g4⟩ := HP1.out.cells
  have l2 : w.heap.size + 1 + 1 < w1.heap.size := HF1.out.lt
  have l1 : w.heap.size + 1 < w1.heap.size := by omega
  have l0 : w.heap.size < w1.heap.size := by omega
  go_wp2_with fail
  refine (KC.out _).mono ?_
  rintro e w2 ⟨rfl, b2⟩
  have HE2 := Lib.hid (HE1.out.below b2 HE1.out.lt)
  have HP2 := Lib.hid (HP1.out.below b2 HP1.out.lt)
  have HF2 := Lib.hid (HF1.out.below b2 HF1.out.lt)
  have HB2 := Lib.hid (HB1.out.trans (b2.mono HB1.out.size))
  clear b2 f0 f1 f2 f3 f4 g0 g1 g2 g3 g4 l0 l1 l2 HE1 HP1 HF1 HB1 KC
  obtain ⟨f0, f1, f2, f3, f4⟩ := HE2.out.cells
  have l0 := HE2.out.lt
  have hre := Reg.new w2 cx cy cw ch
  have bb : Below w2.heap.size w2 (w2.alloc (.cells #[.int .i64 cx, .int .i64 cy, .int .i64 (cw : Int), .int .i64 (ch : Int)] 23)) := (by repeat (first | with_reducible exact Below.refl _ _ | with_reducible apply Below.drew | with_reducible refine below_drewN ?_ _ | (with_reducible refine Below.setCell ?_ ?_ _; rotate_left; focus (first | omega | (simp <;> omega))) | (with_reducible refine Below.alloc ?_ ?_ _; rotate_left; focus (first | omega | (simp <;> omega)))))
  have HRE := Lib.hid hre
  have HBB := Lib.hid bb
  clear hre bb
  go_wp2_with fail
  refine (KP.out _ ((HL.out.below HB2.out).below HBB.out)).mono ?_
  rintro e w3 ⟨g, cap, rfl, o3, b3⟩
  have hB3 := HBB.out.trans (b3.mono HBB.out.size)
  have HE3 := Lib.hid (HE2.out.below hB3 HE2.out.lt)
  have HP3 := Lib.hid (HP2.out.below hB3 HP2.out.lt)
  have HF3 := Lib.hid (HF2.out.below hB3 HF2.out.lt)
  have HR3 := Lib.hid (HRE.out.below b3 HRE.out.lt)
  have hg1 : Hid (w2.heap.size < g) := by have := o3.lt.1; unfold Hid; simp at this; omega
  have HB3 := Lib.hid (HB2.out.trans (hB3.mono HB2.out.size))
  have hk7 : Hid (w.heap.size + 1 + 1 < w2.heap.size) := HF2.out.lt
  have HO3 := Lib.hid (o3.base (B' := w.heap.size) (by have := HB2.out.size; simp; omega))
  clear b3 hB3 o3 HE2 HP2 HF2 HRE HBB HB2 f0 f1 f2 f3 f4 l0 KP
  go_upto_region 8 with fail
  have bb4 : Below w3.heap.size w3 (w3.alloc (.cells #[.int .i64 X, .int .i64 Y, .int .i64 Wn, .int .i64 Hn, .slice (some ⟨g, 0, none⟩) l.length cap] 36)) := (by repeat (first | with_reducible exact Below.refl _ _ | with_reducible apply Below.drew | with_reducible refine below_drewN ?_ _ | (with_reducible refine Below.setCell ?_ ?_ _; rotate_left; focus (first | omega | (simp <;> omega))) | (with_reducible refine Below.alloc ?_ ?_ _; rotate_left; focus (first | omega | (simp <;> omega)))))
  have I0 : Hid (PasInv w (w3.alloc (.cells #[.int .i64 X, .int .i64 Y, .int .i64 Wn, .int .i64 Hn, .slice (some ⟨g, 0, none⟩) l.length cap] 36)) X Y Wn Hn (.slice (some ⟨b, o, none⟩) l.length c) X' Y' Wn' Hn' b' o' c' l' w2.heap.size w3.heap.size cx cy cw ch g cap (pasL l l' X Y Wn Hn X' Y' Wn' cx cy cw 0)) := by
    rw [KZ.out]
    exact ⟨HE3.out.below bb4 HE3.out.lt, HP3.out.below bb4 HP3.out.lt, HF3.out.below bb4 HF3.out.lt, HR3.out.below bb4 HR3.out.lt, Fld.new _ _ _ _ _ _, (HL'.out.below HB3.out).below bb4, HO3.out.below bb4 HO3.out.lt.2, HB3.out.trans (bb4.mono HB3.out.size), bl, hk7.out, hg1.out, HO3.out.lt.2⟩
  clear bb4 HE3 HP3 HF3 HR3 HB3 HO3 hk7 hg1 HL HL' KZ HLN
  generalize w3.alloc (.cells #[.int .i64 X, .int .i64 Y, .int .i64 Wn, .int .i64 Hn, .slice (some ⟨g, 0, none⟩) l.length cap] 36) = W4 at *
  generalize w2.heap.size = k7 at *
  generalize w3.heap.size = k9 at *
  generalize l.length = nl at *
  obtain ⟨p0, p1, p2, p3⟩ := I0.out.rg.cells
  have lr := I0.out.rg.lt
  go_wp2_with fail
  clear p0 p1 p2 p3 lr
  go_loopw [10, 11, 12] (fun vy _ _ wr => ∃ j : Nat, j ≤ ch ∧ vy = .int .i64 (cy + j) ∧ PasInv w wr X Y Wn Hn (.slice (some ⟨b, o, none⟩) nl c) X' Y' Wn' Hn' b' o' c' l' k7 k9 cx cy cw ch g cap (pasL l l' X Y Wn Hn X' Y' Wn' cx cy cw j)) (fun vy _ _ _ => (cy + ch - intOf vy).toNat)
  case atStart => exact ⟨0, by omega, by simp, I0.out⟩
  case round =>
    clear I0
    obtain ⟨j, hj, rfl, I⟩ := hrel
    have IH := Lib.hid I
    obtain ⟨p0, p1, p2, p3⟩ := I.rg.cells
    have lr := I.rg.lt
    have l7 := I.k7l
    by_cases hlt : j < ch
    · have q1 : (cy + j : Int) < cy + ch := by omega
      obtain ⟨f0, f1, f2, f3, f4⟩ := I.ef.cells
      obtain ⟨g0, g1, g2, g3, g4⟩ := I.eg.cells
      obtain ⟨h0, h1, h2, h3, h4⟩ := I.eo.cells
      have lf := I.ef.lt
      have lg := I.eg.lt
      have lo := I.eo.lt
      have bl' := I.bl
      have zb := I.below.size
      have kk1 := I.k7g
      have kk2 := I.k9g
      have hyl : ((l'.drop (rowAt X' Y' Wn' cx cy j)).take cw).length = cw := by
        have := (KS.out j hlt).2.2
        rw [List.length_take, List.length_drop]; omega
      have HML := Lib.hid (KN.out j)
      rw [HML.out] at h4
      obtain ⟨KS1, KS2, KS3⟩ := KS.out j hlt
      have HS := Lib.hid KS1
      obtain ⟨e1, e2, e3, e4, e5, e6⟩ := KB.out j hlt
      obtain ⟨cur, hcur, hc1, hc2, hc3⟩ := I.own.cur
      have HCU := Lib.hid hcur
      have HC1 := Lib.hid hc1
      have HC2 := Lib.hid hc2
      have HC3 := Lib.hid hc3
      have hcapg : Hn * Wn ≤ cap := by rw [HML.out] at hc1; omega
      have hsrc : Hid (∀ jj u, (fls ((l'.drop (rowAt X' Y' Wn' cx cy j)).take cw))[jj]? = some u → wr.cell? ((⟨b', o' + rowAt X' Y' Wn' cx cy j, none⟩ : Addr).add jj) = some u) := by
        intro jj u hu
        have hjj : jj < cw := by
          rcases Nat.lt_or_ge jj cw with h | h
          · exact h
          · rw [List.getElem?_eq_none (by unfold fls; rw [List.length_map, hyl]; exact h)] at hu; cases hu
        unfold fls at hu
        rw [List.getElem?_map, List.getElem?_take, if_pos hjj, List.getElem?_drop, List.getElem?_eq_getElem (by omega)] at hu
        have hcell := IH.out.hl.at_ (k := rowAt X' Y' Wn' cx cy j + jj) (by omega)
        rw [List.getD_eq_getElem?_getD, List.getElem?_eq_getElem (by omega)] at hcell
        rw [Go.WideShapes.add_plain, Nat.add_assoc, hcell]
        exact hu
      have HY : Hid (∀ y ∈ (l'.drop (rowAt X' Y' Wn' cx cy j)).take cw, y < 4294967296) := fun y hy => IH.out.hl.1.2 y (List.mem_of_mem_drop (List.mem_of_mem_take hy))
      have HYL := Lib.hid hyl
      clear I hyl hcur hc1 hc2 hc3 KS1
      generalize (l'.drop (rowAt X' Y' Wn' cx cy j)).take cw = ys at *
      generalize rowAt X Y Wn cx cy j = ta at *
      generalize rowAt X' Y' Wn' cx cy j = fr at *
      have t1 : IntKind.i64.wrap (cy + (j : Int) - Y) = cy + j - Y := IntWalk.i64_in _ (by omega)
      have t2 : IntKind.i64.wrap ((cy + (j : Int) - Y) * Wn) = (cy + j - Y) * Wn := IntWalk.i64_in _ (by omega)
      have t3 : IntKind.i64.wrap ((cy + (j : Int) - Y) * Wn + cx) = (cy + j - Y) * Wn + cx := IntWalk.i64_in _ (by omega)
      have t4 : IntKind.i64.wrap ((cy + (j : Int) - Y) * Wn + cx - X) = (ta : Int) := by rw [IntWalk.i64_in _ (by omega)]; exact e1.symm
      have t5 : IntKind.i64.wrap (cy + (j : Int) - Y') = cy + j - Y' := IntWalk.i64_in _ (by omega)
      have t6 : IntKind.i64.wrap ((cy + (j : Int) - Y') * Wn') = (cy + j - Y') * Wn' := IntWalk.i64_in _ (by omega)
      have t7 : IntKind.i64.wrap ((cy + (j : Int) - Y') * Wn' + cx) = (cy + j - Y') * Wn' + cx := IntWalk.i64_in _ (by omega)
      have t8 : IntKind.i64.wrap ((cy + (j : Int) - Y') * Wn' + cx - X') = (fr : Int) := by rw [IntWalk.i64_in _ (by omega)]; exact e4.symm
      clear e1 e2 e3 e4 e5 e6
      go_wp2_with fail
      go_quiet (fail)
      clear t1 t2 t3 t4 t5 t6 t7 t8
      go_wp2_with fail
      have s1' : IntKind.i64.wrap ((ta : Int) + (cw : Int)) = (ta : Int) + cw := IntWalk.i64_in _ (by omega)
      have s2' : ((ta : Int) + (cw : Int)).toNat = ta + cw := by omega
      have s3' : (0 : Int) ≤ (ta : Int) + cw := by omega
      have s4' : (ta : Int) + cw ≤ cap := by omega
      have s5' : (ta : Int) ≤ (ta : Int) + cw := by omega
      have s6' : ¬ cap = ta := by omega
      have v1 : IntKind.i64.wrap ((fr : Int) + (cw : Int)) = (fr : Int) + cw := IntWalk.i64_in _ (by omega)
      have v2 : ((fr : Int) + (cw : Int)).toNat = fr + cw := by omega
      have v3 : (0 : Int) ≤ (fr : Int) + cw := by omega
      have v4 : (fr : Int) + cw ≤ c' := by omega
      have v5 : (fr : Int) ≤ (fr : Int) + cw := by omega
      have v6 : ¬ c' = fr := by omega
      have G1 : Hid ((fls ys).length = Nat.min cw cw) := by unfold Hid fls; rw [List.length_map, HYL.out]; exact (Nat.min_self cw).symm
      have G2 : Hid (ta + (fls ys).length ≤ cur.length) := by
        have := HC3.out
        unfold Hid fls; rw [List.length_map, HYL.out]; omega
      have G3 : Hid (ta + ys.length ≤ (pasL l l' X Y Wn Hn X' Y' Wn' cx cy cw j).length) := by unfold Hid; rw [HML.out, HYL.out]; exact KS2
      go_region_held3 (fun w' => w'.cell? ⟨k9, 4, none⟩ = some (.slice (some ⟨g, 0, none⟩) (Hn * Wn) cap) ∧ w'.cell? ⟨k7, 2, none⟩ = some (.int .i64 (cw : Int)) ∧ w'.cell? ⟨w.heap.size + 1, 4, none⟩ = some (.slice (some ⟨b', o', none⟩) l'.length c'))
        (first | exact ⟨h4, p2, g4⟩ | exact ⟨(hb4.cell (p := ⟨k9, 4, none⟩) lo (by show ¬ k9 = g; omega)).trans h4, (hb4.cell (p := ⟨k7, 2, none⟩) lr (by show ¬ k7 = g; omega)).trans p2, (hb4.cell (p := ⟨w.heap.size + 1, 4, none⟩) lg (by show ¬ w.heap.size + 1 = g; omega)).trans g4⟩)
        (first | (refine step_copy_but rfl _ _ 34 34 rfl 37 Try.underlying34 infoSz2 g ta cw (cap - ta) ⟨b', o' + fr, none⟩ cw (c' - fr) rfl rfl cur 37 HCU.out (fls ys) G1.out hsrc.out G2.out (fls_one2 _) ?_; intro w4 hg4 hb4))
      rename_i hHeld
      clear hHeld
      have hb5 : But wr.heap.size (fun j => j = g) wr w4 := (But.of (show Below wr.heap.size wr (wr.drewN nq).drew from (by repeat (first | with_reducible exact Below.refl _ _ | with_reducible apply Below.drew | with_reducible refine below_drewN ?_ _ | (with_reducible refine Below.setCell ?_ ?_ _; rotate_left; focus (first | omega | (simp <;> omega))) | (with_reducible refine Below.alloc ?_ ?_ _; rotate_left; focus (first | omega | (simp <;> omega))))))).trans hb4
      have M4 := Lib.hid (IH.out.copy HC2.out HC3.out HC1.out G3.out HY.out hg4.out hb5)
      clear hb4 hb5 hg4 s1' s2' s3' s4' s5' s6' v1 v2 v3 v4 v5 v6 f0 f1 f2 f3 f4 g0 g1 g2 g3 g4 h0 h1 h2 h3 h4 p0 p1 p2 p3
      go_wp2_with fail
      go_roundw
      case rel => exact ⟨j + 1, by omega, by go_num, HS.out ▸ M4.out⟩
      case measure => simp [intOf]; omega
    · have hje : j = ch := by omega
      have HO := Lib.hid I.own
      have kk1 := I.k7g
      have kk2 := I.k9g
      have HB := Lib.hid I.below
      have zb := I.below.size
      obtain ⟨h0, h1, h2, h3, h4⟩ := I.eo.cells
      have lo := I.eo.lt
      have HZ := Lib.hid I.ez
      obtain ⟨d0, d1, d2, d3, d4⟩ := HZ.out.cells
      have qf0 := HZ.out.frozen 0
      have qf1 := HZ.out.frozen 1
      have qf2 := HZ.out.frozen 2
      have qf3 := HZ.out.frozen 3
      have qf4 := HZ.out.frozen 4
      have lz := HZ.out.lt
      clear I IH
      subst hje
      generalize hSS : pasL l l' X Y Wn Hn X' Y' Wn' cx cy cw j = S at *
      have HSS := Lib.hid hSS
      clear hSS
      go_wp2_with fail
      generalize hW5 : ((((wr.setCell ⟨w.heap.size + 1 + 1, 0, none⟩ (.int .i64 X)).setCell ⟨w.heap.size + 1 + 1, 1, none⟩ (.int .i64 Y)).setCell ⟨w.heap.size + 1 + 1, 2, none⟩ (.int .i64 (Wn : Int))).setCell ⟨w.heap.size + 1 + 1, 3, none⟩ (.int .i64 (Hn : Int))).setCell ⟨w.heap.size + 1 + 1, 4, none⟩ (.slice (some ⟨g, 0, none⟩) S.length cap) = W5 at *
      obtain ⟨f5, bb5, oo5, _, z5⟩ := fld_store wr (w.heap.size + 1 + 1) 0 0 0 0 _ X Y Wn Hn (.slice (some ⟨g, 0, none⟩) S.length cap) HZ.out W5 hW5.symm
      have hO5 := oo5 _ _ _ _ HO.out (by omega)
      have hB5 := HB.out.trans (bb5.mono (by omega))
      clear d0 d1 d2 d3 d4 qf0 qf1 qf2 qf3 qf4 hW5 oo5
      obtain ⟨d0, d1, d2, d3, d4⟩ := f5.cells
      obtain rfl := HSS.out
      exact bodyPost_ret (v := .tuple #[fldV X Y Wn Hn (some ⟨g, 0, none⟩) (pasL l l' X Y Wn Hn X' Y' Wn' cx cy cw j).length cap, .int .i64 0]) (by simp [results, Try.results31, go_sem, *]) rfl ⟨⟨X, Y, Wn, Hn, _, _, cap, rfl, .inr ⟨rfl, rfl, rfl, rfl, rfl, g, rfl, rfl, hO5⟩⟩, hB5⟩
end Go.Proofs.Ytnfebeebjelgbaa
