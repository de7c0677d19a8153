import Derived.Test.YtiiogjjjgoeghaaG12
import Derived.IntWalk
import Derived.BigQuiet
import Derived.BigRegion
import Derived.StillTailTactics
import Derived.Deep.QuietTactic
import Derived.Deep.RegionHeld3
import Derived.Deep.RegionWith
import Derived.Deep.CutBlock
import Derived.Deep.DeepCutAuto
namespace Go.Proofs.Ytiiogjjjgoeghaa
open Go.ChangeShapes Go.WideShapes Go.ChangeAt Go.RowKit
open Ieee.Format (fin finE htE allFin allHt all_true all_false mulF subF addF Ht Bd divF rootF floorF easeF mixF)
set_option linter.unusedVariables false
set_option linter.unusedSimpArgs false
open Ieee.Format (num fin_num Ry Bx stF upB Mn crB crI crO cr_tm cr_num hgF hg_bd lvN lvN_lt ed ed_prog ed_two ed_last ed_mono ed_le Rc Tm)

set_option maxRecDepth 100000 in
set_option maxHeartbeats 8000000 in
theorem look_step (X Y : Int) (Wn Hn K q b o c g gst gS N cB cT cS L x y n : Nat) (l : List Nat) (r : Ry) (S : Option (Nat × Nat)) (P : Nat → Prop) (w : World) (hc : l.length ≤ c) (hr : Right X Y Wn Hn l) (hry : r.ok) (hK : Top Wn Hn K) (hN : N = offB Wn Hn (K + 1))
    (hw : LkW w q b o g gst gS l Wn Hn K) (hs : Sh w q X Y Wn Hn (.slice (some ⟨b, o, none⟩) l.length c) r S n) (hL : L ≤ K) (hx : x < lvN Wn L) (hy : y < lvN Hn L) (hP : ∀ k, P k → k < l.length) (hm : Mn (stO r X Y Wn l) P S) (hn : n + nB Wn Hn L x y ≤ 1000000)
    (ih : 0 < L → ∀ x' y' S' n' (P' : Nat → Prop) W, LkW W q b o g gst gS l Wn Hn K → Sh W q X Y Wn Hn (.slice (some ⟨b, o, none⟩) l.length c) r S' n' → x' < lvN Wn (L - 1) → y' < lvN Hn (L - 1) → (∀ k, P' k → k < l.length) → Mn (stO r X Y Wn l) P' S' → n' + nB Wn Hn (L - 1) x' y' ≤ 1000000 →
      Calls Try.prog 23 #[.pointer (some ⟨q, 0, none⟩), .slice (some ⟨g, 0, none⟩) N cB, .slice (some ⟨gst, 0, none⟩) (K + 1) cT, .slice (some ⟨gS, 0, none⟩) (K + 1) cS, .int .i64 ((L - 1 : Nat) : Int), .int .i64 (x' : Int), .int .i64 (y' : Int)] W fun e w' => LkP q X Y Wn Hn (L - 1) x' y' (.slice (some ⟨b, o, none⟩) l.length c) r l P' n' W e w') :
    Calls Try.prog 23 #[.pointer (some ⟨q, 0, none⟩), .slice (some ⟨g, 0, none⟩) N cB, .slice (some ⟨gst, 0, none⟩) (K + 1) cT, .slice (some ⟨gS, 0, none⟩) (K + 1) cS, .int .i64 (L : Int), .int .i64 (x : Int), .int .i64 (y : Int)] w fun e w' => LkP q X Y Wn Hn L x y (.slice (some ⟨b, o, none⟩) l.length c) r l P n w e w' := by
  have hw1 := hr.w1; have hw2 := hr.w2; have hh1 := hr.h1; have hh2 := hr.h2
  have x1 := hr.x1; have x2 := hr.x2; have y1 := hr.y1; have y2 := hr.y2
  have hK9 := hK.le hw2 hh2
  have hxw := lvN_lt hw1 L x hx
  have hyh := lvN_lt hh1 L y hy
  obtain ⟨ex1, ex2, ex3⟩ := ed_prog hw1 hx
  obtain ⟨ey1, ey2, ey3⟩ := ed_prog hh1 hy
  have KC := Lib.hid (fun lo hi W => cells_any X Y Wn Hn L x y lo hi W (by omega) hxw hyh hw2 hh2)
  have hnW := lvN_bound hw2 L
  have hnH := lvN_bound hh2 L
  have hoff := offB_le hw1 hh1 hr.wh L
  have cst : w.cell? ⟨gst, L, none⟩ = some (.int .i64 (offB Wn Hn L : Int)) := hw.st.2 _ _ (stL_get (by omega))
  have csz : w.cell? ⟨gS, L * 2, none⟩ = some (.int .i64 (lvN Wn L : Int)) := hw.sz.2 _ _ (szs_get Wn Hn (K + 1) L (by omega)).1
  have hget := alB_get l Wn Hn (K + 1) L y x
  have hyw : y * lvN Wn L ≤ 262144 := Nat.le_trans (Nat.mul_le_mul (show y ≤ 512 by omega) hnW) (by omega)
  have hI : offB Wn Hn L + y * lvN Wn L + x < N := by
    have h1 := offB_mono Wn Hn (show L + 1 ≤ K + 1 by omega)
    have h2 : offB Wn Hn (L + 1) = offB Wn Hn L + lvN Wn L * lvN Hn L := rfl
    have h3 := Nat.mul_le_mul_right (lvN Wn L) (show y + 1 ≤ lvN Hn L by omega)
    rw [Nat.add_mul, Nat.one_mul, Nat.mul_comm (lvN Hn L)] at h3
    omega
  have eW : ((y * lvN Wn L : Nat) : Int) = (y : Int) * (lvN Wn L : Int) := Int.natCast_mul _ _
  have HLO : Hid (Ht (loP (bxC l Wn Hn L x y)) ∧ Ht (hiP (bxC l Wn Hn L x y))) := by
    have h0 : 0 < (bxC l Wn Hn L x y).length := by
      rw [bxC_len]
      have p1 : 0 < 2 ^ L := Nat.pow_pos (by omega)
      exact Nat.mul_pos (by omega) (by omega)
    exact ⟨cutL_mem (loP_mem h0) hr.ht, cutL_mem (hiP_mem h0) hr.ht⟩
  have q0 := hw.bx.2 _ _ (hget 0 (by omega) hy hx (by omega))
  have q1 := hw.bx.2 _ _ (hget 1 (by omega) hy hx (by omega))
  have q2 := hw.bx.2 _ _ (hget 2 (by omega) hy hx (by omega))
  have q3 := hw.bx.2 _ _ (hget 3 (by omega) hy hx (by omega))
  have q4 := hw.bx.2 _ _ (hget 4 (by omega) hy hx (by omega))
  have lq := hs.lt
  have lg := hw.bx.1
  have lt := hw.st.1
  have ls := hw.sz.1
  have HS := Lib.hid hs
  have HW := Lib.hid hw
  have HM := Lib.hid hm
  have HPL := Lib.hid hP
  have HR := Lib.hid hr
  have HRY := Lib.hid hry
  have HIH := Lib.hid ih
  have HX := Lib.hid (fun z (hz : z = L) => show x < lvN Wn z from hz ▸ hx)
  have HY := Lib.hid (fun z (hz : z = L) => show y < lvN Hn z from hz ▸ hy)
  have HXW := Lib.hid hxw
  have HYH := Lib.hid hyh
  clear hs hw hm hP hr hry ih hget hK
  have HRB : Hid (Rb Wn Hn L x y = Rc Wn (x * 2 ^ L) (x * 2 ^ L + min (2 ^ L) (Wn - x * 2 ^ L)) (y * 2 ^ L) (y * 2 ^ L + min (2 ^ L) (Hn - y * 2 ^ L))) := by
    unfold Hid Rb
    rw [ex1, ex2, ey1, ey2]
  have HBAD : Hid (bad r (bxR X Y (x * 2 ^ L) (y * 2 ^ L) (min (2 ^ L) (Wn - x * 2 ^ L)) (min (2 ^ L) (Hn - y * 2 ^ L))) (hiP (bxC l Wn Hn L x y)) S → Mn (stO r X Y Wn l) (fun k => P k ∨ Rb Wn Hn L x y k) S) := by
    intro hb
    rw [HRB.out]
    exact bad_skip HRY.out HR.out HXW.out HYH.out HM.out hb
  have HDK : Hid ((bxR X Y (x * 2 ^ L) (y * 2 ^ L) (min (2 ^ L) (Wn - x * 2 ^ L)) (min (2 ^ L) (Hn - y * 2 ^ L))).ok) := Lib.hid (bxR_ok HR.out (by omega) (by omega))
  have HDV := Lib.hid (bxV_bxR X Y (x * 2 ^ L) (y * 2 ^ L) (min (2 ^ L) (Wn - x * 2 ^ L)) (min (2 ^ L) (Hn - y * 2 ^ L)))
  have lsx : x * 2 ^ L ≤ 512 := by omega
  have lsy : y * 2 ^ L ≤ 512 := by omega
  have lA : min (2 ^ L) (Wn - x * 2 ^ L) ≤ 512 := by omega
  have lA2 : min (2 ^ L) (Hn - y * 2 ^ L) ≤ 512 := by omega
  have lx5 : x ≤ 512 := by omega
  have ly5 : y ≤ 512 := by omega
  have hoN : offB Wn Hn L ≤ 1000000 := by omega
  have HNN := Lib.hid hN
  have HHN : Hid (N ≤ 1000000) := by have := offB_le hw1 hh1 HR.out.wh (K + 1); unfold Hid; omega
  clear ex1 ex2 ex3 ey1 ey2 ey3 hxw hyh hx hy hN hoff
  generalize bxC l Wn Hn L x y = C at *
  generalize loP C = lo at *
  generalize hiP C = hi at *
  generalize min (2 ^ L) (Wn - x * 2 ^ L) = A at *
  generalize min (2 ^ L) (Hn - y * 2 ^ L) = A2 at *
  generalize x * 2 ^ L = sx at *
  generalize y * 2 ^ L = sy at *
  have KC2 := Lib.hid (KC.out lo hi)
  have KX := Lib.hid (fun W => crossing_any r (bxR X Y sx sy A A2) W HRY.out HDK.out)
  generalize offB Wn Hn L = off at *
  generalize lvN Wn L = nW at *
  obtain ⟨m, hm⟩ : ∃ m, m = y * nW := ⟨_, rfl⟩
  rw [← hm] at hyw hI eW q0 q1 q2 q3 q4
  have e1 : (y : Int) * (nW : Int) = (m : Int) := eW.symm
  have e2 : IntKind.i64.wrap ((y : Int) * (nW : Int)) = (m : Int) := by rw [e1]; exact IntWalk.i64_in _ (by omega)
  clear hm eW KC
  obtain ⟨om, hom⟩ : ∃ om, om = off + m := ⟨_, rfl⟩
  rw [← hom] at hI q0 q1 q2 q3 q4
  have e3 : IntKind.i64.wrap ((off : Int) + (m : Int)) = (om : Int) := by rw [IntWalk.i64_in _ (by omega)]; omega
  have e4 : (off : Int) + (m : Int) = (om : Int) := by omega
  have lom : om ≤ 1300000 := by omega
  clear hom
  obtain ⟨I, hII⟩ : ∃ I, I = om + x := ⟨_, rfl⟩
  rw [← hII] at hI q0 q1 q2 q3 q4
  have e5 : IntKind.i64.wrap ((om : Int) + (x : Int)) = (I : Int) := by rw [IntWalk.i64_in _ (by omega)]; omega
  have e6 : (om : Int) + (x : Int) = (I : Int) := by omega
  have lI : I ≤ 1300000 := by omega
  have hI2 : (I : Int) < (N : Int) := by omega
  have hL2 : (L : Int) < (K : Int) + 1 := by omega
  rw [Nat.add_zero] at q0
  clear hII hyw hnW hoN lom
  go_enter Try.func23, Try.ntmps23
  go_wp2_with fail
  go_region
  have B1 : Below w.heap.size w (w.alloc (.cells (boxL L x y lo hi) 53)).drew := ((Below.refl _ _).alloc (Nat.le_refl _) _).drew
  have P1 : Blk (w.alloc (.cells (boxL L x y lo hi) 53)).drew w.heap.size (boxL L x y lo hi) 53 := (Blk.new _ _ _).drew
  have S1 : Sh (w.alloc (.cells (boxL L x y lo hi) 53)).drew q X Y Wn Hn (.slice (some ⟨b, o, none⟩) l.length c) r S n := (Blk.alloc HS.out _).drew
  have hqk : q ≠ w.heap.size := by omega
  clear cst csz q0 q1 q2 q3 q4 HS e1 e2 e3 e4 e5 e6 lI hI2 hI lg lt ls
  generalize (w.alloc (.cells (boxL L x y lo hi) 53)).drew = W1 at *
  have s0 : W1.cell? ⟨q, 0, none⟩ = some (.int .i64 X) := S1.cell 0
  have s1 : W1.cell? ⟨q, 1, none⟩ = some (.int .i64 Y) := S1.cell 1
  have s2 : W1.cell? ⟨q, 2, none⟩ = some (.int .i64 Wn) := S1.cell 2
  have s3 : W1.cell? ⟨q, 3, none⟩ = some (.int .i64 Hn) := S1.cell 3
  have p0 : W1.cell? ⟨w.heap.size, 0, none⟩ = some (.int .i64 (L : Int)) := P1.cell 0
  have p1 : W1.cell? ⟨w.heap.size, 1, none⟩ = some (.int .i64 (x : Int)) := P1.cell 1
  have p2 : W1.cell? ⟨w.heap.size, 2, none⟩ = some (.int .i64 (y : Int)) := P1.cell 2
  have p3 : W1.cell? ⟨w.heap.size, 3, none⟩ = some (.float .f32 lo) := P1.cell 3
  have p4 : W1.cell? ⟨w.heap.size, 4, none⟩ = some (.float .f32 hi) := P1.cell 4
  have lq1 := S1.lt
  have lp1 := P1.lt
  have HS1 := Lib.hid S1
  have HP1 := Lib.hid P1
  have HB1 := Lib.hid B1
  clear S1 P1 B1
  go_wp2_with fail
  go_cut [15] (fun v wx => ∃ kc : Nat, v = .pointer (some ⟨kc, 0, none⟩) ∧ Reg wx kc (sx : Int) (sy : Int) (A : Int) (A2 : Int) ∧ W1.heap.size ≤ kc ∧ Below W1.heap.size W1 wx)
  case first =>
    --[[F1
    go_region_with (go_at_call 18; refine (KC2.out _).mono ?_; rintro e2 w5 ⟨rfl, hb⟩; try (with_reducible have hz5 := Lib.hid (((Reg.new W1 0 0 0 0).drew).below hb (by simp)); obtain ⟨z1, z2, z3, z4, z5, z6, z7, z8, z9⟩ := zreg hz5.out))
    all_goals
      go_wp2_with fail
      go_meet
      first
        | exact ⟨_, rfl, reg_stored4 hz5.out, Nat.le_refl _, lk_first hb _ _ _ _⟩
        | exact ⟨_, rfl, Reg.new _ _ _ _ _, (lk_late hb (.cells #[] 0)).1, (lk_late hb _).2⟩
    --]]F1
  case rest =>
    obtain ⟨kc, rfl, RC, hkc, BC⟩ := hcut
    have PC := HP1.out.below BC lp1
    have SC : Sh wc q X Y Wn Hn (.slice (some ⟨b, o, none⟩) l.length c) r S n := Blk.below HS1.out BC lq1
    have HBC := Lib.hid (HB1.out.trans (BC.mono HB1.out.size))
    clear s0 s1 s2 s3 p0 p1 p2 p3 p4 KC2
    have hqc : q ≠ kc := by omega
    have hwc : w.heap.size ≠ kc := by omega
    obtain ⟨r0, r1, r2, r3⟩ := RC.cells
    have g0 := frozen_of_row wc _ 0 _ _ RC
    have g1 := frozen_of_row wc _ 1 _ _ RC
    have lc := RC.lt
    have lq2 := SC.lt
    have s0 : wc.cell? ⟨q, 0, none⟩ = some (.int .i64 X) := SC.cell 0
    have s1 : wc.cell? ⟨q, 1, none⟩ = some (.int .i64 Y) := SC.cell 1
    have i1 : IntKind.i64.wrap ((sx : Int) + X) = (sx : Int) + X := IntWalk.i64_in _ (by omega)
    have i2 : IntKind.i64.wrap ((sy : Int) + Y) = (sy : Int) + Y := IntWalk.i64_in _ (by omega)
    have HRC := Lib.hid RC
    have HPC := Lib.hid PC
    have HSC := Lib.hid SC
    have HKC := Lib.hid hkc
    have HL1 := Lib.hid (show w.heap.size < W1.heap.size from lp1)
    clear RC PC SC BC HS1 HP1 HB1 lq1 lp1 hkc lq
    go_wp2_with fail
    go_cut [] (fun wx => wx = ((wc.setCell ⟨kc, 0, none⟩ (.int .i64 ((sx : Int) + X))).setCell ⟨kc, 1, none⟩ (.int .i64 ((sy : Int) + Y))).drew)
    case first =>
      --[[F2
      as_aux_lemma =>
        go_region
        all_goals
          go_wp2_with fail
          go_meet
          exact rfl
      --]]F2
    subst hcut
    have RD : Reg ((wc.setCell ⟨kc, 0, none⟩ (.int .i64 ((sx : Int) + X))).setCell ⟨kc, 1, none⟩ (.int .i64 ((sy : Int) + Y))).drew kc ((sx : Int) + X) ((sy : Int) + Y) (A : Int) (A2 : Int) := heap_setCell_same _ kc 1 _ _ _ (heap_setCell_same _ kc 0 _ _ _ HRC.out)
    have PD : Blk ((wc.setCell ⟨kc, 0, none⟩ (.int .i64 ((sx : Int) + X))).setCell ⟨kc, 1, none⟩ (.int .i64 ((sy : Int) + Y))).drew w.heap.size (boxL L x y lo hi) 53 := ((Blk.setCell HPC.out (p := ⟨kc, 0, none⟩) hwc _).setCell (p := ⟨kc, 1, none⟩) hwc _).drew
    have SD : Sh ((wc.setCell ⟨kc, 0, none⟩ (.int .i64 ((sx : Int) + X))).setCell ⟨kc, 1, none⟩ (.int .i64 ((sy : Int) + Y))).drew q X Y Wn Hn (.slice (some ⟨b, o, none⟩) l.length c) r S n := (Blk.setCell (Blk.setCell HSC.out (p := ⟨kc, 0, none⟩) hqc _) (p := ⟨kc, 1, none⟩) hqc _).drew
    have hkw : w.heap.size ≤ kc := by have := HKC.out; have := HL1.out; omega
    have BD : Below w.heap.size w ((wc.setCell ⟨kc, 0, none⟩ (.int .i64 ((sx : Int) + X))).setCell ⟨kc, 1, none⟩ (.int .i64 ((sy : Int) + Y))).drew := ((HBC.out.setCell (p := ⟨kc, 0, none⟩) hkw _).setCell (p := ⟨kc, 1, none⟩) hkw _).drew
    clear r0 r1 r2 r3 g0 g1 lc lq2 s0 s1 i1 i2 HRC HPC HSC HBC
    generalize ((wc.setCell ⟨kc, 0, none⟩ (.int .i64 ((sx : Int) + X))).setCell ⟨kc, 1, none⟩ (.int .i64 ((sy : Int) + Y))).drew = W3 at *
    have KX2 := KX.out
    rw [HDV.out] at KX2
    obtain ⟨D, hD⟩ : ∃ D, D = bxR X Y sx sy A A2 := ⟨_, rfl⟩
    rw [← hD] at KX2 HBAD HDK
    clear hD KX HDV
    have HCN := Lib.hid (cr_num HRY.out HDK.out)
    have HCT := Lib.hid (fun h => cr_tm HRY.out HDK.out h)
    have HBD : Hid (bad r D hi S ↔ (¬ crB r D ∨ Ieee.single.V hi < Ieee.single.V (minF (hgF r (crI r D)) (hgF r (crO r D))) ∨ ∃ k0 t0, S = some (k0, t0) ∧ Ieee.single.V t0 < Ieee.single.V (crI r D))) := Lib.hid Iff.rfl
    generalize crI r D = ti at *
    generalize crO r D = tu at *
    generalize hcb : decide (crB r D) = cb at *
    have HCB : Hid (cb = true ↔ crB r D) := by unfold Hid; rw [← hcb]; exact decide_eq_true_iff
    have HKX := Lib.hid KX2
    clear hcb KX2
    have p0 : W3.cell? ⟨q, 5, none⟩ = some (.float .f32 r.X) := SD.cell 5
    have p1 : W3.cell? ⟨q, 6, none⟩ = some (.float .f32 r.Y) := SD.cell 6
    have p2 : W3.cell? ⟨q, 7, none⟩ = some (.float .f32 r.H) := SD.cell 7
    have p3 : W3.cell? ⟨q, 8, none⟩ = some (.float .f32 r.DX) := SD.cell 8
    have p4 : W3.cell? ⟨q, 9, none⟩ = some (.float .f32 r.DY) := SD.cell 9
    have p5 : W3.cell? ⟨q, 10, none⟩ = some (.float .f32 r.DH) := SD.cell 10
    have p6 : W3.cell? ⟨q, 11, none⟩ = some (.float .f32 r.Mo) := SD.cell 11
    obtain ⟨c0, c1, c2, c3⟩ := RD.cells
    have lq3 := SD.lt
    have lc3 := RD.lt
    have HPD := Lib.hid PD
    have HSD := Lib.hid SD
    have HBDw := Lib.hid BD
    clear RD PD SD BD
    go_wp2_with fail
    go_cut [16, 17, 18] (fun v16 v17 v18 wx => v16 = .float .f32 ti ∧ v17 = .float .f32 tu ∧ v18 = .bool cb ∧ Below W3.heap.size W3 wx)
    case first =>
      --[[F3
      as_aux_lemma =>
        go_region_held3 (fun w' => w'.cell? ⟨q, 5, none⟩ = some (.float .f32 r.X) ∧ w'.cell? ⟨q, 6, none⟩ = some (.float .f32 r.Y) ∧ w'.cell? ⟨q, 7, none⟩ = some (.float .f32 r.H) ∧ w'.cell? ⟨q, 8, none⟩ = some (.float .f32 r.DX) ∧ w'.cell? ⟨q, 9, none⟩ = some (.float .f32 r.DY) ∧ w'.cell? ⟨q, 10, none⟩ = some (.float .f32 r.DH) ∧ w'.cell? ⟨q, 11, none⟩ = some (.float .f32 r.Mo) ∧ w'.cell? ⟨kc, 0, none⟩ = some (.int .i64 ((sx : Int) + X)) ∧ w'.cell? ⟨kc, 1, none⟩ = some (.int .i64 ((sy : Int) + Y)) ∧ w'.cell? ⟨kc, 2, none⟩ = some (.int .i64 (A : Int)) ∧ w'.cell? ⟨kc, 3, none⟩ = some (.int .i64 (A2 : Int)) ∧ Below W3.heap.size W3 w')
          (first
            | exact ⟨p0, p1, p2, p3, p4, p5, p6, c0, c1, c2, c3, (Below.refl _ _).drew⟩
            | (go_split_ands
               have hs := hb.size
               have hs2 := (show Below W3.heap.size W3 _ by assumption).size
               refine ⟨?_, ?_, ?_, ?_, ?_, ?_, ?_, ?_, ?_, ?_, ?_, ?_⟩
               all_goals first
                 | (rw [hb.cell (by simp; omega)]; assumption)
                 | exact Below.trans (by assumption) (hb.mono (by omega)))
            | (go_split_ands; refine ⟨?_, ?_, ?_, ?_, ?_, ?_, ?_, ?_, ?_, ?_, ?_, ?_⟩ <;> assumption))
          ((go_at_call 27; go_split_ands; refine (HKX.out _).mono ?_; rintro e2 w5 ⟨rfl, hb⟩))
        rename_i hHeld
        have BW := hHeld.2.2.2.2.2.2.2.2.2.2.2
        clear hHeld
        go_wp2_with fail
        go_meet
        exact ⟨rfl, rfl, rfl, BW⟩
      --]]F3
    case rest =>
      obtain ⟨rfl, rfl, rfl, BW⟩ := hcut
      have SE : Sh wc q X Y Wn Hn (.slice (some ⟨b, o, none⟩) l.length c) r S n := Blk.below HSD.out BW lq3
      have PE := HPD.out.below BW HPD.out.lt
      have HB5 := Lib.hid (HBDw.out.trans (BW.mono HBDw.out.size))
      clear BW HPD HSD HBDw HKX p0 p1 p2 p3 p4 p5 p6 c0 c1 c2 c3 lq3 lc3
      have SF := SE
      have p0 : wc.cell? ⟨q, 5, none⟩ = some (.float .f32 r.X) := SE.cell 5
      have p1 : wc.cell? ⟨q, 6, none⟩ = some (.float .f32 r.Y) := SE.cell 6
      have p2 : wc.cell? ⟨q, 7, none⟩ = some (.float .f32 r.H) := SE.cell 7
      have p3 : wc.cell? ⟨q, 8, none⟩ = some (.float .f32 r.DX) := SE.cell 8
      have p4 : wc.cell? ⟨q, 9, none⟩ = some (.float .f32 r.DY) := SE.cell 9
      have p5 : wc.cell? ⟨q, 10, none⟩ = some (.float .f32 r.DH) := SE.cell 10
      have p6 : wc.cell? ⟨q, 11, none⟩ = some (.float .f32 r.Mo) := SE.cell 11
      have g14 : wc.cell? ⟨q, 14, none⟩ = some (.float .f32 (bT S)) := SE.cell 14
      have g16 : wc.cell? ⟨q, 16, none⟩ = some (.bool S.isSome) := SE.cell 16
      have hh4 : wc.cell? ⟨w.heap.size, 4, none⟩ = some (.float .f32 hi) := PE.cell 4
      have lq4 := SE.lt
      have lk4 := PE.lt
      have HSE := Lib.hid SE
      clear SE PE SF
      obtain ⟨bb, hbb⟩ : ∃ bb : Bool, bb = true ↔ bad r D hi S := by
        by_cases h : bad r D hi S
        · exact ⟨true, by simp [h]⟩
        · exact ⟨false, by simp [h]⟩
      have HBB := Lib.hid hbb
      clear hbb
      have HSN : Hid (∀ k0 t0, S = some (k0, t0) → num t0) := fun k0 t0 h => (mn_in HRY.out HR.out HPL.out HM.out k0 t0 h).1
      go_wp2_with fail
      go_cut [110] (fun v wx => v = .bool bb ∧ Below wc.heap.size wc wx)
      case first =>
        --[[F4
        have hw0 := Below.refl wc.heap.size wc
        cases cb with
        | false =>
          obtain rfl : bb = true := HBB.out.2 (HBD.out.2 (.inl (fun h => by have := HCB.out.2 h; cases this)))
          go_region
          all_goals
            go_wp2_with fail
            go_meet
            exact ⟨rfl, (by have hszz := hw0.size; repeat (first | with_reducible exact hw0 | with_reducible apply Below.drew | with_reducible refine below_drewN ?_ _ | (with_reducible refine Below.setCell ?_ ?_ _; rotate_left; focus (first | omega | (simp <;> omega))) | (with_reducible refine Below.alloc ?_ ?_ _; rotate_left; focus (first | omega | (simp <;> omega)))))⟩
        | true =>
          have hcr := HCB.out.1 rfl
          obtain ⟨T1, T2⟩ := HCT.out hcr
          have KH1 := Lib.hid (fun W => rheight_any r ti W HRY.out T1)
          have KH2 := Lib.hid (fun W => rheight_any r tu W HRY.out T2)
          have f1 := (hg_bd HRY.out T1).2.1
          have f2 := (hg_bd HRY.out T2).2.1
          have nti := T1.n
          have km := fun w ts t => run_min_singles w ts t f1 f2
          have fm : fin Ieee.single (minF (hgF r ti) (hgF r tu)) := by rcases (minF_spec f1 f2).1 with h | h <;> rw [h] <;> assumption
          have o1 := oG (fin_num fm) (fin_num HLO.out.2.fin)
          have hb2 := HBD.out
          clear T1 T2 HBD HCT HCN HCB hw0
          generalize minF (hgF r ti) (hgF r tu) = mn at *
          generalize hgF r ti = h1 at *
          generalize hgF r tu = h2 at *
          by_cases d1 : Ieee.single.V hi < Ieee.single.V mn
          · obtain rfl : bb = true := HBB.out.2 (hb2.2 (.inr (.inl d1)))
            rw [decide_eq_true d1] at o1
            clear hb2 d1 f1 f2 fm hcr HBB
            --[[F6
            as_aux_lemma =>
              refine wp_region_held_drew (S := (fun w' => w'.cell? ⟨q, 5, none⟩ = some (.float .f32 r.X) ∧ w'.cell? ⟨q, 6, none⟩ = some (.float .f32 r.Y) ∧ w'.cell? ⟨q, 7, none⟩ = some (.float .f32 r.H) ∧ w'.cell? ⟨q, 8, none⟩ = some (.float .f32 r.DX) ∧ w'.cell? ⟨q, 9, none⟩ = some (.float .f32 r.DY) ∧ w'.cell? ⟨q, 10, none⟩ = some (.float .f32 r.DH) ∧ w'.cell? ⟨q, 11, none⟩ = some (.float .f32 r.Mo) ∧ w'.cell? ⟨w.heap.size, 4, none⟩ = some (.float .f32 hi) ∧ w'.cell? ⟨q, 16, none⟩ = some (.bool S.isSome) ∧ Below wc.heap.size wc w')) (by kernel_rfl) ⟨p0, p1, p2, p3, p4, p5, p6, hh4, by assumption, (Below.refl _ _).drew⟩ (fun hHeld => ?_)
              refine wpAnyH_take (i := 0) (oi := { dst := some 76, op := Op.move (Operand.tmp 18), type := 4, pos := "ray.go:165", after := #[], guard := none }) (v := ?_) rfl (by kernel_rfl) (by kernel_rfl) (by kernel_rfl) (fun _ _ _ h => h) (Or.inl ⟨by rfl, ?_⟩) (by assumption) ?_
              rotate_left
              · intro w hSw; (try dsimp only at hSw); go_simp; try with_reducible rfl
              try simp only [Act.put, List.setIfInBounds_toArray, List.set_cons_zero, List.set_cons_succ]
              refine wpAnyH_take (i := 1) (oi := { dst := some 77, op := Op.unOp UnOp.not 4 (Operand.tmp 76), type := 4, pos := "ray.go:165", after := #[{ on := 0, ground := Ground.data }], guard := none }) (v := ?_) rfl (by kernel_rfl) (by kernel_rfl) (by kernel_rfl) (fun _ _ _ h => h) (Or.inl ⟨by rfl, ?_⟩) (by assumption) ?_
              rotate_left
              · intro w hSw; (try dsimp only at hSw); go_simp; try with_reducible rfl
              try simp only [Act.put, List.setIfInBounds_toArray, List.set_cons_zero, List.set_cons_succ]
              refine wpAnyH_take (i := 2) (oi := { dst := some 78, op := Op.move (Operand.tmp 77), type := 4, pos := "ray.go:165", after := #[{ on := 1, ground := Ground.data }], guard := none }) (v := ?_) rfl (by kernel_rfl) (by kernel_rfl) (by kernel_rfl) (fun _ _ _ h => h) (Or.inl ⟨by rfl, ?_⟩) (by assumption) ?_
              rotate_left
              · intro w hSw; (try dsimp only at hSw); go_simp; try with_reducible rfl
              try simp only [Act.put, List.setIfInBounds_toArray, List.set_cons_zero, List.set_cons_succ]
              refine wpAnyH_take (i := 3) (oi := { dst := some 79, op := Op.move (Operand.tmp 0), type := 65, pos := "ray.go:165", after := #[{ on := 2, ground := Ground.guard }], guard := some (2, false) }) (v := ?_) rfl (by kernel_rfl) (by kernel_rfl) (by kernel_rfl) (fun _ _ _ h => h) (Or.inl ⟨by rfl, ?_⟩) (by assumption) ?_
              rotate_left
              · intro w hSw; (try dsimp only at hSw); go_simp; try with_reducible rfl
              try simp only [Act.put, List.setIfInBounds_toArray, List.set_cons_zero, List.set_cons_succ]
              refine wpAnyH_take (i := 4) (oi := { dst := some 80, op := Op.nilCheck (Operand.tmp 79), type := 0, pos := "ray.go:165", after := #[{ on := 3, ground := Ground.data }, { on := 2, ground := Ground.guard }], guard := some (2, false) }) (v := ?_) rfl (by kernel_rfl) (by kernel_rfl) (by kernel_rfl) (fun _ _ _ h => h) (Or.inl ⟨by rfl, ?_⟩) (by assumption) ?_
              rotate_left
              · intro w hSw; (try dsimp only at hSw); go_simp; try with_reducible rfl
              try simp only [Act.put, List.setIfInBounds_toArray, List.set_cons_zero, List.set_cons_succ]
              refine wpAnyH_take (i := 5) (oi := { dst := some 81, op := Op.fieldAddr 49 (Operand.tmp 80) 1, type := 0, pos := "ray.go:165", after := #[{ on := 4, ground := Ground.data }, { on := 2, ground := Ground.guard }], guard := some (2, false) }) (v := ?_) rfl (by kernel_rfl) (by kernel_rfl) (by kernel_rfl) (fun _ _ _ h => h) (Or.inl ⟨by rfl, ?_⟩) (by assumption) ?_
              rotate_left
              · intro w hSw; (try dsimp only at hSw); go_simp; try with_reducible rfl
              try simp only [Act.put, List.setIfInBounds_toArray, List.set_cons_zero, List.set_cons_succ]
              refine wpAnyH_take (i := 6) (oi := { dst := some 82, op := Op.load 29 (Operand.tmp 81), type := 29, pos := "ray.go:165", after := #[{ on := 5, ground := Ground.data }, { on := 2, ground := Ground.guard }], guard := some (2, false) }) (v := ?_) rfl (by kernel_rfl) (by kernel_rfl) (by kernel_rfl) (fun _ _ _ h => h) (Or.inl ⟨by rfl, ?_⟩) (by assumption) ?_
              rotate_left
              · intro w hSw; (try dsimp only at hSw); go_simp; try with_reducible rfl
              try simp only [Act.put, List.setIfInBounds_toArray, List.set_cons_zero, List.set_cons_succ]
              refine wpAnyH_take (i := 7) (oi := { dst := some 83, op := Op.move (Operand.tmp 16), type := 27, pos := "ray.go:165", after := #[{ on := 2, ground := Ground.guard }], guard := some (2, false) }) (v := ?_) rfl (by kernel_rfl) (by kernel_rfl) (by kernel_rfl) (fun _ _ _ h => h) (Or.inl ⟨by rfl, ?_⟩) (by assumption) ?_
              rotate_left
              · intro w hSw; (try dsimp only at hSw); go_simp; try with_reducible rfl
              try simp only [Act.put, List.setIfInBounds_toArray, List.set_cons_zero, List.set_cons_succ]
              refine wpAnyH_take (i := 9) (oi := { dst := some 85, op := Op.move (Operand.tmp 0), type := 65, pos := "ray.go:165", after := #[{ on := 2, ground := Ground.guard }], guard := some (2, false) }) (v := ?_) rfl (by kernel_rfl) (by kernel_rfl) (by kernel_rfl) (fun _ _ _ h => h) (Or.inl ⟨by rfl, ?_⟩) (by assumption) ?_
              rotate_left
              · intro w hSw; (try dsimp only at hSw); go_simp; try with_reducible rfl
              try simp only [Act.put, List.setIfInBounds_toArray, List.set_cons_zero, List.set_cons_succ]
              refine wpAnyH_take (i := 10) (oi := { dst := some 86, op := Op.nilCheck (Operand.tmp 85), type := 0, pos := "ray.go:165", after := #[{ on := 9, ground := Ground.data }, { on := 2, ground := Ground.guard }], guard := some (2, false) }) (v := ?_) rfl (by kernel_rfl) (by kernel_rfl) (by kernel_rfl) (fun _ _ _ h => h) (Or.inl ⟨by rfl, ?_⟩) (by assumption) ?_
              rotate_left
              · intro w hSw; (try dsimp only at hSw); go_simp; try with_reducible rfl
              try simp only [Act.put, List.setIfInBounds_toArray, List.set_cons_zero, List.set_cons_succ]
              refine wpAnyH_take (i := 11) (oi := { dst := some 87, op := Op.fieldAddr 49 (Operand.tmp 86) 1, type := 0, pos := "ray.go:165", after := #[{ on := 10, ground := Ground.data }, { on := 2, ground := Ground.guard }], guard := some (2, false) }) (v := ?_) rfl (by kernel_rfl) (by kernel_rfl) (by kernel_rfl) (fun _ _ _ h => h) (Or.inl ⟨by rfl, ?_⟩) (by assumption) ?_
              rotate_left
              · intro w hSw; (try dsimp only at hSw); go_simp; try with_reducible rfl
              try simp only [Act.put, List.setIfInBounds_toArray, List.set_cons_zero, List.set_cons_succ]
              refine wpAnyH_take (i := 12) (oi := { dst := some 88, op := Op.load 29 (Operand.tmp 87), type := 29, pos := "ray.go:165", after := #[{ on := 11, ground := Ground.data }, { on := 2, ground := Ground.guard }], guard := some (2, false) }) (v := ?_) rfl (by kernel_rfl) (by kernel_rfl) (by kernel_rfl) (fun _ _ _ h => h) (Or.inl ⟨by rfl, ?_⟩) (by assumption) ?_
              rotate_left
              · intro w hSw; (try dsimp only at hSw); go_simp; try with_reducible rfl
              try simp only [Act.put, List.setIfInBounds_toArray, List.set_cons_zero, List.set_cons_succ]
              refine wpAnyH_take (i := 13) (oi := { dst := some 89, op := Op.move (Operand.tmp 17), type := 27, pos := "ray.go:165", after := #[{ on := 2, ground := Ground.guard }], guard := some (2, false) }) (v := ?_) rfl (by kernel_rfl) (by kernel_rfl) (by kernel_rfl) (fun _ _ _ h => h) (Or.inl ⟨by rfl, ?_⟩) (by assumption) ?_
              rotate_left
              · intro w hSw; (try dsimp only at hSw); go_simp; try with_reducible rfl
              try simp only [Act.put, List.setIfInBounds_toArray, List.set_cons_zero, List.set_cons_succ]
              refine wpAnyH_take (i := 16) (oi := { dst := some 92, op := Op.fieldAddr 53 (Operand.tmp 14) 4, type := 0, pos := "ray.go:165", after := #[{ on := 2, ground := Ground.guard }], guard := some (2, false) }) (v := ?_) rfl (by kernel_rfl) (by kernel_rfl) (by kernel_rfl) (fun _ _ _ h => h) (Or.inl ⟨by rfl, ?_⟩) (by assumption) ?_
              rotate_left
              · intro w hSw; (try dsimp only at hSw); go_simp; try with_reducible rfl
              try simp only [Act.put, List.setIfInBounds_toArray, List.set_cons_zero, List.set_cons_succ]
              refine wpAnyH_take (i := 17) (oi := { dst := some 93, op := Op.load 27 (Operand.tmp 92), type := 27, pos := "ray.go:165", after := #[{ on := 16, ground := Ground.data }, { on := 2, ground := Ground.guard }], guard := some (2, false) }) (v := ?_) rfl (by kernel_rfl) (by kernel_rfl) (by kernel_rfl) (fun _ _ _ h => h) (Or.inl ⟨by rfl, ?_⟩) (by assumption) ?_
              rotate_left
              · intro w hSw; (try dsimp only at hSw); go_simp; try with_reducible rfl
              try simp only [Act.put, List.setIfInBounds_toArray, List.set_cons_zero, List.set_cons_succ]
              refine wpAnyH_ready (rs := [8]) (by kernel_rfl) (by simp) ?_
              refine AllReadyH.cons (o := { dst := some 84, op := Op.call { callee := Callee.value (Operand.func 28), args := #[Operand.tmp 82, Operand.tmp 83], argTypes := #[29, 27] }, type := 27, pos := "ray.go:165", after := #[{ on := 6, ground := Ground.data }, { on := 7, ground := Ground.data }, { on := 2, ground := Ground.chain }, { on := 2, ground := Ground.guard }], guard := some (2, false) }) rfl (fun K hK => ?_) AllReadyH.nil
              go_simp
              refine (KH1.out _).mono ?_
              rintro e2 w5 ⟨rfl, hb⟩
              go_wp2_with fail
              refine hK.out _ _ ?_ (fun hHeld => ?_)
              · go_split_ands
                have hs := hb.size
                have hs2 := (show Below wc.heap.size wc _ by assumption).size
                refine ⟨?_, ?_, ?_, ?_, ?_, ?_, ?_, ?_, ?_, ?_⟩
                all_goals first
                  | (rw [hb.cell (by simp; omega)]; assumption)
                  | exact Below.trans (by assumption) (hb.mono (by omega))
              clear hK K
              try simp only [Act.put, List.setIfInBounds_toArray, List.set_cons_zero, List.set_cons_succ]
              refine wpAnyH_ready (rs := [14]) (by kernel_rfl) (by simp) ?_
              refine AllReadyH.cons (o := { dst := some 90, op := Op.call { callee := Callee.value (Operand.func 28), args := #[Operand.tmp 88, Operand.tmp 89], argTypes := #[29, 27] }, type := 27, pos := "ray.go:165", after := #[{ on := 12, ground := Ground.data }, { on := 13, ground := Ground.data }, { on := 8, ground := Ground.chain }, { on := 2, ground := Ground.guard }], guard := some (2, false) }) rfl (fun K hK => ?_) AllReadyH.nil
              go_simp
              refine (KH2.out _).mono ?_
              rintro e2 w5 ⟨rfl, hb⟩
              go_wp2_with fail
              refine hK.out _ _ ?_ (fun hHeld => ?_)
              · go_split_ands
                have hs := hb.size
                have hs2 := (show Below wc.heap.size wc _ by assumption).size
                refine ⟨?_, ?_, ?_, ?_, ?_, ?_, ?_, ?_, ?_, ?_⟩
                all_goals first
                  | (rw [hb.cell (by simp; omega)]; assumption)
                  | exact Below.trans (by assumption) (hb.mono (by omega))
              clear hK K
              try simp only [Act.put, List.setIfInBounds_toArray, List.set_cons_zero, List.set_cons_succ]
              refine wpAnyH_ready (rs := [15]) (by kernel_rfl) (by simp) ?_
              refine AllReadyH.cons (o := { dst := some 91, op := Op.call { callee := Callee.builtin Builtin.min, args := #[Operand.tmp 84, Operand.tmp 90], argTypes := #[27, 27] }, type := 27, pos := "ray.go:165", after := #[{ on := 8, ground := Ground.data }, { on := 14, ground := Ground.data }, { on := 2, ground := Ground.guard }], guard := some (2, false) }) rfl (fun K hK => ?_) AllReadyH.nil
              go_simp
              refine hK.out _ _ (by assumption) (fun hHeld => ?_)
              clear hK K
              try simp only [Act.put, List.setIfInBounds_toArray, List.set_cons_zero, List.set_cons_succ]
              refine wpAnyH_take (i := 18) (oi := { dst := some 94, op := Op.binOp BinOp.gtr 27 (Operand.tmp 91) (Operand.tmp 93) 27, type := 4, pos := "ray.go:165", after := #[{ on := 15, ground := Ground.data }, { on := 17, ground := Ground.data }, { on := 2, ground := Ground.guard }], guard := some (2, false) }) (v := ?_) rfl (by kernel_rfl) (by kernel_rfl) (by kernel_rfl) (fun _ _ _ h => h) (Or.inl ⟨by rfl, ?_⟩) (by assumption) ?_
              rotate_left
              · intro w hSw; (try dsimp only at hSw); go_simp; try with_reducible rfl
              try simp only [Act.put, List.setIfInBounds_toArray, List.set_cons_zero, List.set_cons_succ]
              refine wpAnyH_take (i := 19) (oi := { dst := some 95, op := Op.pick (Operand.tmp 78) (Operand.const (Value.bool true)) (Operand.tmp 94), type := 4, pos := "ray.go:165", after := #[{ on := 2, ground := Ground.data }, { on := 18, ground := Ground.data }], guard := none }) (v := ?_) rfl (by kernel_rfl) (by kernel_rfl) (by kernel_rfl) (fun _ _ _ h => h) (Or.inl ⟨by rfl, ?_⟩) (by assumption) ?_
              rotate_left
              · intro w hSw; (try dsimp only at hSw); go_simp; try with_reducible rfl
              try simp only [Act.put, List.setIfInBounds_toArray, List.set_cons_zero, List.set_cons_succ]
              refine wpAnyH_take (i := 20) (oi := { dst := some 96, op := Op.move (Operand.tmp 95), type := 4, pos := "ray.go:165", after := #[{ on := 19, ground := Ground.data }, { on := 14, ground := Ground.chain }], guard := none }) (v := ?_) rfl (by kernel_rfl) (by kernel_rfl) (by kernel_rfl) (fun _ _ _ h => h) (Or.inl ⟨by rfl, ?_⟩) (by assumption) ?_
              rotate_left
              · intro w hSw; (try dsimp only at hSw); go_simp; try with_reducible rfl
              try simp only [Act.put, List.setIfInBounds_toArray, List.set_cons_zero, List.set_cons_succ]
              refine wpAnyH_take (i := 21) (oi := { dst := some 97, op := Op.move (Operand.tmp 0), type := 65, pos := "ray.go:165", after := #[{ on := 20, ground := Ground.guard }], guard := some (20, false) }) (v := undef) rfl (by kernel_rfl) (by kernel_rfl) (by kernel_rfl) (fun _ _ _ h => h) (Or.inr ⟨by rfl, rfl⟩) (by assumption) ?_
              try simp only [Act.put, List.setIfInBounds_toArray, List.set_cons_zero, List.set_cons_succ]
              refine wpAnyH_take (i := 22) (oi := { dst := some 98, op := Op.nilCheck (Operand.tmp 97), type := 0, pos := "ray.go:165", after := #[{ on := 21, ground := Ground.data }, { on := 20, ground := Ground.guard }], guard := some (20, false) }) (v := undef) rfl (by kernel_rfl) (by kernel_rfl) (by kernel_rfl) (fun _ _ _ h => h) (Or.inr ⟨by rfl, rfl⟩) (by assumption) ?_
              try simp only [Act.put, List.setIfInBounds_toArray, List.set_cons_zero, List.set_cons_succ]
              refine wpAnyH_take (i := 23) (oi := { dst := some 99, op := Op.fieldAddr 49 (Operand.tmp 98) 4, type := 0, pos := "ray.go:165", after := #[{ on := 22, ground := Ground.data }, { on := 20, ground := Ground.guard }], guard := some (20, false) }) (v := undef) rfl (by kernel_rfl) (by kernel_rfl) (by kernel_rfl) (fun _ _ _ h => h) (Or.inr ⟨by rfl, rfl⟩) (by assumption) ?_
              try simp only [Act.put, List.setIfInBounds_toArray, List.set_cons_zero, List.set_cons_succ]
              refine wpAnyH_take (i := 24) (oi := { dst := some 100, op := Op.load 4 (Operand.tmp 99), type := 4, pos := "ray.go:165", after := #[{ on := 23, ground := Ground.data }, { on := 20, ground := Ground.guard }], guard := some (20, false) }) (v := undef) rfl (by kernel_rfl) (by kernel_rfl) (by kernel_rfl) (fun _ _ _ h => h) (Or.inr ⟨by rfl, rfl⟩) (by assumption) ?_
              try simp only [Act.put, List.setIfInBounds_toArray, List.set_cons_zero, List.set_cons_succ]
              refine wpAnyH_take (i := 25) (oi := { dst := some 101, op := Op.move (Operand.tmp 100), type := 4, pos := "ray.go:165", after := #[{ on := 24, ground := Ground.data }, { on := 20, ground := Ground.chain }, { on := 20, ground := Ground.guard }], guard := some (20, false) }) (v := undef) rfl (by kernel_rfl) (by kernel_rfl) (by kernel_rfl) (fun _ _ _ h => h) (Or.inr ⟨by rfl, rfl⟩) (by assumption) ?_
              try simp only [Act.put, List.setIfInBounds_toArray, List.set_cons_zero, List.set_cons_succ]
              refine wpAnyH_take (i := 26) (oi := { dst := some 102, op := Op.move (Operand.tmp 16), type := 27, pos := "ray.go:165", after := #[{ on := 25, ground := Ground.guard }], guard := some (25, true) }) (v := undef) rfl (by kernel_rfl) (by kernel_rfl) (by kernel_rfl) (fun _ _ _ h => h) (Or.inr ⟨by rfl, rfl⟩) (by assumption) ?_
              try simp only [Act.put, List.setIfInBounds_toArray, List.set_cons_zero, List.set_cons_succ]
              refine wpAnyH_take (i := 27) (oi := { dst := some 103, op := Op.move (Operand.tmp 0), type := 65, pos := "ray.go:165", after := #[{ on := 25, ground := Ground.guard }], guard := some (25, true) }) (v := undef) rfl (by kernel_rfl) (by kernel_rfl) (by kernel_rfl) (fun _ _ _ h => h) (Or.inr ⟨by rfl, rfl⟩) (by assumption) ?_
              try simp only [Act.put, List.setIfInBounds_toArray, List.set_cons_zero, List.set_cons_succ]
              refine wpAnyH_take (i := 28) (oi := { dst := some 104, op := Op.nilCheck (Operand.tmp 103), type := 0, pos := "ray.go:165", after := #[{ on := 27, ground := Ground.data }, { on := 25, ground := Ground.guard }], guard := some (25, true) }) (v := undef) rfl (by kernel_rfl) (by kernel_rfl) (by kernel_rfl) (fun _ _ _ h => h) (Or.inr ⟨by rfl, rfl⟩) (by assumption) ?_
              try simp only [Act.put, List.setIfInBounds_toArray, List.set_cons_zero, List.set_cons_succ]
              refine wpAnyH_take (i := 29) (oi := { dst := some 105, op := Op.fieldAddr 49 (Operand.tmp 104) 2, type := 0, pos := "ray.go:165", after := #[{ on := 28, ground := Ground.data }, { on := 25, ground := Ground.guard }], guard := some (25, true) }) (v := undef) rfl (by kernel_rfl) (by kernel_rfl) (by kernel_rfl) (fun _ _ _ h => h) (Or.inr ⟨by rfl, rfl⟩) (by assumption) ?_
              try simp only [Act.put, List.setIfInBounds_toArray, List.set_cons_zero, List.set_cons_succ]
              refine wpAnyH_take (i := 30) (oi := { dst := some 106, op := Op.fieldAddr 38 (Operand.tmp 105) 1, type := 0, pos := "ray.go:165", after := #[{ on := 29, ground := Ground.data }, { on := 25, ground := Ground.guard }], guard := some (25, true) }) (v := undef) rfl (by kernel_rfl) (by kernel_rfl) (by kernel_rfl) (fun _ _ _ h => h) (Or.inr ⟨by rfl, rfl⟩) (by assumption) ?_
              try simp only [Act.put, List.setIfInBounds_toArray, List.set_cons_zero, List.set_cons_succ]
              refine wpAnyH_take (i := 31) (oi := { dst := some 107, op := Op.load 27 (Operand.tmp 106), type := 27, pos := "ray.go:165", after := #[{ on := 30, ground := Ground.data }, { on := 25, ground := Ground.guard }], guard := some (25, true) }) (v := undef) rfl (by kernel_rfl) (by kernel_rfl) (by kernel_rfl) (fun _ _ _ h => h) (Or.inr ⟨by rfl, rfl⟩) (by assumption) ?_
              try simp only [Act.put, List.setIfInBounds_toArray, List.set_cons_zero, List.set_cons_succ]
              refine wpAnyH_take (i := 32) (oi := { dst := some 108, op := Op.binOp BinOp.gtr 27 (Operand.tmp 102) (Operand.tmp 107) 27, type := 4, pos := "ray.go:165", after := #[{ on := 26, ground := Ground.data }, { on := 31, ground := Ground.data }, { on := 25, ground := Ground.guard }], guard := some (25, true) }) (v := undef) rfl (by kernel_rfl) (by kernel_rfl) (by kernel_rfl) (fun _ _ _ h => h) (Or.inr ⟨by rfl, rfl⟩) (by assumption) ?_
              try simp only [Act.put, List.setIfInBounds_toArray, List.set_cons_zero, List.set_cons_succ]
              refine wpAnyH_take (i := 33) (oi := { dst := some 109, op := Op.pick (Operand.tmp 101) (Operand.tmp 108) (Operand.const (Value.bool false)), type := 4, pos := "ray.go:165", after := #[{ on := 25, ground := Ground.data }, { on := 32, ground := Ground.data }, { on := 20, ground := Ground.guard }], guard := some (20, false) }) (v := undef) rfl (by kernel_rfl) (by kernel_rfl) (by kernel_rfl) (fun _ _ _ h => h) (Or.inr ⟨by rfl, rfl⟩) (by assumption) ?_
              try simp only [Act.put, List.setIfInBounds_toArray, List.set_cons_zero, List.set_cons_succ]
              refine wpAnyH_take (i := 34) (oi := { dst := some 110, op := Op.pick (Operand.tmp 96) (Operand.const (Value.bool true)) (Operand.tmp 109), type := 4, pos := "ray.go:165", after := #[{ on := 20, ground := Ground.data }, { on := 33, ground := Ground.data }], guard := none }) (v := ?_) rfl (by kernel_rfl) (by kernel_rfl) (by kernel_rfl) (fun _ _ _ h => h) (Or.inl ⟨by rfl, ?_⟩) (by assumption) ?_
              rotate_left
              · intro w hSw; (try dsimp only at hSw); go_simp; try with_reducible rfl
              try simp only [Act.put, List.setIfInBounds_toArray, List.set_cons_zero, List.set_cons_succ]
              refine wpAnyH_done (by kernel_rfl) ?_ _
              have BW := hHeld.2.2.2.2.2.2.2.2.2
              clear hHeld
              go_wp2_with fail
              go_meet
              exact ⟨rfl, BW⟩
            --]]F6
          --[[F5
          · rw [decide_eq_false d1] at o1
            rcases S with _ | ⟨k0, t0⟩
            · obtain rfl : bb = false := by
                cases bb with
                | false => rfl
                | true =>
                  rcases hb2.1 (HBB.out.1 rfl) with h | h | ⟨_, _, h, _⟩
                  · exact absurd hcr h
                  · exact absurd h d1
                  · cases h
              have g16b : wc.cell? ⟨q, 16, none⟩ = some (.bool false) := g16
              clear hb2 d1 f1 f2 fm hcr HBB g16
              --[[F7
              as_aux_lemma =>
                refine wp_region_held_drew (S := (fun w' => w'.cell? ⟨q, 5, none⟩ = some (.float .f32 r.X) ∧ w'.cell? ⟨q, 6, none⟩ = some (.float .f32 r.Y) ∧ w'.cell? ⟨q, 7, none⟩ = some (.float .f32 r.H) ∧ w'.cell? ⟨q, 8, none⟩ = some (.float .f32 r.DX) ∧ w'.cell? ⟨q, 9, none⟩ = some (.float .f32 r.DY) ∧ w'.cell? ⟨q, 10, none⟩ = some (.float .f32 r.DH) ∧ w'.cell? ⟨q, 11, none⟩ = some (.float .f32 r.Mo) ∧ w'.cell? ⟨w.heap.size, 4, none⟩ = some (.float .f32 hi) ∧ w'.cell? ⟨q, 16, none⟩ = some (.bool false) ∧ Below wc.heap.size wc w')) (by kernel_rfl) ⟨p0, p1, p2, p3, p4, p5, p6, hh4, by assumption, (Below.refl _ _).drew⟩ (fun hHeld => ?_)
                refine wpAnyH_take (i := 0) (oi := { dst := some 76, op := Op.move (Operand.tmp 18), type := 4, pos := "ray.go:165", after := #[], guard := none }) (v := ?_) rfl (by kernel_rfl) (by kernel_rfl) (by kernel_rfl) (fun _ _ _ h => h) (Or.inl ⟨by rfl, ?_⟩) (by assumption) ?_
                rotate_left
                · intro w hSw; (try dsimp only at hSw); go_simp; try with_reducible rfl
                try simp only [Act.put, List.setIfInBounds_toArray, List.set_cons_zero, List.set_cons_succ]
                refine wpAnyH_take (i := 1) (oi := { dst := some 77, op := Op.unOp UnOp.not 4 (Operand.tmp 76), type := 4, pos := "ray.go:165", after := #[{ on := 0, ground := Ground.data }], guard := none }) (v := ?_) rfl (by kernel_rfl) (by kernel_rfl) (by kernel_rfl) (fun _ _ _ h => h) (Or.inl ⟨by rfl, ?_⟩) (by assumption) ?_
                rotate_left
                · intro w hSw; (try dsimp only at hSw); go_simp; try with_reducible rfl
                try simp only [Act.put, List.setIfInBounds_toArray, List.set_cons_zero, List.set_cons_succ]
                refine wpAnyH_take (i := 2) (oi := { dst := some 78, op := Op.move (Operand.tmp 77), type := 4, pos := "ray.go:165", after := #[{ on := 1, ground := Ground.data }], guard := none }) (v := ?_) rfl (by kernel_rfl) (by kernel_rfl) (by kernel_rfl) (fun _ _ _ h => h) (Or.inl ⟨by rfl, ?_⟩) (by assumption) ?_
                rotate_left
                · intro w hSw; (try dsimp only at hSw); go_simp; try with_reducible rfl
                try simp only [Act.put, List.setIfInBounds_toArray, List.set_cons_zero, List.set_cons_succ]
                refine wpAnyH_take (i := 3) (oi := { dst := some 79, op := Op.move (Operand.tmp 0), type := 65, pos := "ray.go:165", after := #[{ on := 2, ground := Ground.guard }], guard := some (2, false) }) (v := ?_) rfl (by kernel_rfl) (by kernel_rfl) (by kernel_rfl) (fun _ _ _ h => h) (Or.inl ⟨by rfl, ?_⟩) (by assumption) ?_
                rotate_left
                · intro w hSw; (try dsimp only at hSw); go_simp; try with_reducible rfl
                try simp only [Act.put, List.setIfInBounds_toArray, List.set_cons_zero, List.set_cons_succ]
                refine wpAnyH_take (i := 4) (oi := { dst := some 80, op := Op.nilCheck (Operand.tmp 79), type := 0, pos := "ray.go:165", after := #[{ on := 3, ground := Ground.data }, { on := 2, ground := Ground.guard }], guard := some (2, false) }) (v := ?_) rfl (by kernel_rfl) (by kernel_rfl) (by kernel_rfl) (fun _ _ _ h => h) (Or.inl ⟨by rfl, ?_⟩) (by assumption) ?_
                rotate_left
                · intro w hSw; (try dsimp only at hSw); go_simp; try with_reducible rfl
                try simp only [Act.put, List.setIfInBounds_toArray, List.set_cons_zero, List.set_cons_succ]
                refine wpAnyH_take (i := 5) (oi := { dst := some 81, op := Op.fieldAddr 49 (Operand.tmp 80) 1, type := 0, pos := "ray.go:165", after := #[{ on := 4, ground := Ground.data }, { on := 2, ground := Ground.guard }], guard := some (2, false) }) (v := ?_) rfl (by kernel_rfl) (by kernel_rfl) (by kernel_rfl) (fun _ _ _ h => h) (Or.inl ⟨by rfl, ?_⟩) (by assumption) ?_
                rotate_left
                · intro w hSw; (try dsimp only at hSw); go_simp; try with_reducible rfl
                try simp only [Act.put, List.setIfInBounds_toArray, List.set_cons_zero, List.set_cons_succ]
                refine wpAnyH_take (i := 6) (oi := { dst := some 82, op := Op.load 29 (Operand.tmp 81), type := 29, pos := "ray.go:165", after := #[{ on := 5, ground := Ground.data }, { on := 2, ground := Ground.guard }], guard := some (2, false) }) (v := ?_) rfl (by kernel_rfl) (by kernel_rfl) (by kernel_rfl) (fun _ _ _ h => h) (Or.inl ⟨by rfl, ?_⟩) (by assumption) ?_
                rotate_left
                · intro w hSw; (try dsimp only at hSw); go_simp; try with_reducible rfl
                try simp only [Act.put, List.setIfInBounds_toArray, List.set_cons_zero, List.set_cons_succ]
                refine wpAnyH_take (i := 7) (oi := { dst := some 83, op := Op.move (Operand.tmp 16), type := 27, pos := "ray.go:165", after := #[{ on := 2, ground := Ground.guard }], guard := some (2, false) }) (v := ?_) rfl (by kernel_rfl) (by kernel_rfl) (by kernel_rfl) (fun _ _ _ h => h) (Or.inl ⟨by rfl, ?_⟩) (by assumption) ?_
                rotate_left
                · intro w hSw; (try dsimp only at hSw); go_simp; try with_reducible rfl
                try simp only [Act.put, List.setIfInBounds_toArray, List.set_cons_zero, List.set_cons_succ]
                refine wpAnyH_take (i := 9) (oi := { dst := some 85, op := Op.move (Operand.tmp 0), type := 65, pos := "ray.go:165", after := #[{ on := 2, ground := Ground.guard }], guard := some (2, false) }) (v := ?_) rfl (by kernel_rfl) (by kernel_rfl) (by kernel_rfl) (fun _ _ _ h => h) (Or.inl ⟨by rfl, ?_⟩) (by assumption) ?_
                rotate_left
                · intro w hSw; (try dsimp only at hSw); go_simp; try with_reducible rfl
                try simp only [Act.put, List.setIfInBounds_toArray, List.set_cons_zero, List.set_cons_succ]
                refine wpAnyH_take (i := 10) (oi := { dst := some 86, op := Op.nilCheck (Operand.tmp 85), type := 0, pos := "ray.go:165", after := #[{ on := 9, ground := Ground.data }, { on := 2, ground := Ground.guard }], guard := some (2, false) }) (v := ?_) rfl (by kernel_rfl) (by kernel_rfl) (by kernel_rfl) (fun _ _ _ h => h) (Or.inl ⟨by rfl, ?_⟩) (by assumption) ?_
                rotate_left
                · intro w hSw; (try dsimp only at hSw); go_simp; try with_reducible rfl
                try simp only [Act.put, List.setIfInBounds_toArray, List.set_cons_zero, List.set_cons_succ]
                refine wpAnyH_take (i := 11) (oi := { dst := some 87, op := Op.fieldAddr 49 (Operand.tmp 86) 1, type := 0, pos := "ray.go:165", after := #[{ on := 10, ground := Ground.data }, { on := 2, ground := Ground.guard }], guard := some (2, false) }) (v := ?_) rfl (by kernel_rfl) (by kernel_rfl) (by kernel_rfl) (fun _ _ _ h => h) (Or.inl ⟨by rfl, ?_⟩) (by assumption) ?_
                rotate_left
                · intro w hSw; (try dsimp only at hSw); go_simp; try with_reducible rfl
                try simp only [Act.put, List.setIfInBounds_toArray, List.set_cons_zero, List.set_cons_succ]
                refine wpAnyH_take (i := 12) (oi := { dst := some 88, op := Op.load 29 (Operand.tmp 87), type := 29, pos := "ray.go:165", after := #[{ on := 11, ground := Ground.data }, { on := 2, ground := Ground.guard }], guard := some (2, false) }) (v := ?_) rfl (by kernel_rfl) (by kernel_rfl) (by kernel_rfl) (fun _ _ _ h => h) (Or.inl ⟨by rfl, ?_⟩) (by assumption) ?_
                rotate_left
                · intro w hSw; (try dsimp only at hSw); go_simp; try with_reducible rfl
                try simp only [Act.put, List.setIfInBounds_toArray, List.set_cons_zero, List.set_cons_succ]
                refine wpAnyH_take (i := 13) (oi := { dst := some 89, op := Op.move (Operand.tmp 17), type := 27, pos := "ray.go:165", after := #[{ on := 2, ground := Ground.guard }], guard := some (2, false) }) (v := ?_) rfl (by kernel_rfl) (by kernel_rfl) (by kernel_rfl) (fun _ _ _ h => h) (Or.inl ⟨by rfl, ?_⟩) (by assumption) ?_
                rotate_left
                · intro w hSw; (try dsimp only at hSw); go_simp; try with_reducible rfl
                try simp only [Act.put, List.setIfInBounds_toArray, List.set_cons_zero, List.set_cons_succ]
                refine wpAnyH_take (i := 16) (oi := { dst := some 92, op := Op.fieldAddr 53 (Operand.tmp 14) 4, type := 0, pos := "ray.go:165", after := #[{ on := 2, ground := Ground.guard }], guard := some (2, false) }) (v := ?_) rfl (by kernel_rfl) (by kernel_rfl) (by kernel_rfl) (fun _ _ _ h => h) (Or.inl ⟨by rfl, ?_⟩) (by assumption) ?_
                rotate_left
                · intro w hSw; (try dsimp only at hSw); go_simp; try with_reducible rfl
                try simp only [Act.put, List.setIfInBounds_toArray, List.set_cons_zero, List.set_cons_succ]
                refine wpAnyH_take (i := 17) (oi := { dst := some 93, op := Op.load 27 (Operand.tmp 92), type := 27, pos := "ray.go:165", after := #[{ on := 16, ground := Ground.data }, { on := 2, ground := Ground.guard }], guard := some (2, false) }) (v := ?_) rfl (by kernel_rfl) (by kernel_rfl) (by kernel_rfl) (fun _ _ _ h => h) (Or.inl ⟨by rfl, ?_⟩) (by assumption) ?_
                rotate_left
                · intro w hSw; (try dsimp only at hSw); go_simp; try with_reducible rfl
                try simp only [Act.put, List.setIfInBounds_toArray, List.set_cons_zero, List.set_cons_succ]
                refine wpAnyH_ready (rs := [8]) (by kernel_rfl) (by simp) ?_
                refine AllReadyH.cons (o := { dst := some 84, op := Op.call { callee := Callee.value (Operand.func 28), args := #[Operand.tmp 82, Operand.tmp 83], argTypes := #[29, 27] }, type := 27, pos := "ray.go:165", after := #[{ on := 6, ground := Ground.data }, { on := 7, ground := Ground.data }, { on := 2, ground := Ground.chain }, { on := 2, ground := Ground.guard }], guard := some (2, false) }) rfl (fun K hK => ?_) AllReadyH.nil
                go_simp
                refine (KH1.out _).mono ?_
                rintro e2 w5 ⟨rfl, hb⟩
                go_wp2_with fail
                refine hK.out _ _ ?_ (fun hHeld => ?_)
                · go_split_ands
                  have hs := hb.size
                  have hs2 := (show Below wc.heap.size wc _ by assumption).size
                  refine ⟨?_, ?_, ?_, ?_, ?_, ?_, ?_, ?_, ?_, ?_⟩
                  all_goals first
                    | (rw [hb.cell (by simp; omega)]; assumption)
                    | exact Below.trans (by assumption) (hb.mono (by omega))
                clear hK K
                try simp only [Act.put, List.setIfInBounds_toArray, List.set_cons_zero, List.set_cons_succ]
                refine wpAnyH_ready (rs := [14]) (by kernel_rfl) (by simp) ?_
                refine AllReadyH.cons (o := { dst := some 90, op := Op.call { callee := Callee.value (Operand.func 28), args := #[Operand.tmp 88, Operand.tmp 89], argTypes := #[29, 27] }, type := 27, pos := "ray.go:165", after := #[{ on := 12, ground := Ground.data }, { on := 13, ground := Ground.data }, { on := 8, ground := Ground.chain }, { on := 2, ground := Ground.guard }], guard := some (2, false) }) rfl (fun K hK => ?_) AllReadyH.nil
                go_simp
                refine (KH2.out _).mono ?_
                rintro e2 w5 ⟨rfl, hb⟩
                go_wp2_with fail
                refine hK.out _ _ ?_ (fun hHeld => ?_)
                · go_split_ands
                  have hs := hb.size
                  have hs2 := (show Below wc.heap.size wc _ by assumption).size
                  refine ⟨?_, ?_, ?_, ?_, ?_, ?_, ?_, ?_, ?_, ?_⟩
                  all_goals first
                    | (rw [hb.cell (by simp; omega)]; assumption)
                    | exact Below.trans (by assumption) (hb.mono (by omega))
                clear hK K
                try simp only [Act.put, List.setIfInBounds_toArray, List.set_cons_zero, List.set_cons_succ]
                refine wpAnyH_ready (rs := [15]) (by kernel_rfl) (by simp) ?_
                refine AllReadyH.cons (o := { dst := some 91, op := Op.call { callee := Callee.builtin Builtin.min, args := #[Operand.tmp 84, Operand.tmp 90], argTypes := #[27, 27] }, type := 27, pos := "ray.go:165", after := #[{ on := 8, ground := Ground.data }, { on := 14, ground := Ground.data }, { on := 2, ground := Ground.guard }], guard := some (2, false) }) rfl (fun K hK => ?_) AllReadyH.nil
                go_simp
                refine hK.out _ _ (by assumption) (fun hHeld => ?_)
                clear hK K
                try simp only [Act.put, List.setIfInBounds_toArray, List.set_cons_zero, List.set_cons_succ]
                refine wpAnyH_take (i := 18) (oi := { dst := some 94, op := Op.binOp BinOp.gtr 27 (Operand.tmp 91) (Operand.tmp 93) 27, type := 4, pos := "ray.go:165", after := #[{ on := 15, ground := Ground.data }, { on := 17, ground := Ground.data }, { on := 2, ground := Ground.guard }], guard := some (2, false) }) (v := ?_) rfl (by kernel_rfl) (by kernel_rfl) (by kernel_rfl) (fun _ _ _ h => h) (Or.inl ⟨by rfl, ?_⟩) (by assumption) ?_
                rotate_left
                · intro w hSw; (try dsimp only at hSw); go_simp; try with_reducible rfl
                try simp only [Act.put, List.setIfInBounds_toArray, List.set_cons_zero, List.set_cons_succ]
                refine wpAnyH_take (i := 19) (oi := { dst := some 95, op := Op.pick (Operand.tmp 78) (Operand.const (Value.bool true)) (Operand.tmp 94), type := 4, pos := "ray.go:165", after := #[{ on := 2, ground := Ground.data }, { on := 18, ground := Ground.data }], guard := none }) (v := ?_) rfl (by kernel_rfl) (by kernel_rfl) (by kernel_rfl) (fun _ _ _ h => h) (Or.inl ⟨by rfl, ?_⟩) (by assumption) ?_
                rotate_left
                · intro w hSw; (try dsimp only at hSw); go_simp; try with_reducible rfl
                try simp only [Act.put, List.setIfInBounds_toArray, List.set_cons_zero, List.set_cons_succ]
                refine wpAnyH_take (i := 20) (oi := { dst := some 96, op := Op.move (Operand.tmp 95), type := 4, pos := "ray.go:165", after := #[{ on := 19, ground := Ground.data }, { on := 14, ground := Ground.chain }], guard := none }) (v := ?_) rfl (by kernel_rfl) (by kernel_rfl) (by kernel_rfl) (fun _ _ _ h => h) (Or.inl ⟨by rfl, ?_⟩) (by assumption) ?_
                rotate_left
                · intro w hSw; (try dsimp only at hSw); go_simp; try with_reducible rfl
                try simp only [Act.put, List.setIfInBounds_toArray, List.set_cons_zero, List.set_cons_succ]
                refine wpAnyH_take (i := 21) (oi := { dst := some 97, op := Op.move (Operand.tmp 0), type := 65, pos := "ray.go:165", after := #[{ on := 20, ground := Ground.guard }], guard := some (20, false) }) (v := ?_) rfl (by kernel_rfl) (by kernel_rfl) (by kernel_rfl) (fun _ _ _ h => h) (Or.inl ⟨by rfl, ?_⟩) (by assumption) ?_
                rotate_left
                · intro w hSw; (try dsimp only at hSw); go_simp; try with_reducible rfl
                try simp only [Act.put, List.setIfInBounds_toArray, List.set_cons_zero, List.set_cons_succ]
                refine wpAnyH_take (i := 22) (oi := { dst := some 98, op := Op.nilCheck (Operand.tmp 97), type := 0, pos := "ray.go:165", after := #[{ on := 21, ground := Ground.data }, { on := 20, ground := Ground.guard }], guard := some (20, false) }) (v := ?_) rfl (by kernel_rfl) (by kernel_rfl) (by kernel_rfl) (fun _ _ _ h => h) (Or.inl ⟨by rfl, ?_⟩) (by assumption) ?_
                rotate_left
                · intro w hSw; (try dsimp only at hSw); go_simp; try with_reducible rfl
                try simp only [Act.put, List.setIfInBounds_toArray, List.set_cons_zero, List.set_cons_succ]
                refine wpAnyH_take (i := 23) (oi := { dst := some 99, op := Op.fieldAddr 49 (Operand.tmp 98) 4, type := 0, pos := "ray.go:165", after := #[{ on := 22, ground := Ground.data }, { on := 20, ground := Ground.guard }], guard := some (20, false) }) (v := ?_) rfl (by kernel_rfl) (by kernel_rfl) (by kernel_rfl) (fun _ _ _ h => h) (Or.inl ⟨by rfl, ?_⟩) (by assumption) ?_
                rotate_left
                · intro w hSw; (try dsimp only at hSw); go_simp; try with_reducible rfl
                try simp only [Act.put, List.setIfInBounds_toArray, List.set_cons_zero, List.set_cons_succ]
                refine wpAnyH_take (i := 24) (oi := { dst := some 100, op := Op.load 4 (Operand.tmp 99), type := 4, pos := "ray.go:165", after := #[{ on := 23, ground := Ground.data }, { on := 20, ground := Ground.guard }], guard := some (20, false) }) (v := ?_) rfl (by kernel_rfl) (by kernel_rfl) (by kernel_rfl) (fun _ _ _ h => h) (Or.inl ⟨by rfl, ?_⟩) (by assumption) ?_
                rotate_left
                · intro w hSw; (try dsimp only at hSw); go_simp; try with_reducible rfl
                try simp only [Act.put, List.setIfInBounds_toArray, List.set_cons_zero, List.set_cons_succ]
                refine wpAnyH_take (i := 25) (oi := { dst := some 101, op := Op.move (Operand.tmp 100), type := 4, pos := "ray.go:165", after := #[{ on := 24, ground := Ground.data }, { on := 20, ground := Ground.chain }, { on := 20, ground := Ground.guard }], guard := some (20, false) }) (v := ?_) rfl (by kernel_rfl) (by kernel_rfl) (by kernel_rfl) (fun _ _ _ h => h) (Or.inl ⟨by rfl, ?_⟩) (by assumption) ?_
                rotate_left
                · intro w hSw; (try dsimp only at hSw); go_simp; try with_reducible rfl
                try simp only [Act.put, List.setIfInBounds_toArray, List.set_cons_zero, List.set_cons_succ]
                refine wpAnyH_take (i := 26) (oi := { dst := some 102, op := Op.move (Operand.tmp 16), type := 27, pos := "ray.go:165", after := #[{ on := 25, ground := Ground.guard }], guard := some (25, true) }) (v := undef) rfl (by kernel_rfl) (by kernel_rfl) (by kernel_rfl) (fun _ _ _ h => h) (Or.inr ⟨by rfl, rfl⟩) (by assumption) ?_
                try simp only [Act.put, List.setIfInBounds_toArray, List.set_cons_zero, List.set_cons_succ]
                refine wpAnyH_take (i := 27) (oi := { dst := some 103, op := Op.move (Operand.tmp 0), type := 65, pos := "ray.go:165", after := #[{ on := 25, ground := Ground.guard }], guard := some (25, true) }) (v := undef) rfl (by kernel_rfl) (by kernel_rfl) (by kernel_rfl) (fun _ _ _ h => h) (Or.inr ⟨by rfl, rfl⟩) (by assumption) ?_
                try simp only [Act.put, List.setIfInBounds_toArray, List.set_cons_zero, List.set_cons_succ]
                refine wpAnyH_take (i := 28) (oi := { dst := some 104, op := Op.nilCheck (Operand.tmp 103), type := 0, pos := "ray.go:165", after := #[{ on := 27, ground := Ground.data }, { on := 25, ground := Ground.guard }], guard := some (25, true) }) (v := undef) rfl (by kernel_rfl) (by kernel_rfl) (by kernel_rfl) (fun _ _ _ h => h) (Or.inr ⟨by rfl, rfl⟩) (by assumption) ?_
                try simp only [Act.put, List.setIfInBounds_toArray, List.set_cons_zero, List.set_cons_succ]
                refine wpAnyH_take (i := 29) (oi := { dst := some 105, op := Op.fieldAddr 49 (Operand.tmp 104) 2, type := 0, pos := "ray.go:165", after := #[{ on := 28, ground := Ground.data }, { on := 25, ground := Ground.guard }], guard := some (25, true) }) (v := undef) rfl (by kernel_rfl) (by kernel_rfl) (by kernel_rfl) (fun _ _ _ h => h) (Or.inr ⟨by rfl, rfl⟩) (by assumption) ?_
                try simp only [Act.put, List.setIfInBounds_toArray, List.set_cons_zero, List.set_cons_succ]
                refine wpAnyH_take (i := 30) (oi := { dst := some 106, op := Op.fieldAddr 38 (Operand.tmp 105) 1, type := 0, pos := "ray.go:165", after := #[{ on := 29, ground := Ground.data }, { on := 25, ground := Ground.guard }], guard := some (25, true) }) (v := undef) rfl (by kernel_rfl) (by kernel_rfl) (by kernel_rfl) (fun _ _ _ h => h) (Or.inr ⟨by rfl, rfl⟩) (by assumption) ?_
                try simp only [Act.put, List.setIfInBounds_toArray, List.set_cons_zero, List.set_cons_succ]
                refine wpAnyH_take (i := 31) (oi := { dst := some 107, op := Op.load 27 (Operand.tmp 106), type := 27, pos := "ray.go:165", after := #[{ on := 30, ground := Ground.data }, { on := 25, ground := Ground.guard }], guard := some (25, true) }) (v := undef) rfl (by kernel_rfl) (by kernel_rfl) (by kernel_rfl) (fun _ _ _ h => h) (Or.inr ⟨by rfl, rfl⟩) (by assumption) ?_
                try simp only [Act.put, List.setIfInBounds_toArray, List.set_cons_zero, List.set_cons_succ]
                refine wpAnyH_take (i := 32) (oi := { dst := some 108, op := Op.binOp BinOp.gtr 27 (Operand.tmp 102) (Operand.tmp 107) 27, type := 4, pos := "ray.go:165", after := #[{ on := 26, ground := Ground.data }, { on := 31, ground := Ground.data }, { on := 25, ground := Ground.guard }], guard := some (25, true) }) (v := undef) rfl (by kernel_rfl) (by kernel_rfl) (by kernel_rfl) (fun _ _ _ h => h) (Or.inr ⟨by rfl, rfl⟩) (by assumption) ?_
                try simp only [Act.put, List.setIfInBounds_toArray, List.set_cons_zero, List.set_cons_succ]
                refine wpAnyH_take (i := 33) (oi := { dst := some 109, op := Op.pick (Operand.tmp 101) (Operand.tmp 108) (Operand.const (Value.bool false)), type := 4, pos := "ray.go:165", after := #[{ on := 25, ground := Ground.data }, { on := 32, ground := Ground.data }, { on := 20, ground := Ground.guard }], guard := some (20, false) }) (v := ?_) rfl (by kernel_rfl) (by kernel_rfl) (by kernel_rfl) (fun _ _ _ h => h) (Or.inl ⟨by rfl, ?_⟩) (by assumption) ?_
                rotate_left
                · intro w hSw; (try dsimp only at hSw); go_simp; try with_reducible rfl
                try simp only [Act.put, List.setIfInBounds_toArray, List.set_cons_zero, List.set_cons_succ]
                refine wpAnyH_take (i := 34) (oi := { dst := some 110, op := Op.pick (Operand.tmp 96) (Operand.const (Value.bool true)) (Operand.tmp 109), type := 4, pos := "ray.go:165", after := #[{ on := 20, ground := Ground.data }, { on := 33, ground := Ground.data }], guard := none }) (v := ?_) rfl (by kernel_rfl) (by kernel_rfl) (by kernel_rfl) (fun _ _ _ h => h) (Or.inl ⟨by rfl, ?_⟩) (by assumption) ?_
                rotate_left
                · intro w hSw; (try dsimp only at hSw); go_simp; try with_reducible rfl
                try simp only [Act.put, List.setIfInBounds_toArray, List.set_cons_zero, List.set_cons_succ]
                refine wpAnyH_done (by kernel_rfl) ?_ _
                have BW := hHeld.2.2.2.2.2.2.2.2.2
                clear hHeld
                go_wp2_with fail
                go_meet
                exact ⟨rfl, BW⟩
              --]]F7
            · have g16b : wc.cell? ⟨q, 16, none⟩ = some (.bool true) := g16
              have g14b : wc.cell? ⟨q, 14, none⟩ = some (.float .f32 t0) := g14
              have o2 := oG nti (HSN.out k0 t0 rfl)
              by_cases d2 : Ieee.single.V t0 < Ieee.single.V ti
              · obtain rfl : bb = true := HBB.out.2 (hb2.2 (.inr (.inr ⟨k0, t0, rfl, d2⟩)))
                rw [decide_eq_true d2] at o2
                clear hb2 d1 f1 f2 fm hcr HBB g16 g14 d2
                --[[F8
                as_aux_lemma =>
                  go_region_held3 (fun w' => w'.cell? ⟨q, 5, none⟩ = some (.float .f32 r.X) ∧ w'.cell? ⟨q, 6, none⟩ = some (.float .f32 r.Y) ∧ w'.cell? ⟨q, 7, none⟩ = some (.float .f32 r.H) ∧ w'.cell? ⟨q, 8, none⟩ = some (.float .f32 r.DX) ∧ w'.cell? ⟨q, 9, none⟩ = some (.float .f32 r.DY) ∧ w'.cell? ⟨q, 10, none⟩ = some (.float .f32 r.DH) ∧ w'.cell? ⟨q, 11, none⟩ = some (.float .f32 r.Mo) ∧ w'.cell? ⟨q, 14, none⟩ = some (.float .f32 t0) ∧ w'.cell? ⟨q, 16, none⟩ = some (.bool true) ∧ w'.cell? ⟨w.heap.size, 4, none⟩ = some (.float .f32 hi) ∧ Below wc.heap.size wc w')
                        (first
                          | exact ⟨p0, p1, p2, p3, p4, p5, p6, by assumption, by assumption, hh4, (Below.refl _ _).drew⟩
                          | (go_split_ands
                             have hs := hb.size
                             have hs2 := (show Below wc.heap.size wc _ by assumption).size
                             refine ⟨?_, ?_, ?_, ?_, ?_, ?_, ?_, ?_, ?_, ?_, ?_⟩
                             all_goals first
                               | (rw [hb.cell (by simp; omega)]; assumption)
                               | exact Below.trans (by assumption) (hb.mono (by omega)))
                          | (go_split_ands; refine ⟨?_, ?_, ?_, ?_, ?_, ?_, ?_, ?_, ?_, ?_, ?_⟩ <;> assumption))
                        ((go_at_call 28; go_split_ands; first | (with_reducible refine (KH1.out _).mono ?_; rintro e2 w5 ⟨rfl, hb⟩) | (with_reducible refine (KH2.out _).mono ?_; rintro e2 w5 ⟨rfl, hb⟩)))
                  rename_i hHeld
                  have BW := hHeld.2.2.2.2.2.2.2.2.2.2
                  clear hHeld
                  go_wp2_with fail
                  go_meet
                  exact ⟨rfl, BW⟩
                --]]F8
              · rw [decide_eq_false d2] at o2
                obtain rfl : bb = false := by
                  cases bb with
                  | false => rfl
                  | true =>
                    rcases hb2.1 (HBB.out.1 rfl) with h | h | ⟨k1, t1, h, h'⟩
                    · exact absurd hcr h
                    · exact absurd h d1
                    · obtain ⟨rfl, rfl⟩ : k0 = k1 ∧ t0 = t1 := by simpa using h
                      exact absurd h' d2
                clear hb2 d1 f1 f2 fm hcr HBB g16 g14 d2
                --[[F9
                as_aux_lemma =>
                  go_region_held3 (fun w' => w'.cell? ⟨q, 5, none⟩ = some (.float .f32 r.X) ∧ w'.cell? ⟨q, 6, none⟩ = some (.float .f32 r.Y) ∧ w'.cell? ⟨q, 7, none⟩ = some (.float .f32 r.H) ∧ w'.cell? ⟨q, 8, none⟩ = some (.float .f32 r.DX) ∧ w'.cell? ⟨q, 9, none⟩ = some (.float .f32 r.DY) ∧ w'.cell? ⟨q, 10, none⟩ = some (.float .f32 r.DH) ∧ w'.cell? ⟨q, 11, none⟩ = some (.float .f32 r.Mo) ∧ w'.cell? ⟨q, 14, none⟩ = some (.float .f32 t0) ∧ w'.cell? ⟨q, 16, none⟩ = some (.bool true) ∧ w'.cell? ⟨w.heap.size, 4, none⟩ = some (.float .f32 hi) ∧ Below wc.heap.size wc w')
                        (first
                          | exact ⟨p0, p1, p2, p3, p4, p5, p6, by assumption, by assumption, hh4, (Below.refl _ _).drew⟩
                          | (go_split_ands
                             have hs := hb.size
                             have hs2 := (show Below wc.heap.size wc _ by assumption).size
                             refine ⟨?_, ?_, ?_, ?_, ?_, ?_, ?_, ?_, ?_, ?_, ?_⟩
                             all_goals first
                               | (rw [hb.cell (by simp; omega)]; assumption)
                               | exact Below.trans (by assumption) (hb.mono (by omega)))
                          | (go_split_ands; refine ⟨?_, ?_, ?_, ?_, ?_, ?_, ?_, ?_, ?_, ?_, ?_⟩ <;> assumption))
                        ((go_at_call 28; go_split_ands; first | (with_reducible refine (KH1.out _).mono ?_; rintro e2 w5 ⟨rfl, hb⟩) | (with_reducible refine (KH2.out _).mono ?_; rintro e2 w5 ⟨rfl, hb⟩)))
                  rename_i hHeld
                  have BW := hHeld.2.2.2.2.2.2.2.2.2.2
                  clear hHeld
                  go_wp2_with fail
                  go_meet
                  exact ⟨rfl, BW⟩
                --]]F9
          --]]F5
        --]]F4
      case rest =>
        obtain ⟨rfl, BW⟩ := hcut
        have SG : Sh wc q X Y Wn Hn (.slice (some ⟨b, o, none⟩) l.length c) r S n := Blk.below HSE.out BW lq4
        have HB6 := Lib.hid (HB5.out.trans (BW.mono HB5.out.size))
        have HSG := Lib.hid SG
        have lq5 := SG.lt
        have HW6 := Lib.hid (HW.out.call HB6.out)
        clear p0 p1 p2 p3 p4 p5 p6 g14 g16 hh4 lq4 lk4 HSE BW SG HB5 HBD HCB HCT HCN HSN HDK HLO
        cases bb with
        | true =>
          go_wp2_with fail
          exact bodyPost_ret (v := .tuple #[]) (by simp [results, Try.results23, go_sem, *]) rfl ⟨rfl, S, n, HSG.out, HBAD.out (HBB.out.1 (by first | trivial | rfl)), Nat.le_add_right _ _, But.of HB6.out⟩
        | false =>
          clear HBAD HBB
          rcases Nat.eq_zero_or_pos L with hL0 | hL0
          · subst hL0
            --[[G0
            have s17 : wc.cell? ⟨q, 17, none⟩ = some (.int .i64 (n : Int)) := HSG.out.cell 17
            have f17 := HSG.out.frozen 17
            have hn1 : n ≤ 1000000 := by omega
            have en : IntKind.i64.wrap ((n : Int) + 1) = (n : Int) + 1 := IntWalk.i64_in _ (by omega)
            have hSI := HSG.out.inc
            have BI : But w.heap.size (fun k => k = q) w (wc.setCell ⟨q, 17, none⟩ (.int .i64 ((n : Int) + 1))) := (show But w.heap.size (fun k => k = q) w wc from But.of HB6.out).set (p := ⟨q, 17, none⟩) (.inl rfl) _
            have WI : LkW (wc.setCell ⟨q, 17, none⟩ (.int .i64 ((n : Int) + 1))) q b o g gst gS l Wn Hn K := HW6.out.but ((show But wc.heap.size (fun k => k = q) wc wc from But.of (Below.refl wc.heap.size wc)).set (p := ⟨q, 17, none⟩) (.inl rfl) _)
            have hRB : Rb Wn Hn 0 x y = fun k => k = y * Wn + x := by
              funext k
              have h1 := ed_prog hw1 (HX.out 0 rfl)
              have h2 := ed_prog hh1 (HY.out 0 rfl)
              have hx := HX.out 0 rfl
              have hy := HY.out 0 rfl
              unfold lvN at hx hy
              unfold Rb
              rw [h1.1, h1.2.1, h2.1, h2.2.1, show min (2 ^ 0) (Wn - x * 2 ^ 0) = 1 by omega, show min (2 ^ 0) (Hn - y * 2 ^ 0) = 1 by omega, Nat.pow_zero, Nat.mul_one, Nat.mul_one]
              exact propext Rc.one
            have hnB : 1 ≤ nB Wn Hn 0 x y := by
              have h1 := ed_prog hw1 (HX.out 0 rfl)
              have h2 := ed_prog hh1 (HY.out 0 rfl)
              unfold nB
              exact Nat.mul_pos (by omega) (by omega)
            have hlen := HR.out.len
            have hkl : y * Wn + x < l.length := by
              have hx := HX.out 0 rfl
              have hy := HY.out 0 rfl
              unfold lvN at hx hy
              have := Nat.mul_le_mul_right Wn (show y + 1 ≤ Hn by omega)
              rw [Nat.add_mul, Nat.one_mul] at this
              omega
            have KT := Lib.hid (try_any X Y Wn Hn q b o c l r S (n + 1) (y * Wn + x) _ WI.row hc HR.out HRY.out hSI WI.nb hkl (mn_in HRY.out HR.out HPL.out HM.out))
            have HRB2 := Lib.hid hRB
            have HNB := Lib.hid hnB
            have HMU := Lib.hid (HM.out.up (y * Wn + x))
            have s2 : (wc.setCell ⟨q, 17, none⟩ (.int .i64 ((n : Int) + 1))).cell? ⟨q, 2, none⟩ = some (.int .i64 (Wn : Int)) := hSI.cell 2
            have lqI := hSI.lt
            have HBI := Lib.hid BI
            have HUP : Hid (upB S (y * Wn + x) (stO r X Y Wn l (y * Wn + x)) = upB S (y * Wn + x) (stF r (clB X Y Wn (y * Wn + x)) (l.getD (y * Wn + x) 0))) := Lib.hid rfl
            have hyW : y * Wn ≤ 262144 := Nat.le_trans (Nat.mul_le_mul (show y ≤ 512 by omega) hw2) (by omega)
            have eW : (y : Int) * (Wn : Int) = ((y * Wn : Nat) : Int) := by rw [Int.natCast_mul]
            clear hSI BI WI hRB hnB hlen hkl HB6 HSG HW6 HIH HM HNN
            obtain ⟨m2, hm2⟩ : ∃ m2, m2 = y * Wn := ⟨_, rfl⟩
            rw [← hm2] at eW hyW KT HRB2 HMU HUP
            have e1 : IntKind.i64.wrap ((y : Int) * (Wn : Int)) = (m2 : Int) := by rw [eW]; exact IntWalk.i64_in _ (by omega)
            clear hm2
            obtain ⟨kk, hkk⟩ : ∃ kk, kk = m2 + x := ⟨_, rfl⟩
            rw [← hkk] at KT HRB2 HMU HUP
            have e2 : IntKind.i64.wrap ((m2 : Int) + (x : Int)) = (kk : Int) := by rw [IntWalk.i64_in _ (by omega)]; omega
            have e3 : (m2 : Int) + (x : Int) = (kk : Int) := by omega
            clear hkk
            go_upto_region 7 with fail
            clear s17 f17 lq5
            generalize wc.setCell ⟨q, 17, none⟩ (.int .i64 ((n : Int) + 1)) = W7 at *
            go_wp2_with fail
            refine KT.out.mono ?_
            rintro e w8 ⟨rfl, hs8, hb8⟩
            have HS8 := Lib.hid hs8
            have HB8 := Lib.hid (HBI.out.trans (hb8.mono HBI.out.size))
            clear s2 lqI hs8 hb8 HBI KT
            go_wp2_with fail
            refine bodyPost_ret (v := .tuple #[]) (by simp [results, Try.results23, go_sem, *]) rfl ⟨rfl, _, n + 1, HS8.out, ?_, by have := HNB.out; omega, HB8.out⟩
            rw [← HUP.out]
            exact HMU.out.iff (fun k => by rw [HRB2.out])
            --]]G0
          · obtain ⟨L', hLL⟩ : ∃ L', L = L' + 1 := ⟨L - 1, by omega⟩
            have HIH2 := HIH.out hL0
            rw [show L - 1 = L' by omega] at HIH2
            have HI2 := Lib.hid HIH2
            have hLb : ((L : Int) == 0) = false := by rw [beq_eq_false_iff_ne]; omega
            have eL : (L : Int) - 1 = (L' : Int) := by omega
            have eL2 : IntKind.i64.wrap ((L : Int) - 1) = (L' : Int) := by rw [IntWalk.i64_in _ (by omega)]; omega
            have lL' : (L' : Int) < (K : Int) + 1 := by omega
            have lL3 : L' ≤ 9 := by omega
            have z0 := HW6.out.sz.2 _ _ (szs_get Wn Hn (K + 1) L' (by omega)).1
            have z1 := HW6.out.sz.2 _ _ (szs_get Wn Hn (K + 1) L' (by omega)).2
            have lS := HW6.out.sz.1
            have bW := lvN_bound hw2 L'
            have bH := lvN_bound hh2 L'
            have HA : Hid (ed Wn L x = ed Wn L' (2 * x)) := by unfold Hid; rw [hLL, ed_two]
            have HBb : Hid (ed Wn L (x + 1) = ed Wn L' (min (2 * x + 2) (lvN Wn L'))) := by unfold Hid; rw [hLL, ed_last]
            have HC : Hid (ed Hn L y = ed Hn L' (2 * y)) := by unfold Hid; rw [hLL, ed_two]
            have HDd : Hid (ed Hn L (y + 1) = ed Hn L' (min (2 * y + 2) (lvN Hn L'))) := by unfold Hid; rw [hLL, ed_last]
            have hxL : 2 * x < lvN Wn L' := by have := HX.out (L' + 1) hLL.symm; unfold lvN at this; omega
            have hyL : 2 * y < lvN Hn L' := by have := HY.out (L' + 1) hLL.symm; unfold lvN at this; omega
            have HRB3 : Hid (∀ k, Pj P Wn (ed Wn L x) (ed Wn L (x + 1)) (ed Hn L y) (ed Hn L (y + 1)) k ↔ (P k ∨ Rb Wn Hn L x y k)) := fun k => Iff.rfl
            have HNB3 : Hid (nB Wn Hn L x y = (ed Wn L (x + 1) - ed Wn L x) * (ed Hn L (y + 1) - ed Hn L y)) := Lib.hid rfl
            have HLE : Hid (ed Wn L (x + 1) ≤ Wn ∧ ed Hn L (y + 1) ≤ Hn) := ⟨ed_le _ _ _, ed_le _ _ _⟩
            have HCN : Hid (n + (ed Wn L (x + 1) - ed Wn L x) * (ed Hn L (y + 1) - ed Hn L y) ≤ 1000000) := Lib.hid hn
            have HLEN := Lib.hid HR.out.len
            generalize ed Wn L x = a at *
            generalize ed Wn L (x + 1) = b' at *
            generalize ed Hn L y = c' at *
            generalize ed Hn L (y + 1) = d at *
            generalize hpW : lvN Wn L' = pW at *
            generalize hpH : lvN Hn L' = pH at *
            have HPW := Lib.hid hpW
            have HPH := Lib.hid hpH
            obtain ⟨x2', hx2⟩ : ∃ z, z = 2 * x := ⟨_, rfl⟩
            obtain ⟨y2', hy2⟩ : ∃ z, z = 2 * y := ⟨_, rfl⟩
            rw [← hx2] at HA HBb hxL
            rw [← hy2] at HC HDd hyL
            obtain ⟨x4, hx4⟩ : ∃ z, z = x2' + 2 := ⟨_, rfl⟩
            obtain ⟨y4, hy4⟩ : ∃ z, z = y2' + 2 := ⟨_, rfl⟩
            rw [← hx4] at HBb
            rw [← hy4] at HDd
            have mX := min_nat x4 pW
            have mY := min_nat y4 pH
            have eX0 : (2 : Int) * (x : Int) = (x2' : Int) := by omega
            have eY0 : (2 : Int) * (y : Int) = (y2' : Int) := by omega
            have eX1 : IntKind.i64.wrap ((2 : Int) * (x : Int)) = (x2' : Int) := by rw [eX0]; exact IntWalk.i64_in _ (by omega)
            have eY1 : IntKind.i64.wrap ((2 : Int) * (y : Int)) = (y2' : Int) := by rw [eY0]; exact IntWalk.i64_in _ (by omega)
            have eX2 : IntKind.i64.wrap ((x2' : Int) + 2) = (x4 : Int) := by rw [IntWalk.i64_in _ (by omega)]; omega
            have eY2 : IntKind.i64.wrap ((y2' : Int) + 2) = (y4 : Int) := by rw [IntWalk.i64_in _ (by omega)]; omega
            have eX3 : (x2' : Int) + 2 = (x4 : Int) := by omega
            have eY3 : (y2' : Int) + 2 = (y4 : Int) := by omega
            have liE : min x4 pW ≤ 512 := by omega
            have ljE : min y4 pH ≤ 512 := by omega
            have hxi : x2' ≤ min x4 pW := by omega
            have hyj : y2' ≤ min y4 pH := by omega
            have hiW : min x4 pW ≤ pW := by omega
            have hjH : min y4 pH ≤ pH := by omega
            clear hx2 hy2 hx4 hy4 hLL hL0 HIH2 HIH hpW hpH hn
            generalize min x4 pW = iE at *
            generalize min y4 pH = jE at *
            go_upto_region 9 with fail
            have I0 : LkI w (wc.alloc (.cells #[.int .i64 (pW : Int), .int .i64 (pH : Int)] 59)) q b o g gst gS l Wn Hn K X Y (.slice (some ⟨b, o, none⟩) l.length c) r wc.heap.size pW pH (Pj P Wn a b' c' (ed Hn L' y2')) (n + (b' - a) * (ed Hn L' y2' - c')) S n := by
              have bA : Below wc.heap.size wc (wc.alloc (.cells #[.int .i64 (pW : Int), .int .i64 (pH : Int)] 59)) := (Below.refl _ _).alloc (Nat.le_refl _) _
              refine ⟨HW6.out.call bA, Blk.alloc HSG.out _, ?_, Nat.le_add_right _ _, But.of (HB6.out.trans (bA.mono HB6.out.size)), Blk.new _ _ _⟩
              rw [← HC.out]
              exact HM.out.iff (fun k => ⟨fun h => .inl h, fun h => h.elim id (fun h => absurd h Rc.empty_c)⟩)
            have HI0 := Lib.hid I0
            clear I0 z0 z1 lS lq5 HB6 HSG HW6 HM lL'
            generalize wc.alloc (.cells #[.int .i64 (pW : Int), .int .i64 (pH : Int)] 59) = W8 at *
            generalize wc.heap.size = k9 at *
            go_wp2_with fail
            go_loopw [20] (fun v wr => ∃ (j : Nat) (S' : Option (Nat × Nat)) (n' : Nat), y2' ≤ j ∧ j ≤ jE ∧ v = .int .i64 (j : Int) ∧ Hid (LkI w wr q b o g gst gS l Wn Hn K X Y (.slice (some ⟨b, o, none⟩) l.length c) r k9 pW pH (Pj P Wn a b' c' (ed Hn L' j)) (n + (b' - a) * (ed Hn L' j - c')) S' n')) (fun v _ => jE - (intOf v).toNat)
            case atStart => exact ⟨y2', S, n, Nat.le_refl _, hyj, rfl, HI0⟩
            case round =>
              clear HI0 S
              obtain ⟨j, S1, n1, hj0, hj1, rfl, HI⟩ := hrel
              have z1 : wr.cell? ⟨k9, 1, none⟩ = some (.int .i64 (pH : Int)) := HI.out.pr.cell 1
              have lk9 := HI.out.pr.lt
              by_cases hlt : j < jE
              · have hlt' : (j : Int) < (jE : Int) := by omega
                have HI1 : Hid (LkI w wr q b o g gst gS l Wn Hn K X Y (.slice (some ⟨b, o, none⟩) l.length c) r k9 pW pH (fun k => Pj P Wn a b' c' (ed Hn L' j) k ∨ Rc Wn a (ed Wn L' x2') (ed Hn L' j) (ed Hn L' (j + 1)) k) (n + (b' - a) * (ed Hn L' j - c') + (ed Wn L' x2' - a) * (ed Hn L' (j + 1) - ed Hn L' j)) S1 n1) := by
                  unfold Hid
                  rw [← HA.out]
                  exact HI.out.as (fun k => ⟨fun h => .inl h, fun h => h.elim id (fun h => absurd h Rc.empty_a)⟩) (by rw [Nat.sub_self, Nat.zero_mul, Nat.add_zero])
                clear HI
                go_upto_region 12 with fail
                clear z1 lk9
                go_wp2_with fail
                go_loopw [21] (fun v wx => ∃ (i : Nat) (S' : Option (Nat × Nat)) (n' : Nat), x2' ≤ i ∧ i ≤ iE ∧ v = .int .i64 (i : Int) ∧ Hid (LkI w wx q b o g gst gS l Wn Hn K X Y (.slice (some ⟨b, o, none⟩) l.length c) r k9 pW pH (fun k => Pj P Wn a b' c' (ed Hn L' j) k ∨ Rc Wn a (ed Wn L' i) (ed Hn L' j) (ed Hn L' (j + 1)) k) (n + (b' - a) * (ed Hn L' j - c') + (ed Wn L' i - a) * (ed Hn L' (j + 1) - ed Hn L' j)) S' n')) (fun v _ => iE - (intOf v).toNat)
                case atStart => exact ⟨x2', S1, n1, Nat.le_refl _, hxi, rfl, HI1⟩
                case round =>
                  clear HI1
                  obtain ⟨i, S2, n2, hi0, hi1, rfl, HI⟩ := hrel
                  have z0 : wr.cell? ⟨k9, 0, none⟩ = some (.int .i64 (pW : Int)) := HI.out.pr.cell 0
                  have lk9 := HI.out.pr.lt
                  by_cases hlti : i < iE
                  · have hlti' : (i : Int) < (iE : Int) := by omega
                    have hai : a ≤ ed Wn L' i := by rw [HA.out]; exact ed_mono hi0
                    have hcj : c' ≤ ed Hn L' j := by rw [HC.out]; exact ed_mono hj0
                    have hib : ed Wn L' (i + 1) ≤ b' := by rw [HBb.out]; exact ed_mono hlti
                    have hjd : ed Hn L' (j + 1) ≤ d := by rw [HDd.out]; exact ed_mono hlt
                    have hcnt := cnt_fit hai hib hcj hjd HCN.out
                    have hle := HI.out.le
                    have hPP : ∀ k, (Pj P Wn a b' c' (ed Hn L' j) k ∨ Rc Wn a (ed Wn L' i) (ed Hn L' j) (ed Hn L' (j + 1)) k) → k < l.length := by
                      rintro k ((h | h) | h)
                      · exact HPL.out k h
                      · rw [HLEN.out]; exact (rc_lt h HLE.out.1 (ed_le _ _ _)).1
                      · rw [HLEN.out]; exact (rc_lt h (ed_le _ _ _) (ed_le _ _ _)).1
                    have KL := Lib.hid (HI2.out i j S2 n2 _ wr HI.out.lk HI.out.sh (by omega) (by omega) hPP HI.out.mn (by omega))
                    have HAI := Lib.hid hai
                    clear hai hcj hib hjd hcnt hle hPP
                    go_wp2_with fail
                    refine KL.out.mono ?_
                    intro e w3 hk
                    obtain ⟨S3, n3, hI3⟩ := HI.out.next hk
                    have he := And.left hk
                    clear hk
                    subst he
                    have HI3 := Lib.hid hI3
                    clear hI3 KL HI z0 lk9
                    go_wp2_with fail
                    go_roundw
                    case rel => exact ⟨i + 1, S3, n3, by omega, by omega, by go_num, Lib.hid (HI3.out.as (inner_next HAI.out) (inner_cnt HAI.out))⟩
                    case measure => simp [intOf]; omega
                  · obtain rfl : i = iE := by omega
                    have HI3 : Hid (LkI w wr q b o g gst gS l Wn Hn K X Y (.slice (some ⟨b, o, none⟩) l.length c) r k9 pW pH (Pj P Wn a b' c' (ed Hn L' (j + 1))) (n + (b' - a) * (ed Hn L' (j + 1) - c')) S2 n2) := by
                      have hcj : c' ≤ ed Hn L' j := by rw [HC.out]; exact ed_mono hj0
                      have h := HI.out
                      rw [← HBb.out] at h
                      exact h.as (outer_next hcj) (outer_cnt hcj)
                    clear HI
                    go_wp2_with fail
                    go_roundw
                    case rel => exact ⟨j + 1, S2, n2, by omega, by omega, by go_num, HI3⟩
                    case measure => simp [intOf]; omega
              · obtain rfl : j = jE := by omega
                have HZ : Hid (∃ S' n', Sh wr q X Y Wn Hn (.slice (some ⟨b, o, none⟩) l.length c) r S' n' ∧ Mn (stO r X Y Wn l) (fun k => P k ∨ Rb Wn Hn L x y k) S' ∧ n' ≤ n + nB Wn Hn L x y ∧ But w.heap.size (fun k => k = q) w wr) := by
                  have h := HI.out
                  rw [← HDd.out] at h
                  exact ⟨S1, n1, h.sh, h.mn.iff HRB3.out, by rw [HNB3.out]; exact h.le, h.but⟩
                clear HI
                go_wp2_with fail
                exact bodyPost_ret (v := .tuple #[]) (by simp [results, Try.results23, go_sem, *]) rfl ⟨rfl, HZ.out⟩
end Go.Proofs.Ytiiogjjjgoeghaa
