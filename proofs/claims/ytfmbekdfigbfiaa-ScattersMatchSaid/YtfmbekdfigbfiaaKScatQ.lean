import Derived.Test.YtfmbekdfigbfiaaKScatP
import Derived.Deep.DeepCutAuto
namespace Go.Proofs.Ytfmbekdfigbfiaa
open Go.ChangeShapes Go.WideShapes Go.ChangeAt Go.RowKit
open Ieee.Format (fin finE htE allFin allHt all_true all_false mulF subF addF Ht Bd divF rootF floorF easeF mixF)
set_option linter.unusedVariables false
open Wide

set_option maxRecDepth 100000 in
set_option maxHeartbeats 8000000 in
theorem scatter_ok (seed c : Int) (sh : Nat) (ap X Y : Int) (P Q : Nat) (hs : sh < 4294967296) (h0 : scE c sh ap = 0) (hc : chk X Y P Q = 0) (hP : P ≤ 32) (hQ : Q ≤ 32) (w : World) :
    Calls Try.prog 46 #[scV seed c sh ap, reg X Y P Q] w fun e w' => ∃ v, e = .returned (.tuple #[v, .int .i64 0]) ∧ PtsV w' v (srt (scL seed c sh ap X Y P Q)) ∧ Below w.heap.size w w' := by
  obtain ⟨c1, c2, a0, a2, _⟩ := scE_zero h0
  obtain ⟨z1, z2, z3, z4, z5, z6, z7, z8, _⟩ := chk_zero hc
  obtain ⟨x1, x2, x3, x4, x5, x6, x7, x8⟩ := lat_facts (X := X) (P := P) c1 c2 (by omega) hP (by omega) (by omega)
  obtain ⟨y1, y2, y3, y4, y5, y6, y7, y8⟩ := lat_facts (X := Y) (P := Q) c1 c2 (by omega) hQ (by omega) (by omega)
  have K := Lib.hid (fun w => chksc_any seed c sh ap hs w)
  have KR := Lib.hid (fun w => check1 X Y P Q w)
  rw [h0] at K
  rw [hc] at KR
  have KL1 := Lib.hid (fun w => lat_any X c w (by omega) (by omega) (by omega) (by omega))
  have KL2 := Lib.hid (fun w => lat_any Y c w (by omega) (by omega) (by omega) (by omega))
  have KL3 := Lib.hid (fun w => lat_any (X + P - 1) c w (by omega) (by omega) (by omega) (by omega))
  have KL4 := Lib.hid (fun w => lat_any (Y + Q - 1) c w (by omega) (by omega) (by omega) (by omega))
  have HSC : Hid (scL seed c sh ap X Y P Q = fmL seed c sh ap X Y P Q (boxL (X / c) (Y / c) (latN X c P) (latN Y c Q))) := rfl
  clear x6 x7 x8 y6 y7 y8
  generalize hi : X / c = i at *
  generalize hj : Y / c = j at *
  generalize (X + (P : Int) - 1) / c = i1 at *
  generalize (Y + (Q : Int) - 1) / c = j1 at *
  generalize latN X c P = Wn at *
  generalize latN Y c Q = Hn at *
  clear hi hj
  obtain ⟨A, hA⟩ : ∃ A : Nat, A = Wn + 4 := ⟨_, rfl⟩
  obtain ⟨Bn, hBn⟩ : ∃ Bn : Nat, Bn = Hn + 4 := ⟨_, rfl⟩
  have KC := Lib.hid (fun w => candidates_any seed c sh ap (i - 2) (j - 2) A Bn w c1 c2 (by omega) (by omega) (by omega) (by omega) (by omega) (by omega))
  have BA : Hid (Below w.heap.size w ((w.alloc (.cells #[.int .u32 seed, .int .i64 c, .float .f32 sh, .int .i64 ap] 93)).alloc (.cells #[.int .i64 X, .int .i64 Y, .int .i64 (P : Int), .int .i64 (Q : Int)] 23))) := Lib.hid (by repeat (first | with_reducible exact Below.refl _ _ | with_reducible apply Below.drew | with_reducible refine below_drewN ?_ _ | (with_reducible refine Below.setCell ?_ ?_ _; rotate_left; focus (first | omega | (simp <;> omega))) | (with_reducible refine Below.alloc ?_ ?_ _; rotate_left; focus (first | omega | (simp <;> omega)))))
  have HS : Hid (Blk ((w.alloc (.cells #[.int .u32 seed, .int .i64 c, .float .f32 sh, .int .i64 ap] 93)).alloc (.cells #[.int .i64 X, .int .i64 Y, .int .i64 (P : Int), .int .i64 (Q : Int)] 23)) w.heap.size (scC seed c sh ap) 93) := Lib.hid ((Blk.new _ _ _).alloc _)
  have HR : Hid (Reg ((w.alloc (.cells #[.int .u32 seed, .int .i64 c, .float .f32 sh, .int .i64 ap] 93)).alloc (.cells #[.int .i64 X, .int .i64 Y, .int .i64 (P : Int), .int .i64 (Q : Int)] 23)) (w.heap.size + 1) X Y P Q) := by
    have := Reg.new (w.alloc (.cells #[.int .u32 seed, .int .i64 c, .float .f32 sh, .int .i64 ap] 93)) X Y P Q
    exact Lib.hid (by simpa using this)
  unfold scV scC at *
  go_enter Try.func46, Try.ntmps46
  go_wp2_with fail
  generalize (w.alloc (.cells #[.int .u32 seed, .int .i64 c, .float .f32 sh, .int .i64 ap] 93)).alloc (.cells #[.int .i64 X, .int .i64 Y, .int .i64 (P : Int), .int .i64 (Q : Int)] 23) = W0 at *
  refine (K.out _).mono ?_
  rintro e w1 ⟨rfl, b1⟩
  have HS1 := Lib.hid (HS.out.below b1 HS.out.lt)
  have HR1 := Lib.hid (HR.out.below b1 HR.out.lt)
  have HB1 := Lib.hid (BA.out.trans (b1.mono BA.out.size))
  clear b1 HS HR BA K
  obtain ⟨r0, r1, r2, r3⟩ := HR1.out.cells
  have lr := HR1.out.lt
  have s1 := HS1.out.cell 1
  simp at s1
  have ls := HS1.out.lt
  go_wp2_with fail
  refine (KR.out _).mono ?_
  rintro e w2 ⟨rfl, b2⟩
  have HS2 := Lib.hid (HS1.out.below b2 HS1.out.lt)
  have HR2 := Lib.hid (HR1.out.below b2 HR1.out.lt)
  have HB2 := Lib.hid (HB1.out.trans (b2.mono HB1.out.size))
  clear b2 HS1 HR1 HB1 r0 r1 r2 r3 lr s1 ls
  obtain ⟨r0, r1, r2, r3⟩ := HR2.out.cells
  have lr := HR2.out.lt
  have s0 := HS2.out.cell 0
  have s1 := HS2.out.cell 1
  simp at s1 s0
  have ls := HS2.out.lt
  clear s0
  go_wp2_with fail
  refine (KL1.out _).mono ?_
  rintro e w3 ⟨rfl, b2⟩
  have HS3 := Lib.hid (HS2.out.below b2 HS2.out.lt)
  have HR3 := Lib.hid (HR2.out.below b2 HR2.out.lt)
  have HB3 := Lib.hid (HB2.out.trans (b2.mono HB2.out.size))
  clear b2 HS2 HR2 HB2 r0 r1 r2 r3 lr s1 ls
  obtain ⟨r0, r1, r2, r3⟩ := HR3.out.cells
  have lr := HR3.out.lt
  have s0 := HS3.out.cell 0
  have s1 := HS3.out.cell 1
  simp at s1 s0
  have ls := HS3.out.lt
  clear s0
  go_wp2_with fail
  refine (KL2.out _).mono ?_
  rintro e w4 ⟨rfl, b2⟩
  have HS4 := Lib.hid (HS3.out.below b2 HS3.out.lt)
  have HR4 := Lib.hid (HR3.out.below b2 HR3.out.lt)
  have HB4 := Lib.hid (HB3.out.trans (b2.mono HB3.out.size))
  clear b2 HS3 HR3 HB3 r0 r1 r2 r3 lr s1 ls
  obtain ⟨r0, r1, r2, r3⟩ := HR4.out.cells
  have lr := HR4.out.lt
  have s0 := HS4.out.cell 0
  have s1 := HS4.out.cell 1
  simp at s1 s0
  have ls := HS4.out.lt
  clear s0
  go_wp2_with fail
  refine (KL3.out _).mono ?_
  rintro e w5 ⟨rfl, b2⟩
  have HS5 := Lib.hid (HS4.out.below b2 HS4.out.lt)
  have HR5 := Lib.hid (HR4.out.below b2 HR4.out.lt)
  have HB5 := Lib.hid (HB4.out.trans (b2.mono HB4.out.size))
  clear b2 HS4 HR4 HB4 r0 r1 r2 r3 lr s1 ls
  obtain ⟨r0, r1, r2, r3⟩ := HR5.out.cells
  have lr := HR5.out.lt
  have s0 := HS5.out.cell 0
  have s1 := HS5.out.cell 1
  simp at s1 s0
  have ls := HS5.out.lt
  clear s0
  go_wp2_with fail
  refine (KL4.out _).mono ?_
  rintro e w6 ⟨rfl, b2⟩
  have HS6 := Lib.hid (HS5.out.below b2 HS5.out.lt)
  have HR6 := Lib.hid (HR5.out.below b2 HR5.out.lt)
  have HB6 := Lib.hid (HB5.out.trans (b2.mono HB5.out.size))
  clear b2 HS5 HR5 HB5 r0 r1 r2 r3 lr s1 ls
  obtain ⟨r0, r1, r2, r3⟩ := HR6.out.cells
  have lr := HR6.out.lt
  have s0 := HS6.out.cell 0
  have s1 := HS6.out.cell 1
  simp at s1 s0
  have ls := HS6.out.lt
  clear s0
  have s0 := HS6.out.cell 0
  have s2 := HS6.out.cell 2
  have s3 := HS6.out.cell 3
  simp at s0 s2 s3
  have hA' : (Wn : Int) + 4 = (A : Int) := by omega
  have hB' : (Hn : Int) + 4 = (Bn : Int) := by omega
  have hA2 : A ≤ 37 := by omega
  have hB2 : Bn ≤ 37 := by omega
  have HA := Lib.hid hA
  have HBn := Lib.hid hBn
  clear KL1 KL2 KL3 KL4 KR hA hBn
  go_wp2_with fail
  refine (KC.out _).mono ?_
  rintro e w7 ⟨v7, rfl, own7, b7⟩
  obtain ⟨g, cap, rfl, hcap⟩ : ∃ g cap, v7 = .slice (some ⟨g, 0, none⟩) (Bn * A) cap ∧ Bn * A ≤ cap := by
    rcases own7.2 with ⟨_, h0⟩ | ⟨g, cap, cur, he, _, _, hcc, _⟩
    · have := Nat.mul_le_mul (show 1 ≤ Bn by have := HBn.out; omega) (show 1 ≤ A by have := HA.out; omega)
      omega
    · exact ⟨g, cap, he, hcc⟩
  have hcr : CanR seed c sh w7 g (boxL (i - 2) (j - 2) A Bn) := CanR.of own7 (box_len _ _ _ _).symm
  have I7 : ScI seed c sh ap X Y P Q w w7 w7.heap.size g (boxL (i - 2) (j - 2) A Bn) (.slice none 0 0) [] :=
    ⟨HS6.out.below b7 HS6.out.lt, HR6.out.below b7 HR6.out.lt, hcr, Nat.lt_of_lt_of_le HR6.out.lt b7.size, hcr.1, Nat.le_refl _, World.ownsRow_nil _ _ _ _, HB6.out.trans (b7.mono HB6.out.size)⟩
  have HI7 := Lib.hid I7
  obtain ⟨i0, hi0, hz0, hz1, hz2⟩ := info_parts Try.infoPt
  have KH := Lib.hid (fun k l w a b d e hr => chosen_any seed c sh ap (i - 2) (j - 2) A Bn k l g cap w c1 c2 a0 a2 (show A ≤ 64 by omega) (show Bn ≤ 64 by omega) (by omega) (by omega) (by omega) (by omega) a b d e hr hcap)
  have HBA := Lib.hid (fun m n hn hn2 hm hm2 => box_atI (i - 2) (j - 2) A Bn (n := n) (m := m) hn hn2 hm hm2)
  have HBT := Lib.hid (fun l k hk hl => box_take i j Wn Hn l k hk hl)
  have HBL := Lib.hid (box_len i j Wn Hn)
  have hNN : Bn * A ≤ 1369 := Nat.mul_le_mul hB2 hA2
  have hWH : Hn * Wn ≤ 1369 := Nat.mul_le_mul (show Hn ≤ 37 by omega) (show Wn ≤ 37 by omega)
  have KP1 := Lib.hid (fun x y kk w h hk => place_in X Y P Q x y kk w (by omega) (by omega) (by omega) (by omega) (by omega) (by omega) (by omega) (by omega) h hk)
  have KP2 := Lib.hid (fun x y w h => place_out X Y P Q x y w (by omega) (by omega) (by omega) (by omega) (by omega) (by omega) (by omega) (by omega) h)
  clear own7 b7 hcr I7 HS6 HR6 HB6 KC r0 r1 r2 r3 lr s0 s1 s2 s3 ls
  generalize hNNe : Bn * A = NN at *
  have HNN := Lib.hid hNNe
  clear hNNe
  go_upto_region 14 with fail
  generalize hBB : w7.heap.size = BB at *
  clear hBB
  go_upto_region 15 with fail
  go_loopw [19, 20, 21, 22, 23, 24] (fun ov lv _ _ _ _ wr => ∃ (l : Nat) (v : Value), l ≤ Hn ∧ lv = .int .i64 ((l : Int) + 2) ∧ ov = v ∧ ScI seed c sh ap X Y P Q w wr BB g (boxL (i - 2) (j - 2) A Bn) v (fmL seed c sh ap X Y P Q ((boxL i j Wn Hn).take (l * Wn)))) (fun _ lv _ _ _ _ _ => ((Hn : Int) + 2 - intOf lv).toNat)
  case atStart => exact ⟨0, _, by omega, by simp, rfl, by simpa [fmL] using HI7.out⟩
  case round =>
    clear HI7
    obtain ⟨l, v, hl, rfl, rfl, I⟩ := hrel
    have HI := Lib.hid I
    clear I
    by_cases hlt : l < Hn
    · have hlt' : (l : Int) + 2 < (Bn : Int) - 2 := by omega
      go_upto_region 18 with fail
      go_loopw [19, 21, 22, 23, 24] (fun ov kv _ _ _ wr => ∃ (k : Nat) (v : Value), k ≤ Wn ∧ kv = .int .i64 ((k : Int) + 2) ∧ ov = v ∧ ScI seed c sh ap X Y P Q w wr BB g (boxL (i - 2) (j - 2) A Bn) v (fmL seed c sh ap X Y P Q ((boxL i j Wn Hn).take (l * Wn + k)))) (fun _ kv _ _ _ _ => ((Wn : Int) + 2 - intOf kv).toNat)
      case atStart => exact ⟨0, _, by omega, by simp, rfl, by simpa using HI.out⟩
      case round =>
        clear HI
        obtain ⟨k, v, hk, rfl, rfl, I⟩ := hrel
        have HI := Lib.hid I
        clear I
        by_cases hlk : k < Wn
        · have hlk' : (k : Int) + 2 < (A : Int) - 2 := by omega
          obtain ⟨p0, p1, p2⟩ := HBA.out ((l : Int) + 2) ((k : Int) + 2) (by omega) (by omega) (by omega) (by omega)
          obtain ⟨q, hq⟩ : ∃ q : Int × Int, q = (i + (k : Int), j + (l : Int)) := ⟨_, rfl⟩
          have hq2 : (i - 2 + ((k : Int) + 2), j - 2 + ((l : Int) + 2)) = q := by rw [hq]; exact Prod.ext (by simp only; omega) (by simp only; omega)
          have KH1 := Lib.hid (fun w hr => KH.out ((k : Int) + 2) ((l : Int) + 2) w (by omega) (by omega) (by omega) (by omega) hr)
          rw [hq2] at p2 KH1
          have HT := HBT.out l k hlk hlt
          rw [← hq] at HT
          have hN := fmL_next (seed := seed) (c := c) (sh := sh) (ap := ap) (X := X) (Y := Y) (P := P) (Q := Q) (L := (boxL i j Wn Hn).take (l * Wn + k)) (q := q)
          rw [HT] at hN
          have HN := Lib.hid hN
          have hml : (fmL seed c sh ap X Y P Q ((boxL i j Wn Hn).take (l * Wn + k))).length ≤ 1369 := Nat.le_trans (fmL_len _ _ _ _ _ _ _ _ _) (by rw [List.length_take, HBL.out]; omega)
          generalize fmL seed c sh ap X Y P Q ((boxL i j Wn Hn).take (l * Wn + k)) = m0 at *
          generalize hpw : ((l : Int) + 2) * (A : Int) = pw at *
          have cz := fun t ht => HI.out.a.2 _ q p2 t ht
          have d0 := cz 0 (by omega)
          have d1 := cz 1 (by omega)
          have d2 := cz 2 (by omega)
          have d3 := cz 3 (by omega)
          obtain ⟨px, hpx⟩ : ∃ z, z = (plI seed c q).1 := ⟨_, rfl⟩
          obtain ⟨py, hpy⟩ : ∃ z, z = (plI seed c q).2 := ⟨_, rfl⟩
          obtain ⟨tq, htq⟩ : ∃ z, z = thB seed sh q := ⟨_, rfl⟩
          obtain ⟨rq, hrq⟩ : ∃ z, z = rkI seed q := ⟨_, rfl⟩
          obtain ⟨cq, hcq⟩ : ∃ z, z = chB ap (thB seed sh) (rkI seed) (plI seed c) q := ⟨_, rfl⟩
          have hcd : candC seed c sh q = [.int .i64 px, .int .i64 py, .bool tq, .int .u32 rq] := by rw [hpx, hpy, htq, hrq]; rfl
          have hpl : plI seed c q = (px, py) := by rw [hpx, hpy]
          rw [hcd] at d0 d1 d2 d3
          rw [← hcq] at KH1
          rw [hpl, ← htq, ← hcq] at hN
          simp only [List.getElem?_cons_zero, List.getElem?_cons_succ, Nat.add_zero] at d0 d1 d2 d3
          have HN := Lib.hid hN
          have lg := HI.out.a.1
          have i1' : 0 ≤ pw + ((k : Int) + 2) := by omega
          have hR := HI.out.r
          clear cz p2 hq hq2 HT hN hpx hpy htq hrq hcq hcd hpl
          go_upto_region 21 with fail
          have hI2 := HI.out.alloc (.cells #[.int .i64 px, .int .i64 py, .bool tq, .int .u32 rq] 182)
          have hD2 := Blk.new wr #[.int .i64 px, .int .i64 py, .bool tq, .int .u32 rq] 182
          generalize wr.alloc (.cells #[.int .i64 px, .int .i64 py, .bool tq, .int .u32 rq] 182) = W2 at *
          have HI2 := Lib.hid hI2
          have HD2 := Lib.hid hD2
          generalize wr.heap.size = kd at *
          clear hI2 hD2 d0 d1 d2 d3 HI hR lg
          obtain ⟨r0, r1, r2, r3⟩ := HI2.out.r.cells
          have lr := HI2.out.r.lt
          have x0 := HD2.out.cell 0
          have x1' := HD2.out.cell 1
          simp at x0 x1'
          have lx := HD2.out.lt
          by_cases hin : inR X Y P Q px py
          · have hib : insR X Y P Q (px, py) = true := decide_eq_true hin
            obtain ⟨m1, m2, m3, m4⟩ := cellNo_in (X := X) (Y := Y) (W := (P : Int)) (H := (Q : Int)) (by omega) (by omega) (by omega) (by omega) hin.1 hin.2.1 hin.2.2.1 hin.2.2.2
            have KP := Lib.hid (fun w => KP1.out px py (cellNo X Y P px py).toNat w hin (by omega))
            rw [hib] at HN
            have HNN2 := HN
            generalize (cellNo X Y P px py).toNat = kk at *
            clear hin hib m1 m2 m3 m4
            go_wp2_with fail
            refine (KP.out _).mono ?_
            rintro e w3 ⟨rfl, b3⟩
            have HI3 := Lib.hid (HI2.out.call b3)
            have HD3 := Lib.hid (HD2.out.below b3 HD2.out.lt)
            clear b3 HI2 HD2 r0 r1 r2 r3 lr x0 x1' lx
            have x0 := HD3.out.cell 0
            have x1' := HD3.out.cell 1
            have x2' := HD3.out.cell 2
            simp at x0 x1' x2'
            have lx := HD3.out.lt
            have s0 := HI3.out.s.cell 0
            have s1 := HI3.out.s.cell 1
            have s2 := HI3.out.s.cell 2
            have s3 := HI3.out.s.cell 3
            unfold scC at s0 s1 s2 s3
            simp at s0 s1 s2 s3
            have ls := HI3.out.s.lt
            cases tq with
            | false =>
              go_wp2_with fail
              go_roundw
              case rel => exact ⟨k + 1, _, by omega, by go_num, rfl, by rw [HN.out]; simpa using HI3.out⟩
              case measure => simp [intOf]; omega
            | true =>
              go_wp2_with fail
              refine (KH1.out _ HI3.out.a).mono ?_
              rintro e w4 ⟨rfl, b4⟩
              have HI4 := Lib.hid (HI3.out.call b4)
              have HD4 := Lib.hid (HD3.out.below b4 HD3.out.lt)
              clear b4 HI3 HD3 x0 x1' x2' lx s0 s1 s2 s3 ls
              cases cq with
              | false =>
                go_wp2_with fail
                go_roundw
                case rel => exact ⟨k + 1, _, by omega, by go_num, rfl, by rw [HN.out]; simpa using HI4.out⟩
                case measure => simp [intOf]; omega
              | true =>
                have x0 := HD4.out.cell 0
                have x1' := HD4.out.cell 1
                simp at x0 x1'
                have lx := HD4.out.lt
                have G1 : Hid (m0.length + 1 ≤ maxLen) := by unfold maxLen Hid; omega
                have G2 : Hid ((m0.length + 1) * 16 ≤ 140737488355328) := by unfold Hid; omega
                have G3 : Hid (BB ≤ (w4.alloc (.cells #[.int .i64 px, .int .i64 py] 36)).heap.size) := by have := HI4.out.bz; unfold Hid; simp; omega
                go_wp2_with (at_builtin; refine wpList_append_own _ rfl _ _ 95 rfl BB 36 i0 (.agg #[.int .i64 0, .int .i64 0]) 2 16 Try.underlying95 hi0 hz0 hz1 hz2 rfl (by decide) _ m0.length (ptsV m0) rfl (HI4.out.own.alloc _) ⟨w4.heap.size, 0, none⟩ 1 1 [.int .i64 px, .int .i64 py] rfl rfl (World.news_of_block (cs := #[.int .i64 px, .int .i64 py]) (t := 36) (fr := (0, 0)) (heap_alloc_new w4 _)) (by simp [Value.oneCell']) G1.out G2.out G3.out ?_; intro v' w5 hown' hgrow hnil)
                have M5 := Lib.hid (HI4.out.app (p := (px, py)) hown' hgrow)
                clear hown' hgrow hnil HI4 HD4 x0 x1' lx
                go_wp2_with fail
                go_roundw
                case rel => exact ⟨k + 1, _, by omega, by go_num, rfl, by rw [HN.out]; exact M5.out⟩
                case measure => simp [intOf]; omega
          · have hib : insR X Y P Q (px, py) = false := decide_eq_false hin
            have KP := Lib.hid (fun w => KP2.out px py w hin)
            rw [hib] at HN
            clear hin hib
            go_wp2_with fail
            refine (KP.out _).mono ?_
            rintro e w3 ⟨rfl, b3⟩
            have HI3 := Lib.hid (HI2.out.call b3)
            clear b3 HI2 HD2 r0 r1 r2 r3 lr x0 x1' lx
            go_wp2_with fail
            go_roundw
            case rel => exact ⟨k + 1, _, by omega, by go_num, rfl, by rw [HN.out]; simpa using HI3.out⟩
            case measure => simp [intOf]; omega
        · obtain rfl : k = Wn := by omega
          have hnl : ¬ (k : Int) + 2 < (A : Int) - 2 := by omega
          have HE : Hid (l * k + k = (l + 1) * k) := by unfold Hid; rw [Nat.add_mul, Nat.one_mul]
          have I2 := HI.out
          rw [HE.out] at I2
          have HI2 := Lib.hid I2
          clear I2 HI HE
          go_wp2_with fail
          go_roundw
          case rel => exact ⟨l + 1, _, by omega, by go_num, rfl, HI2.out⟩
          case measure => simp [intOf]; omega
    · obtain rfl : l = Hn := by omega
      have hnl : ¬ (l : Int) + 2 < (Bn : Int) - 2 := by omega
      have I2 := HI.out
      rw [List.take_of_length_le (by rw [HBL.out]; exact Nat.le_refl _), ← HSC.out] at I2
      have HI2 := Lib.hid I2
      have hml : (scL seed c sh ap X Y P Q).length ≤ 1369 := by
        rw [HSC.out]; exact Nat.le_trans (fmL_len _ _ _ _ _ _ _ _ _) (by rw [HBL.out]; exact hWH)
      have KS := Lib.hid (sort_places 120 (scL seed c sh ap X Y P Q) BB _ wr (by omega) (enters_of Try.func120 (by kernel_rfl) rfl) cmpyx1 I2.own I2.bz)
      clear I2 HI
      go_wp2_with fail
      refine KS.out.mono ?_
      rintro e w9 ⟨rfl, hv, hb⟩
      have HV := Lib.hid hv
      have HB9 := Lib.hid (HI2.out.b.trans (hb.mono (by have := HI2.out.lb; omega)))
      clear hv hb
      go_wp2_with fail
      go_ret2
      exact ⟨_, rfl, HV.out, HB9.out⟩
end Go.Proofs.Ytfmbekdfigbfiaa
