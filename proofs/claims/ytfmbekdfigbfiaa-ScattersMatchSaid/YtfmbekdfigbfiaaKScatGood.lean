import Derived.Test.YtfmbekdfigbfiaaKScatWalk
import Derived.BigQuiet
import Derived.Deep.DeepCutAuto
import Derived.Deep.CutBlock
namespace Go.Proofs.Ytfmbekdfigbfiaa
open Go.ChangeShapes Go.WideShapes Go.ChangeAt Go.RowKit
open Ieee.Format (fin finE htE allFin allHt all_true all_false mulF subF addF Ht Bd divF rootF floorF easeF mixF)
set_option linter.unusedVariables false
open Wide

theorem sqI_sym (p q : Int × Int) : sqI p q = sqI q p := by
  unfold sqI
  rw [show p.1 - q.1 = -(q.1 - p.1) by omega, show p.2 - q.2 = -(q.2 - p.2) by omega, Int.neg_mul_neg, Int.neg_mul_neg]
set_option maxRecDepth 100000 in
set_option maxHeartbeats 8000000 in
theorem scat_good (seed c : Int) (sh : Nat) (ap X Y A B T0 T1 T2 T3 : Int) (p q u v : Nat) (hp : p ≤ 31) (hq : q ≤ 31) (hu : u ≤ 15) (hv : v ≤ 15) (eA : bits .and .i64 A 31 = (p : Int)) (eB : bits .and .i64 B 31 = (q : Int)) (eU : bits .and .i64 T2 15 = (u : Int)) (eV : bits .and .i64 T3 15 = (v : Int)) (w : World)
    (a0 : 0 ≤ ap) (a1 : ap ≤ 512) (x1 : -4194304 ≤ X) (x2 : X ≤ 4194304) (y1 : -4194304 ≤ Y) (y2 : Y ≤ 4194304)
    (D : List (Int × Int)) (HL : Hid (D.length ≤ 1089)) (HDI : Hid (∀ d ∈ D, X ≤ d.1 ∧ d.1 < X + 1 + p ∧ Y ≤ d.2 ∧ d.2 < Y + 1 + q)) (HDA : Hid (D.Pairwise fun a b => ap * ap < sqI a b))
    (KC1 : Hid (∀ w, Calls Try.prog 45 #[scV seed c sh ap] w fun e w' => e = .returned (.int .i64 0) ∧ Below w.heap.size w w'))
    (KC2 : Hid (∀ w, Calls Try.prog 44 #[scV seed c sh ap] w fun e w' => e = .returned (.int .i64 0) ∧ Below w.heap.size w w'))
    (KS : Hid (∀ w, Calls Try.prog 46 #[scV seed c sh ap, reg X Y (1 + (p : Int)) (1 + (q : Int))] w fun e w' => ∃ v, e = .returned (.tuple #[v, .int .i64 0]) ∧ PtsV w' v D ∧ Below w.heap.size w w'))
    (KS2 : Hid (∀ w, Calls Try.prog 49 #[scV seed c sh ap, reg X Y (1 + (p : Int)) (1 + (q : Int))] w fun e w' => ∃ v, e = .returned v ∧ PtsV w' v D ∧ Below w.heap.size w w'))
    (KR : Hid (∀ w, Calls Try.prog 47 #[reg X Y (1 + (p : Int)) (1 + (q : Int))] w fun e w' => e = .returned (.int .i64 0) ∧ Below w.heap.size w w'))
    (HCM : Hid (cmOk X Y (1 + (p : Int)) (1 + (q : Int)) T0 T1 (1 + (u : Int)) (1 + (v : Int)) = true → ∃ (x y : Int) (p2 q2 : Nat) (M : List (Int × Int)), cmR X Y (1 + (p : Int)) (1 + (q : Int)) T0 T1 (1 + (u : Int)) (1 + (v : Int)) = reg x y p2 q2 ∧ 1 ≤ p2 ∧ p2 ≤ 32 ∧ 1 ≤ q2 ∧ q2 ≤ 32 ∧ -4194304 ≤ x ∧ x ≤ 4194304 ∧ -4194304 ≤ y ∧ y ≤ 4194304 ∧ M.length ≤ 1089 ∧ D.filter (insR x y p2 q2) = M ∧
      ∀ w, Calls Try.prog 46 #[scV seed c sh ap, reg x y p2 q2] w fun e w' => ∃ v, e = .returned (.tuple #[v, .int .i64 0]) ∧ PtsV w' v M ∧ Below w.heap.size w w')) :
    Calls Try.prog 7 #[scV seed c sh ap, reg X Y A B, reg T0 T1 T2 T3] w fun e w' => e = .returned (.bool true) ∧ Below w.heap.size w w' := by
  have hEE : ((0 : Int) != 0) = false := by decide
  unfold scV scC at *
  go_enter Try.func7, Try.ntmps7
  go_upto_region 1 with fail
  generalize hW0 : ((w.alloc (.cells #[.int .u32 seed, .int .i64 c, .float .f32 sh, .int .i64 ap] 93)).alloc (.cells #[.int .i64 X, .int .i64 Y, .int .i64 A, .int .i64 B] 23)).alloc (.cells #[.int .i64 T0, .int .i64 T1, .int .i64 T2, .int .i64 T3] 23) = W0 at *
  have S0 := Lib.hid (sc_start w seed c sh ap X Y A B T0 T1 T2 T3 W0 hW0.symm)
  clear hW0
  go_wp2_with fail
  refine (landed_bel _).mono ?_
  rintro e w1 ⟨rfl, b1⟩
  have S1 := Lib.hid (S0.out.below b1)
  clear b1 S0
  have s0 := S1.out.s.cell 0
  have s1 := S1.out.s.cell 1
  have s2 := S1.out.s.cell 2
  have s3 := S1.out.s.cell 3
  unfold scC at s0 s1 s2 s3
  simp at s0 s1 s2 s3
  have ls := S1.out.s.lt
  go_wp2_with fail
  refine (KC2.out _).mono ?_
  rintro e w2 ⟨rfl, b2⟩
  have S2 := Lib.hid (S1.out.below b2)
  clear b2 S1 s0 s1 s2 s3 ls KC2
  have s0 := S2.out.s.cell 0
  have s1 := S2.out.s.cell 1
  have s2 := S2.out.s.cell 2
  have s3 := S2.out.s.cell 3
  unfold scC at s0 s1 s2 s3
  simp at s0 s1 s2 s3
  have ls := S2.out.s.lt
  go_wp2_with fail
  refine (KC1.out _).mono ?_
  rintro e w3 ⟨rfl, b3⟩
  have S3 := Lib.hid (S2.out.below b3)
  clear b3 S2 s0 s1 s2 s3 ls KC1
  obtain ⟨r0, r1, r2, r3⟩ := S3.out.r.cells
  have lr := S3.out.r.lt
  have f2 := frozen_of_row _ _ 2 _ _ S3.out.r
  have f3 := frozen_of_row _ _ 3 _ _ S3.out.r
  have v1 : IntKind.i64.wrap (1 + (p : Int)) = 1 + (p : Int) := IntWalk.i64_in _ (by omega)
  have v2 : IntKind.i64.wrap (1 + (q : Int)) = 1 + (q : Int) := IntWalk.i64_in _ (by omega)
  go_upto_region 7 with fail
  have S4 := Lib.hid (S3.out.store (1 + (p : Int)) (1 + (q : Int)))
  generalize (w3.setCell ⟨w.heap.size + 1, 2, none⟩ (.int .i64 (1 + (p : Int)))).setCell ⟨w.heap.size + 1, 3, none⟩ (.int .i64 (1 + (q : Int))) = w4 at *
  clear r0 r1 r2 r3 f2 f3 lr S3
  obtain ⟨r0, r1, r2, r3⟩ := S4.out.r.cells
  have lr := S4.out.r.lt
  have s0 := S4.out.s.cell 0
  have s1 := S4.out.s.cell 1
  have s2 := S4.out.s.cell 2
  have s3 := S4.out.s.cell 3
  unfold scC at s0 s1 s2 s3
  simp at s0 s1 s2 s3
  have ls := S4.out.s.lt
  go_wp2_with fail
  refine (KS.out _).mono ?_
  rintro e w5 ⟨v5, rfl, hv5, b5⟩
  obtain ⟨pp, cap, rfl, hcap, hpp⟩ := hv5
  have HV5 : Hid (PtsV w5 (.slice pp D.length cap) D) := Lib.hid ⟨pp, cap, rfl, hcap, hpp⟩
  have S5 := Lib.hid (S4.out.below b5)
  clear b5 S4 s0 s1 s2 s3 ls r0 r1 r2 r3 lr KS hpp
  obtain ⟨r0, r1, r2, r3⟩ := S5.out.r.cells
  have lr := S5.out.r.lt
  go_wp2_with fail
  refine (KR.out _).mono ?_
  rintro e w6 ⟨rfl, b6⟩
  have S6 := Lib.hid (S5.out.below b6)
  have HV6 := Lib.hid (HV5.out.below b6)
  clear b6 S5 HV5 r0 r1 r2 r3 lr KR
  obtain ⟨r0, r1, r2, r3⟩ := S6.out.r.cells
  have lr := S6.out.r.lt
  have s0 := S6.out.s.cell 0
  have s1 := S6.out.s.cell 1
  have s2 := S6.out.s.cell 2
  have s3 := S6.out.s.cell 3
  unfold scC at s0 s1 s2 s3
  simp at s0 s1 s2 s3
  have ls := S6.out.s.lt
  go_wp2_with fail
  refine (KS2.out _).mono ?_
  rintro e w7 ⟨v7, rfl, hv7, b7⟩
  have S7 := Lib.hid (S6.out.below b7)
  have HV7 := Lib.hid (HV6.out.below b7)
  have KE := Lib.hid (pts_equal (.slice pp D.length cap) v7 D w7 (by have := HL.out; omega) HV7.out hv7)
  clear b7 S6 HV6 hv7 s0 s1 s2 s3 ls r0 r1 r2 r3 lr KS2
  go_wp2_with fail
  refine KE.out.mono ?_
  rintro e w8 ⟨rfl, b8⟩
  have S8 := Lib.hid (S7.out.below b8)
  have HV8 := Lib.hid (HV7.out.below b8)
  clear b8 S7 HV7 KE
  go_upto_region 16 with fail
  go_loopw [11, 12, 14, 77, 86] (fun _ _ _ kv _ wr => ∃ k : Nat, k ≤ D.length ∧ kv = .int .i64 (k : Int) ∧ ScSt w wr seed c sh ap X Y (1 + (p : Int)) (1 + (q : Int)) T0 T1 T2 T3 ∧ PtsV wr (.slice pp D.length cap) D) (fun _ _ _ kv _ _ => (D.length - (intOf kv)).toNat)
  case atStart => exact ⟨0, by omega, by simp, S8.out, HV8.out⟩
  case round =>
    clear S8 HV8
    obtain ⟨k, hk, rfl, hS, hV⟩ := hrel
    have S1 := Lib.hid hS
    have V1 := Lib.hid hV
    clear hS hV
    have hDl := HL.out
    by_cases hlk : k < D.length
    · obtain ⟨g, rfl⟩ : ∃ g, pp = some ⟨g, 0, none⟩ := by
        obtain ⟨p', c', e', _, h⟩ := V1.out
        injection e' with e1 _ _
        rcases h with ⟨h, _⟩ | ⟨g, h, _⟩
        · rw [h] at hlk; simp at hlk
        · exact ⟨g, e1.trans h⟩
      have HPR : ∀ wx : World, PtsV wx (.slice (some ⟨g, 0, none⟩) D.length cap) D → PtsR wx g D := fun wx h => by
        obtain ⟨p', c', e', _, h⟩ := h
        injection e' with e1 _ _
        rcases h with ⟨h, _⟩ | ⟨g', h, h'⟩
        · rw [h] at hlk; simp at hlk
        · rw [h] at e1
          injection e1 with e1
          injection e1 with e1
          subst e1; exact h'
      have HPR := Lib.hid HPR
      obtain ⟨a, ha⟩ : ∃ a : Int × Int, D[k]? = some a := ⟨_, List.getElem?_eq_getElem hlk⟩
      obtain ⟨lg, hcs⟩ := HPR.out _ V1.out
      obtain ⟨c0, c1⟩ := hcs k a ha
      have HA := Lib.hid (HDI.out a (List.mem_of_getElem? ha))
      have HKA := Lib.hid ha
      clear hcs ha
      obtain ⟨ax, ay⟩ := a
      simp only at c0 c1
      have hkc : k ≤ cap := by omega
      go_upto_region 18 with fail
      have S2 := Lib.hid (S1.out.alloc (.cells #[.int .i64 ax, .int .i64 ay] 36))
      have V2 := Lib.hid (V1.out.below ((Below.refl _ wr).alloc (Nat.le_refl _) (.cells #[.int .i64 ax, .int .i64 ay] 36)))
      have D2 := Lib.hid (Blk.new wr #[.int .i64 ax, .int .i64 ay] 36)
      generalize wr.alloc (.cells #[.int .i64 ax, .int .i64 ay] 36) = W2 at *
      generalize wr.heap.size = ka at *
      clear c0 c1 lg S1 V1
      go_upto_region 19 with fail
      go_loopw [14, 86] (fun _ mv wr => ∃ m : Nat, m ≤ k ∧ mv = .int .i64 (m : Int) ∧ ScSt w wr seed c sh ap X Y (1 + (p : Int)) (1 + (q : Int)) T0 T1 T2 T3 ∧ PtsV wr (.slice (some ⟨g, 0, none⟩) D.length cap) D ∧ Blk wr ka #[.int .i64 ax, .int .i64 ay] 36) (fun _ mv _ => (k - (intOf mv)).toNat)
      case atStart => exact ⟨0, by omega, by simp, S2.out, V2.out, D2.out⟩
      case round =>
        clear S2 V2 D2
        obtain ⟨m, hm, rfl, hS, hV, hD⟩ := hrel
        have S1 := Lib.hid hS
        have V1 := Lib.hid hV
        have D1 := Lib.hid hD
        clear hS hV hD
        by_cases hlm : m < k
        · obtain ⟨b, hb⟩ : ∃ b : Int × Int, D[m]? = some b := ⟨_, List.getElem?_eq_getElem (by omega)⟩
          obtain ⟨lg, hcs⟩ := HPR.out _ V1.out
          obtain ⟨c0, c1⟩ := hcs m b hb
          have hB := HDI.out b (List.mem_of_getElem? hb)
          have hA := HA.out
          have hfar : ap * ap < sqI b (ax, ay) := by
            obtain ⟨h1, e1⟩ := List.getElem?_eq_some_iff.1 hb
            obtain ⟨h2, e2⟩ := List.getElem?_eq_some_iff.1 HKA.out
            have := List.pairwise_iff_getElem.1 HDA.out m k h1 h2 hlm
            rwa [e1, e2] at this
          rw [sqI_sym] at hfar
          unfold sqI at hfar
          clear hcs hb
          obtain ⟨bx, by'⟩ := b
          simp only at c0 c1 hB hA hfar
          obtain ⟨dx, hdx⟩ : ∃ z, z = ax - bx := ⟨_, rfl⟩
          obtain ⟨dy, hdy⟩ : ∃ z, z = ay - by' := ⟨_, rfl⟩
          have e1 : ax - bx = dx := hdx.symm
          have e2 : ay - by' = dy := hdy.symm
          rw [e1, e2] at hfar
          have bdx : -32 ≤ dx ∧ dx ≤ 32 := by omega
          have bdy : -32 ≤ dy ∧ dy ≤ 32 := by omega
          have n1 := sq_nn dx
          have n2 := sq_nn dy
          have n3 := sq_nn ap
          have m1 := sq_le_of (a := dx) (m := 32) (by omega) (by omega)
          have m2 := sq_le_of (a := dy) (m := 32) (by omega) (by omega)
          have m3 := sq_le_of (a := ap) (m := 512) (by omega) (by omega)
          clear hdx hdy hB hA
          obtain ⟨q1, hq1⟩ : ∃ z, z = dx * dx := ⟨_, rfl⟩
          obtain ⟨q2, hq2⟩ : ∃ z, z = dy * dy := ⟨_, rfl⟩
          obtain ⟨sa, hsa⟩ : ∃ z, z = ap * ap := ⟨_, rfl⟩
          have e3 : dx * dx = q1 := hq1.symm
          have e4 : dy * dy = q2 := hq2.symm
          have e5 : ap * ap = sa := hsa.symm
          rw [e3] at hfar n1 m1
          rw [e4] at hfar n2 m2
          rw [e5] at hfar n3 m3
          clear hq1 hq2 hsa
          have hnf : ¬ q1 + q2 ≤ sa := by omega
          go_upto_region 21 with fail
          have S2 := Lib.hid (S1.out.alloc (.cells #[.int .i64 bx, .int .i64 by'] 36))
          have V2 := Lib.hid (V1.out.below ((Below.refl _ wr).alloc (Nat.le_refl _) (.cells #[.int .i64 bx, .int .i64 by'] 36)))
          have D2 := Lib.hid (D1.out.alloc (.cells #[.int .i64 bx, .int .i64 by'] 36))
          have E2 := Lib.hid (Blk.new wr #[.int .i64 bx, .int .i64 by'] 36)
          generalize wr.alloc (.cells #[.int .i64 bx, .int .i64 by'] 36) = W3 at *
          generalize wr.heap.size = kb at *
          clear c0 c1 lg S1 V1 D1
          have s0 := S2.out.s.cell 0
          have s1 := S2.out.s.cell 1
          have s2 := S2.out.s.cell 2
          have s3 := S2.out.s.cell 3
          unfold scC at s0 s1 s2 s3
          simp at s0 s1 s2 s3
          have ls := S2.out.s.lt
          have d0 := D2.out.cell 0
          have d1 := D2.out.cell 1
          have g0 := E2.out.cell 0
          have g1 := E2.out.cell 1
          simp at d0 d1 g0 g1
          have ld := D2.out.lt
          have le := E2.out.lt
          go_wp2_with fail
          go_roundw
          case rel => exact ⟨m + 1, by omega, by go_num, S2.out, V2.out, D2.out⟩
          case measure => simp [intOf]; omega
        · obtain rfl : m = k := by omega
          go_wp2_with fail
          go_roundw
          case rel => exact ⟨m + 1, by omega, by go_num, S1.out, V1.out⟩
          case measure => simp [intOf]; omega
    · obtain rfl : k = D.length := by omega
      obtain ⟨t0, t1, t2, t3⟩ := S1.out.t.cells
      have lt := S1.out.t.lt
      obtain ⟨bb, hbb⟩ : ∃ bb : Bool, bb = (decide (min T0 T1 < -1073741824) || decide (1073741824 < max T0 T1)) := ⟨_, rfl⟩
      have HBB := Lib.hid hbb
      clear hbb
      go_upto_region 25 with fail
      go_cut [134] (fun vv wx => vv = .bool bb ∧ wx = wr)
      case first =>
        by_cases h1 : min T0 T1 < -1073741824
        · have hbb : bb = true := by rw [HBB.out]; simp [h1]
          subst hbb
          go_wp2_with fail
          go_meet
          exact ⟨rfl, rfl⟩
        · by_cases h2 : 1073741824 < max T0 T1
          · have hbb : bb = true := by rw [HBB.out]; simp [h2]
            subst hbb
            go_wp2_with fail
            go_meet
            exact ⟨rfl, rfl⟩
          · have hbb : bb = false := by rw [HBB.out]; simp [h1, h2]
            subst hbb
            go_wp2_with fail
            go_meet
            exact ⟨rfl, rfl⟩
      case rest =>
        obtain ⟨rfl, rfl⟩ := hcut
        cases bb with
        | true =>
          go_wp2_with fail
          go_ret
          exact ⟨rfl, S1.out.b⟩
        | false =>
          have hb := HBB.out.symm
          rw [Bool.or_eq_false_iff] at hb
          have g1 := of_decide_eq_false hb.1
          have g2 := of_decide_eq_false hb.2
          have hT : -1073741824 ≤ T0 ∧ T0 ≤ 1073741824 ∧ -1073741824 ≤ T1 ∧ T1 ≤ 1073741824 := by omega
          have HT := Lib.hid hT
          clear g1 g2 hb
          have KCO := Lib.hid (fun w => common2 X Y (1 + (p : Int)) (1 + (q : Int)) T0 T1 (1 + (u : Int)) (1 + (v : Int)) w (by omega) (by omega) (by omega) (by omega) (by omega) (by omega) (by omega) (by omega) (by omega) (by omega) (by omega) (by omega) (by omega) (by omega) (by omega) (by omega))
          have v3 : IntKind.i64.wrap (1 + (u : Int)) = 1 + (u : Int) := IntWalk.i64_in _ (by omega)
          have v4 : IntKind.i64.wrap (1 + (v : Int)) = 1 + (v : Int) := IntWalk.i64_in _ (by omega)
          clear hT
          obtain ⟨r0, r1, r2, r3⟩ := S1.out.r.cells
          have lr := S1.out.r.lt
          cases hok : cmOk X Y (1 + (p : Int)) (1 + (q : Int)) T0 T1 (1 + (u : Int)) (1 + (v : Int)) with
          | false =>
            have hR : cmR X Y (1 + (p : Int)) (1 + (q : Int)) T0 T1 (1 + (u : Int)) (1 + (v : Int)) = reg 0 0 0 0 := by unfold cmR; rw [hok]; rfl
            rw [hok, hR] at KCO
            clear hok hR HCM
            go_wp2_with fail
            refine (KCO.out _).mono ?_
            rintro e w9 ⟨rfl, b9⟩
            have S9 := Lib.hid (S1.out.below b9)
            clear b9 S1 t0 t1 t2 t3 lt r0 r1 r2 r3 lr
            have HBZ : Hid (Below w.heap.size w (w9.alloc (.cells #[.int .i64 0, .int .i64 0, .int .i64 0, .int .i64 0] 23))) := Lib.hid (by have h := S9.out.b; exact (by have hszz := h.size; repeat (first | with_reducible exact h | with_reducible apply Below.drew | with_reducible refine below_drewN ?_ _ | (with_reducible refine Below.setCell ?_ ?_ _; rotate_left; focus (first | omega | (simp <;> omega))) | (with_reducible refine Below.alloc ?_ ?_ _; rotate_left; focus (first | omega | (simp <;> omega))))))
            go_wp2_with fail
            go_ret
            exact ⟨rfl, HBZ.out⟩
          | true =>
            obtain ⟨x, y, p2, q2, M, hR, pa, pb, qa, qb, xa, xb, ya, yb, hM, hDM, KSM⟩ := HCM.out hok
            rw [hok, hR] at KCO
            have HKM := Lib.hid KSM
            have HDM := Lib.hid hDM
            clear hok hR HCM KSM hDM
            go_wp2_with fail
            refine (KCO.out _).mono ?_
            rintro e w9 ⟨rfl, b9⟩
            have S9 := Lib.hid (S1.out.below b9)
            have V9 := Lib.hid (V1.out.below b9)
            clear b9 S1 V1 t0 t1 t2 t3 lt r0 r1 r2 r3 lr KCO
            go_upto_region 28 with fail
            have S10 := Lib.hid (S9.out.alloc (.cells #[.int .i64 x, .int .i64 y, .int .i64 (p2 : Int), .int .i64 (q2 : Int)] 23))
            have V10 := Lib.hid (V9.out.below ((Below.refl _ w9).alloc (Nat.le_refl _) (.cells #[.int .i64 x, .int .i64 y, .int .i64 (p2 : Int), .int .i64 (q2 : Int)] 23)))
            have C10 := Lib.hid (Reg.new w9 x y p2 q2)
            clear S9 V9
            generalize w9.alloc (.cells #[.int .i64 x, .int .i64 y, .int .i64 (p2 : Int), .int .i64 (q2 : Int)] 23) = w10 at *
            generalize w9.heap.size = kc at *
            have s0 := S10.out.s.cell 0
            have s1 := S10.out.s.cell 1
            have s2 := S10.out.s.cell 2
            have s3 := S10.out.s.cell 3
            unfold scC at s0 s1 s2 s3
            simp at s0 s1 s2 s3
            have ls := S10.out.s.lt
            obtain ⟨r0, r1, r2, r3⟩ := C10.out.cells
            have lr := C10.out.lt
            go_wp2_with fail
            refine (HKM.out _).mono ?_
            rintro e w11 ⟨v11, rfl, hv11, b11⟩
            have S11 := Lib.hid (S10.out.below b11)
            have V11 := Lib.hid (V10.out.below b11)
            have C11 := Lib.hid (C10.out.below b11 C10.out.lt)
            have M11 := Lib.hid hv11
            clear b11 hv11 S10 V10 C10 s0 s1 s2 s3 ls r0 r1 r2 r3 lr HKM
            have hDl := HL.out
            have KCL := Lib.hid (pts_clone (.slice pp D.length cap) D w11 (by omega) V11.out)
            go_wp2_with fail
            refine KCL.out.mono ?_
            rintro e w12 ⟨v12, rfl, own12, b12⟩
            have S12 := Lib.hid (S11.out.below b12)
            have C12 := Lib.hid (C11.out.below b12 C11.out.lt)
            have KDL := Lib.hid (pts_delete v12 D x y p2 q2 kc w11.heap.size w12 (by omega) own12 b12.size C12.out C11.out.lt pa pb qa qb xa xb ya yb)
            have B12 := Lib.hid b12
            have HZ11 := Lib.hid S11.out.b.size
            clear own12 b12 KCL S11 C12
            unfold outF at KDL
            go_wp2_with fail
            refine KDL.out.mono ?_
            rintro e w13 ⟨v13, rfl, hv13, b13⟩
            rw [HDM.out] at hv13
            have hb := B12.out.trans b13
            have KEQ := Lib.hid (pts_equal v11 v13 M w13 (by omega) (M11.out.below hb) hv13)
            have HBB13 : Hid (Below w.heap.size w w13) := Lib.hid (S12.out.b.trans (b13.mono HZ11.out))
            clear hv13 hb b13 KDL
            go_wp2_with fail
            refine KEQ.out.mono ?_
            rintro e w14 ⟨rfl, b14⟩
            have HB14 := Lib.hid (HBB13.out.trans (b14.mono HBB13.out.size))
            clear b14 KEQ
            go_wp2_with fail
            go_ret
            exact ⟨rfl, HB14.out⟩
end Go.Proofs.Ytfmbekdfigbfiaa
