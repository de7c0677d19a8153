import Derived.Test.YtfmbekdfigbfiaaKScatR
import Derived.Test.YtfmbekdfigbfiaaKScatQ
import Derived.Deep.DeepCutAuto
namespace Go.Proofs.Ytfmbekdfigbfiaa
open Go.ChangeShapes Go.WideShapes Go.ChangeAt Go.RowKit
open Ieee.Format (fin finE htE allFin allHt all_true all_false mulF subF addF Ht Bd divF rootF floorF easeF mixF)
set_option linter.unusedVariables false
open Wide

theorem refinside_pt (X Y W H : Int) (x y : Int) (w : World) (hw : 1 ≤ W) (hw2 : W ≤ 512) (hh : 1 ≤ H) (hh2 : H ≤ 512) (hx0 : -8388608 ≤ X) (hx1 : X ≤ 8388608) (hy0 : -8388608 ≤ Y) (hy1 : Y ≤ 8388608) :
    Calls Try.prog 36 #[reg x y 1 1, reg X Y W H] w fun e w' => e = .returned (.bool (decide (inR X Y W H x y))) ∧ Below w.heap.size w w' := by
  go_enter Try.func36, Try.ntmps36
  go_wp2
  all_goals
    go_ret
    refine ⟨ret_bool ?_, (by repeat (first | with_reducible exact Below.refl _ _ | with_reducible apply Below.drew | with_reducible refine below_drewN ?_ _ | (with_reducible refine Below.setCell ?_ ?_ _; rotate_left; focus (first | omega | (simp <;> omega))) | (with_reducible refine Below.alloc ?_ ?_ _; rotate_left; focus (first | omega | (simp <;> omega)))))⟩
    show _ = decide (inR X Y W H x y)
    unfold inR; grind
/-- the cells that are there, of the first of a list -/
def rtL (seed : Int) (sh : Nat) (L : List (Int × Int)) : List (Int × Int) := L.filter (thB seed sh)
theorem rtL_next {seed : Int} {sh : Nat} {L : List (Int × Int)} {q : Int × Int} : rtL seed sh (L ++ [q]) = rtL seed sh L ++ (if thB seed sh q = true then [q] else []) := by
  unfold rtL
  rw [List.filter_append]
  congr 1
  by_cases h : thB seed sh q = true
  · rw [if_pos h, List.filter_cons]; simp only [List.filter_nil]; rw [if_pos h]
  · rw [if_neg h, List.filter_cons]; simp only [List.filter_nil]; rw [if_neg h]
theorem rtL_len (seed : Int) (sh : Nat) (L : List (Int × Int)) : (rtL seed sh L).length ≤ L.length := List.length_filter_le _ _
/-- the slice of candidates -/
theorem RfI.slice {seed c : Int} {sh : Nat} {ap X Y : Int} {P Q : Nat} {w wr : World} {B : Nat} {v : Value} {m : List (Int × Int)} (h : RfI seed c sh ap X Y P Q w wr B v m) :
    ∃ g pp cap, v = .slice pp m.length cap ∧ m.length ≤ cap ∧ (m ≠ [] → pp = some ⟨g, 0, none⟩) ∧ RcR seed c wr g m ∧ g < wr.heap.size := by
  have hb := h.lb
  have hz := h.bz
  have ho := h.own
  rcases h.own.2 with ⟨hv, h0⟩ | ⟨g, cap, cur, hv, hg, hh, hcap, _⟩
  · have hm : m = [] := List.length_eq_zero_iff.1 h0
    subst hm
    exact ⟨0, none, 0, hv, Nat.le_refl _, fun h => absurd rfl h, ⟨by omega, fun n q hq => by simp at hq⟩, by omega⟩
  · rw [hv] at ho
    have hr := RcR.of ho rfl
    exact ⟨g, some ⟨g, 0, none⟩, cap, hv, hcap, fun _ => rfl, hr, hr.1⟩
set_option maxRecDepth 100000 in
set_option maxHeartbeats 8000000 in
theorem refscatter_ok (seed c : Int) (sh : Nat) (ap X Y : Int) (P Q : Nat) (hs : sh < 4294967296) (h0 : scE c sh ap = 0) (hc : chk X Y P Q = 0) (hP : P ≤ 32) (hQ : Q ≤ 32) (w : World) :
    Calls Try.prog 49 #[scV seed c sh ap, reg X Y P Q] w fun e w' => ∃ v, e = .returned v ∧ PtsV w' v (srt (scL seed c sh ap X Y P Q)) ∧ Below w.heap.size w w' := by
  obtain ⟨c1, c2, a0, a2, _⟩ := scE_zero h0
  obtain ⟨z1, z2, z3, z4, z5, z6, z7, z8, _⟩ := chk_zero hc
  obtain ⟨x1, x2, x3, x4, x5, x6, x7, x8⟩ := lat_facts (X := X) (P := P) c1 c2 (by omega) hP (by omega) (by omega)
  obtain ⟨y1, y2, y3, y4, y5, y6, y7, y8⟩ := lat_facts (X := Y) (P := Q) c1 c2 (by omega) hQ (by omega) (by omega)
  have KL1 := Lib.hid (fun w => quo_any X c w (by omega) (by omega) (by omega) (by omega))
  have KL2 := Lib.hid (fun w => quo_any Y c w (by omega) (by omega) (by omega) (by omega))
  have KL3 := Lib.hid (fun w => quo_any (X + P - 1) c w (by omega) (by omega) (by omega) (by omega))
  have KL4 := Lib.hid (fun w => quo_any (Y + Q - 1) c w (by omega) (by omega) (by omega) (by omega))
  have HSC : Hid (refL ap (thB seed sh) (rkI seed) (plI seed c) (insR X Y P Q) (thL (thB seed sh) (X / c - 3) (Y / c - 3) (latN X c P + 6) (latN Y c Q + 6)) = scL seed c sh ap X Y P Q) :=
    Lib.hid (ref_out c1 a0 a2 (plI_cell c1) (fun q hq => ins_in c1 c2 (by omega) hP (by omega) hQ (by omega) (by omega) (by omega) (by omega) q hq))
  clear x6 x7 x8 y6 y7 y8
  generalize hi : X / c = i at *
  generalize hj : Y / c = j at *
  generalize (X + (P : Int) - 1) / c = i1 at *
  generalize (Y + (Q : Int) - 1) / c = j1 at *
  generalize latN X c P = Wn at *
  generalize latN Y c Q = Hn at *
  clear hi hj
  obtain ⟨A, hA⟩ : ∃ A : Nat, A = Wn + 6 := ⟨_, rfl⟩
  obtain ⟨Bn, hBn⟩ : ∃ Bn : Nat, Bn = Hn + 6 := ⟨_, rfl⟩
  rw [← hA, ← hBn] at HSC
  have BA : Hid (Below w.heap.size w ((w.alloc (.cells #[.int .u32 seed, .int .i64 c, .float .f32 sh, .int .i64 ap] 93)).alloc (.cells #[.int .i64 X, .int .i64 Y, .int .i64 (P : Int), .int .i64 (Q : Int)] 23))) := Lib.hid (by repeat (first | with_reducible exact Below.refl _ _ | with_reducible apply Below.drew | with_reducible refine below_drewN ?_ _ | (with_reducible refine Below.setCell ?_ ?_ _; rotate_left; focus (first | omega | (simp <;> omega))) | (with_reducible refine Below.alloc ?_ ?_ _; rotate_left; focus (first | omega | (simp <;> omega)))))
  have HS1 : Hid (Blk ((w.alloc (.cells #[.int .u32 seed, .int .i64 c, .float .f32 sh, .int .i64 ap] 93)).alloc (.cells #[.int .i64 X, .int .i64 Y, .int .i64 (P : Int), .int .i64 (Q : Int)] 23)) w.heap.size (scC seed c sh ap) 93) := Lib.hid ((Blk.new _ _ _).alloc _)
  have HR1 : Hid (Reg ((w.alloc (.cells #[.int .u32 seed, .int .i64 c, .float .f32 sh, .int .i64 ap] 93)).alloc (.cells #[.int .i64 X, .int .i64 Y, .int .i64 (P : Int), .int .i64 (Q : Int)] 23)) (w.heap.size + 1) X Y P Q) := by
    have := Reg.new (w.alloc (.cells #[.int .u32 seed, .int .i64 c, .float .f32 sh, .int .i64 ap] 93)) X Y P Q
    exact Lib.hid (by simpa using this)
  have HB1 := BA
  clear BA
  unfold scV scC at *
  go_enter Try.func49, Try.ntmps49
  go_upto_region 2 with fail
  generalize (w.alloc (.cells #[.int .u32 seed, .int .i64 c, .float .f32 sh, .int .i64 ap] 93)).alloc (.cells #[.int .i64 X, .int .i64 Y, .int .i64 (P : Int), .int .i64 (Q : Int)] 23) = W0 at *
  obtain ⟨r0, r1, r2, r3⟩ := HR1.out.cells
  have lr := HR1.out.lt
  have s1 := HS1.out.cell 1
  simp at s1
  have ls := HS1.out.lt
  go_wp2_with fail
  refine (KL1.out _).mono ?_
  rintro e w3 ⟨rfl, b2⟩
  have HS3 := Lib.hid (HS1.out.below b2 HS1.out.lt)
  have HR3 := Lib.hid (HR1.out.below b2 HR1.out.lt)
  have HB3 := Lib.hid (HB1.out.trans (b2.mono HB1.out.size))
  clear b2 HS1 HR1 HB1 r0 r1 r2 r3 lr s1 ls
  obtain ⟨r0, r1, r2, r3⟩ := HR3.out.cells
  have lr := HR3.out.lt
  have s0 := HS3.out.cell 0
  have s1 := HS3.out.cell 1
  simp at s1 s0
  have ls := HS3.out.lt
  clear s0
  go_wp2_with fail
  refine (KL2.out _).mono ?_
  rintro e w4 ⟨rfl, b2⟩
  have HS4 := Lib.hid (HS3.out.below b2 HS3.out.lt)
  have HR4 := Lib.hid (HR3.out.below b2 HR3.out.lt)
  have HB4 := Lib.hid (HB3.out.trans (b2.mono HB3.out.size))
  clear b2 HS3 HR3 HB3 r0 r1 r2 r3 lr s1 ls
  obtain ⟨r0, r1, r2, r3⟩ := HR4.out.cells
  have lr := HR4.out.lt
  have s0 := HS4.out.cell 0
  have s1 := HS4.out.cell 1
  simp at s1 s0
  have ls := HS4.out.lt
  clear s0
  go_wp2_with fail
  refine (KL3.out _).mono ?_
  rintro e w5 ⟨rfl, b2⟩
  have HS5 := Lib.hid (HS4.out.below b2 HS4.out.lt)
  have HR5 := Lib.hid (HR4.out.below b2 HR4.out.lt)
  have HB5 := Lib.hid (HB4.out.trans (b2.mono HB4.out.size))
  clear b2 HS4 HR4 HB4 r0 r1 r2 r3 lr s1 ls
  obtain ⟨r0, r1, r2, r3⟩ := HR5.out.cells
  have lr := HR5.out.lt
  have s0 := HS5.out.cell 0
  have s1 := HS5.out.cell 1
  simp at s1 s0
  have ls := HS5.out.lt
  clear s0
  go_wp2_with fail
  refine (KL4.out _).mono ?_
  rintro e w6 ⟨rfl, b2⟩
  have HS6 := Lib.hid (HS5.out.below b2 HS5.out.lt)
  have HR6 := Lib.hid (HR5.out.below b2 HR5.out.lt)
  have HB6 := Lib.hid (HB5.out.trans (b2.mono HB5.out.size))
  clear b2 HS5 HR5 HB5 r0 r1 r2 r3 lr s1 ls
  obtain ⟨r0, r1, r2, r3⟩ := HR6.out.cells
  have lr := HR6.out.lt
  have s0 := HS6.out.cell 0
  have s1 := HS6.out.cell 1
  simp at s1 s0
  have ls := HS6.out.lt
  clear s0
  clear r0 r1 r2 r3 lr s1 ls KL1 KL2 KL3 KL4
  have hlw : w.heap.size + 1 < w6.heap.size := HR6.out.lt
  have HI6 : Hid (RfI seed c sh ap X Y P Q w w6 w6.heap.size (.slice none 0 0) []) := Lib.hid ⟨HS6.out, HR6.out, hlw, Nat.le_refl _, World.ownsRow_nil _ _ _ _, HB6.out⟩
  have KC := Lib.hid (fun (q : Int × Int) a b d e w => refcentre_any seed q.1 q.2 c w a b d e c1 (show c ≤ 4096 by omega))
  have HBT := Lib.hid (fun l k hk hl => box_take (i - 3) (j - 3) A Bn l k hk hl)
  have HBL := Lib.hid (box_len (i - 3) (j - 3) A Bn)
  have HBS := Lib.hid (box_sorted (i - 3) (j - 3) A Bn)
  obtain ⟨ir, hir, rz0, rz1, rz2⟩ := info_parts Try.infoRc
  obtain ⟨i0, hi0, hz0, hz1, hz2⟩ := info_parts Try.infoPt
  have hWH : Bn * A ≤ 1521 := Nat.mul_le_mul (show Bn ≤ 39 by omega) (show A ≤ 39 by omega)
  have HAe := Lib.hid hA
  have HBe := Lib.hid hBn
  have hjb : j1 + 3 = j - 3 + (Bn : Int) - 1 := by omega
  have hib : i1 + 3 = i - 3 + (A : Int) - 1 := by omega
  have hA2 : A ≤ 39 := by omega
  have hB2 : Bn ≤ 39 := by omega
  clear hA hBn HS6 HR6 HB6
  generalize hBB : w6.heap.size = BB at *
  clear hBB
  go_upto_region 7 with fail
  go_loopw [5, 14, 15] (fun ov jv _ wr => ∃ (l : Nat) (v : Value), l ≤ Bn ∧ jv = .int .i64 (j - 3 + (l : Int)) ∧ ov = v ∧ RfI seed c sh ap X Y P Q w wr BB v (rtL seed sh ((boxL (i - 3) (j - 3) A Bn).take (l * A)))) (fun _ jv _ _ => (j - 3 + (Bn : Int) - intOf jv).toNat)
  case atStart => exact ⟨0, _, by omega, by simp, rfl, by simpa [rtL] using HI6.out⟩
  case round =>
    clear HI6
    obtain ⟨l, v, hl, rfl, rfl, I⟩ := hrel
    have HI := Lib.hid I
    clear I
    by_cases hlt : l < Bn
    · have hlt' : j - 3 + (l : Int) ≤ j1 + 3 := by omega
      go_upto_region 10 with fail
      go_loopw [5, 15] (fun ov iv wr => ∃ (k : Nat) (v : Value), k ≤ A ∧ iv = .int .i64 (i - 3 + (k : Int)) ∧ ov = v ∧ RfI seed c sh ap X Y P Q w wr BB v (rtL seed sh ((boxL (i - 3) (j - 3) A Bn).take (l * A + k)))) (fun _ iv _ => (i - 3 + (A : Int) - intOf iv).toNat)
      case atStart => exact ⟨0, _, by omega, by simp, rfl, by simpa using HI.out⟩
      case round =>
        clear HI
        obtain ⟨k, v, hk, rfl, rfl, I⟩ := hrel
        have HI := Lib.hid I
        clear I
        by_cases hlk : k < A
        · have hlk' : i - 3 + (k : Int) ≤ i1 + 3 := by omega
          obtain ⟨q, hq⟩ : ∃ q : Int × Int, q = (i - 3 + (k : Int), j - 3 + (l : Int)) := ⟨_, rfl⟩
          have hq1 : i - 3 + (k : Int) = q.1 := by rw [hq]
          have hq2 : j - 3 + (l : Int) = q.2 := by rw [hq]
          have HR1' := Lib.hid (show q.1 + 1 = i - 3 + ((k + 1 : Nat) : Int) by omega)
          have HT := HBT.out l k hlk hlt
          rw [← hq] at HT
          have hN := rtL_next (seed := seed) (sh := sh) (L := (boxL (i - 3) (j - 3) A Bn).take (l * A + k)) (q := q)
          rw [HT] at hN
          have HN := Lib.hid hN
          have hml : (rtL seed sh ((boxL (i - 3) (j - 3) A Bn).take (l * A + k))).length ≤ 1521 := Nat.le_trans (rtL_len _ _ _) (by rw [List.length_take, HBL.out]; omega)
          generalize rtL seed sh ((boxL (i - 3) (j - 3) A Bn).take (l * A + k)) = m at *
          have KC1 := Lib.hid (KC.out q (by omega) (by omega) (by omega) (by omega))
          have KH6 := Lib.hid (fun w => hash2_bel seed q.1 q.2 6 w)
          have KU6 := Lib.hid (fun w => refunit_word seed q.1 q.2 6 w)
          have KH7 := Lib.hid (fun w => hash2_bel seed q.1 q.2 7 w)
          have HQC : Hid (rcC seed c q = [.int .i64 q.1, .int .i64 q.2, .int .u32 (hashTo seed q.1 q.2 7 3), .int .i64 (plI seed c q).1, .int .i64 (plI seed c q).2]) := rfl
          have HTQ : thB seed sh q = (FloatKind.f32.format.order (hsF seed q.1 q.2 6) sh == some Ordering.lt) := rfl
          have hpl : cen seed q.1 q.2 c = plI seed c q := rfl
          rw [hpl] at KC1
          rw [HTQ] at HN
          generalize hcc : plI seed c q = cc at *
          generalize hashTo seed q.1 q.2 6 3 = h6 at *
          generalize hashTo seed q.1 q.2 7 3 = h7 at *
          generalize hsF seed q.1 q.2 6 = u6 at *
          have G1 : Hid (m.length + 1 ≤ maxLen) := by unfold maxLen Hid; omega
          have G2 : Hid ((m.length + 1) * 40 ≤ 140737488355328) := by unfold Hid; omega
          rw [hq1, hq2]
          rw [hq1] at hlk'
          have qb1 : q.1 ≤ 8388672 := by omega
          have qb2 : -8388608 ≤ q.1 := by omega
          obtain ⟨bb, hbb⟩ : ∃ bb, (FloatKind.f32.format.order u6 sh == some Ordering.lt) = bb := ⟨_, rfl⟩
          have HN1 := HN.out
          rw [hbb] at HN1
          have HN := Lib.hid HN1
          clear hq hq1 hq2 hpl hcc HT hN HTQ HN1
          obtain ⟨cx, cy⟩ := cc
          unfold ptV at KC1
          simp only at KC1 HQC
          go_upto_region 12 with fail
          have HS := Lib.hid HI.out.s
          unfold scC at HS
          refine wp_region_noPanic ?_
          refine wp_region_heldT (fun w' => Blk w' w.heap.size #[.int .u32 seed, .int .i64 c, .float .f32 sh, .int .i64 ap] 93) 9 (by kernel_rfl) HS.out.drew (fun hHeld => ?_)
          refine wpAnyT_takeL [] (i := 0) (v := ?_) rfl (by kernel_rfl) (by kernel_rfl) (by kernel_rfl) (by kernel_rfl) (fun _ _ _ h => h) (Or.inl ⟨by rfl, ?_⟩) (by with_reducible assumption) ?_
          rotate_left
          · intro w hSw
            have z0 := hSw.cell 0
            have z1 := hSw.cell 1
            have z2 := hSw.cell 2
            have z3 := hSw.cell 3
            simp at z0 z1 z2 z3
            clear hSw
            go_simp
            try with_reducible rfl
          try simp only [Act.put, List.setIfInBounds_toArray, List.set_cons_zero, List.set_cons_succ]
          refine wpAnyT_takeL [] (i := 1) (v := ?_) rfl (by kernel_rfl) (by kernel_rfl) (by kernel_rfl) (by kernel_rfl) (fun _ _ _ h => h) (Or.inl ⟨by rfl, ?_⟩) (by with_reducible assumption) ?_
          rotate_left
          · intro w hSw
            have z0 := hSw.cell 0
            have z1 := hSw.cell 1
            have z2 := hSw.cell 2
            have z3 := hSw.cell 3
            simp at z0 z1 z2 z3
            clear hSw
            go_simp
            try with_reducible rfl
          try simp only [Act.put, List.setIfInBounds_toArray, List.set_cons_zero, List.set_cons_succ]
          refine wpAnyT_takeL [] (i := 2) (v := ?_) rfl (by kernel_rfl) (by kernel_rfl) (by kernel_rfl) (by kernel_rfl) (fun _ _ _ h => h) (Or.inl ⟨by rfl, ?_⟩) (by with_reducible assumption) ?_
          rotate_left
          · intro w hSw
            have z0 := hSw.cell 0
            have z1 := hSw.cell 1
            have z2 := hSw.cell 2
            have z3 := hSw.cell 3
            simp at z0 z1 z2 z3
            clear hSw
            go_simp
            try with_reducible rfl
          try simp only [Act.put, List.setIfInBounds_toArray, List.set_cons_zero, List.set_cons_succ]
          refine wpAnyT_takeL [] (i := 3) (v := ?_) rfl (by kernel_rfl) (by kernel_rfl) (by kernel_rfl) (by kernel_rfl) (fun _ _ _ h => h) (Or.inl ⟨by rfl, ?_⟩) (by with_reducible assumption) ?_
          rotate_left
          · intro w hSw
            have z0 := hSw.cell 0
            have z1 := hSw.cell 1
            have z2 := hSw.cell 2
            have z3 := hSw.cell 3
            simp at z0 z1 z2 z3
            clear hSw
            go_simp
            try with_reducible rfl
          try simp only [Act.put, List.setIfInBounds_toArray, List.set_cons_zero, List.set_cons_succ]
          refine wpAnyT_takeL [] (i := 6) (v := ?_) rfl (by kernel_rfl) (by kernel_rfl) (by kernel_rfl) (by kernel_rfl) (fun _ _ _ h => h) (Or.inl ⟨by rfl, ?_⟩) (by with_reducible assumption) ?_
          rotate_left
          · intro w hSw
            have z0 := hSw.cell 0
            have z1 := hSw.cell 1
            have z2 := hSw.cell 2
            have z3 := hSw.cell 3
            simp at z0 z1 z2 z3
            clear hSw
            go_simp
            try with_reducible rfl
          try simp only [Act.put, List.setIfInBounds_toArray, List.set_cons_zero, List.set_cons_succ]
          refine wpAnyT_takeL [] (i := 7) (v := ?_) rfl (by kernel_rfl) (by kernel_rfl) (by kernel_rfl) (by kernel_rfl) (fun _ _ _ h => h) (Or.inl ⟨by rfl, ?_⟩) (by with_reducible assumption) ?_
          rotate_left
          · intro w hSw
            have z0 := hSw.cell 0
            have z1 := hSw.cell 1
            have z2 := hSw.cell 2
            have z3 := hSw.cell 3
            simp at z0 z1 z2 z3
            clear hSw
            go_simp
            try with_reducible rfl
          try simp only [Act.put, List.setIfInBounds_toArray, List.set_cons_zero, List.set_cons_succ]
          refine wpAnyT_ready (rs := [4]) (by kernel_rfl) (by simp) ?_
          refine AllReadyT.cons rfl (fun K hK => ?_) AllReadyT.nil
          go_simp
          refine (KH6.out _).mono ?_
          rintro e w2 ⟨rfl, hb⟩
          have HI2 := Lib.hid (HI.out.drew.call hb)
          have HS2 := HI2.out.s
          unfold scC at HS2
          clear hb
          go_wp2_with fail
          refine hK.out _ _ (fun _ => HS2) (fun hS_ => ?_)
          have hHeld := hS_ (by omega)
          clear hS_ hK K
          try simp only [Act.put, List.setIfInBounds_toArray, List.set_cons_zero, List.set_cons_succ]
          refine wpAnyT_ready (rs := [5]) (by kernel_rfl) (by simp) ?_
          refine AllReadyT.cons rfl (fun K hK => ?_) AllReadyT.nil
          go_simp
          refine (KU6.out _).mono ?_
          rintro e w3 ⟨rfl, rfl⟩
          go_wp2_with fail
          refine hK.out _ _ (fun _ => HS2) (fun hS_ => ?_)
          have hHeld := hS_ (by omega)
          clear hS_ hK K
          try simp only [Act.put, List.setIfInBounds_toArray, List.set_cons_zero, List.set_cons_succ]
          refine wpAnyT_takeL [] (i := 8) (v := ?_) rfl (by kernel_rfl) (by kernel_rfl) (by kernel_rfl) (by kernel_rfl) (fun _ _ _ h => h) (Or.inl ⟨by rfl, ?_⟩) (by with_reducible assumption) ?_
          rotate_left
          · intro w hSw
            have z0 := hSw.cell 0
            have z1 := hSw.cell 1
            have z2 := hSw.cell 2
            have z3 := hSw.cell 3
            simp at z0 z1 z2 z3
            clear hSw
            go_simp
            try with_reducible rfl
          try simp only [Act.put, List.setIfInBounds_toArray, List.set_cons_zero, List.set_cons_succ]
          refine wpAnyT_done (by kernel_rfl) ?_ _
          refine NoPanic.normal ?_
          clear hHeld HS2 HI HS
          cases bb with
          | false =>
            go_wp2_with fail
            go_roundw
            case rel => exact ⟨k + 1, _, by omega, by rw [HR1'.out], rfl, by rw [HN.out]; simpa using HI2.out⟩
            case measure => simp [intOf]; omega
          | true =>
            go_upto_region 13 with fail
            have HS := Lib.hid HI2.out.s
            unfold scC at HS
            refine wp_region_noPanic ?_
            refine wp_region_heldT (fun w' => Blk w' w.heap.size #[.int .u32 seed, .int .i64 c, .float .f32 sh, .int .i64 ap] 93) 19 (by kernel_rfl) HS.out.drew (fun hHeld => ?_)
            refine wpAnyT_takeL [] (i := 0) (v := ?_) rfl (by kernel_rfl) (by kernel_rfl) (by kernel_rfl) (by kernel_rfl) (fun _ _ _ h => h) (Or.inl ⟨by rfl, ?_⟩) (by with_reducible assumption) ?_
            rotate_left
            · intro w hSw
              have z0 := hSw.cell 0
              have z1 := hSw.cell 1
              have z2 := hSw.cell 2
              have z3 := hSw.cell 3
              simp at z0 z1 z2 z3
              clear hSw
              go_simp
              try with_reducible rfl
            try simp only [Act.put, List.setIfInBounds_toArray, List.set_cons_zero, List.set_cons_succ]
            refine wpAnyT_takeL [] (i := 1) (v := ?_) rfl (by kernel_rfl) (by kernel_rfl) (by kernel_rfl) (by kernel_rfl) (fun _ _ _ h => h) (Or.inl ⟨by rfl, ?_⟩) (by with_reducible assumption) ?_
            rotate_left
            · intro w hSw
              have z0 := hSw.cell 0
              have z1 := hSw.cell 1
              have z2 := hSw.cell 2
              have z3 := hSw.cell 3
              simp at z0 z1 z2 z3
              clear hSw
              go_simp
              try with_reducible rfl
            try simp only [Act.put, List.setIfInBounds_toArray, List.set_cons_zero, List.set_cons_succ]
            refine wpAnyT_takeL [] (i := 2) (v := ?_) rfl (by kernel_rfl) (by kernel_rfl) (by kernel_rfl) (by kernel_rfl) (fun _ _ _ h => h) (Or.inl ⟨by rfl, ?_⟩) (by with_reducible assumption) ?_
            rotate_left
            · intro w hSw
              have z0 := hSw.cell 0
              have z1 := hSw.cell 1
              have z2 := hSw.cell 2
              have z3 := hSw.cell 3
              simp at z0 z1 z2 z3
              clear hSw
              go_simp
              try with_reducible rfl
            try simp only [Act.put, List.setIfInBounds_toArray, List.set_cons_zero, List.set_cons_succ]
            refine wpAnyT_takeL [] (i := 3) (v := ?_) rfl (by kernel_rfl) (by kernel_rfl) (by kernel_rfl) (by kernel_rfl) (fun _ _ _ h => h) (Or.inl ⟨by rfl, ?_⟩) (by with_reducible assumption) ?_
            rotate_left
            · intro w hSw
              have z0 := hSw.cell 0
              have z1 := hSw.cell 1
              have z2 := hSw.cell 2
              have z3 := hSw.cell 3
              simp at z0 z1 z2 z3
              clear hSw
              go_simp
              try with_reducible rfl
            try simp only [Act.put, List.setIfInBounds_toArray, List.set_cons_zero, List.set_cons_succ]
            refine wpAnyT_takeL [] (i := 4) (v := ?_) rfl (by kernel_rfl) (by kernel_rfl) (by kernel_rfl) (by kernel_rfl) (fun _ _ _ h => h) (Or.inl ⟨by rfl, ?_⟩) (by with_reducible assumption) ?_
            rotate_left
            · intro w hSw
              have z0 := hSw.cell 0
              have z1 := hSw.cell 1
              have z2 := hSw.cell 2
              have z3 := hSw.cell 3
              simp at z0 z1 z2 z3
              clear hSw
              go_simp
              try with_reducible rfl
            try simp only [Act.put, List.setIfInBounds_toArray, List.set_cons_zero, List.set_cons_succ]
            refine wpAnyT_takeL [] (i := 5) (v := ?_) rfl (by kernel_rfl) (by kernel_rfl) (by kernel_rfl) (by kernel_rfl) (fun _ _ _ h => h) (Or.inl ⟨by rfl, ?_⟩) (by with_reducible assumption) ?_
            rotate_left
            · intro w hSw
              have z0 := hSw.cell 0
              have z1 := hSw.cell 1
              have z2 := hSw.cell 2
              have z3 := hSw.cell 3
              simp at z0 z1 z2 z3
              clear hSw
              go_simp
              try with_reducible rfl
            try simp only [Act.put, List.setIfInBounds_toArray, List.set_cons_zero, List.set_cons_succ]
            refine wpAnyT_takeL [] (i := 6) (v := ?_) rfl (by kernel_rfl) (by kernel_rfl) (by kernel_rfl) (by kernel_rfl) (fun _ _ _ h => h) (Or.inl ⟨by rfl, ?_⟩) (by with_reducible assumption) ?_
            rotate_left
            · intro w hSw
              have z0 := hSw.cell 0
              have z1 := hSw.cell 1
              have z2 := hSw.cell 2
              have z3 := hSw.cell 3
              simp at z0 z1 z2 z3
              clear hSw
              go_simp
              try with_reducible rfl
            try simp only [Act.put, List.setIfInBounds_toArray, List.set_cons_zero, List.set_cons_succ]
            refine wpAnyT_takeL [] (i := 8) (v := ?_) rfl (by kernel_rfl) (by kernel_rfl) (by kernel_rfl) (by kernel_rfl) (fun _ _ _ h => h) (Or.inl ⟨by rfl, ?_⟩) (by with_reducible assumption) ?_
            rotate_left
            · intro w hSw
              have z0 := hSw.cell 0
              have z1 := hSw.cell 1
              have z2 := hSw.cell 2
              have z3 := hSw.cell 3
              simp at z0 z1 z2 z3
              clear hSw
              go_simp
              try with_reducible rfl
            try simp only [Act.put, List.setIfInBounds_toArray, List.set_cons_zero, List.set_cons_succ]
            refine wpAnyT_takeL [] (i := 9) (v := ?_) rfl (by kernel_rfl) (by kernel_rfl) (by kernel_rfl) (by kernel_rfl) (fun _ _ _ h => h) (Or.inl ⟨by rfl, ?_⟩) (by with_reducible assumption) ?_
            rotate_left
            · intro w hSw
              have z0 := hSw.cell 0
              have z1 := hSw.cell 1
              have z2 := hSw.cell 2
              have z3 := hSw.cell 3
              simp at z0 z1 z2 z3
              clear hSw
              go_simp
              try with_reducible rfl
            try simp only [Act.put, List.setIfInBounds_toArray, List.set_cons_zero, List.set_cons_succ]
            refine wpAnyT_takeL [] (i := 10) (v := ?_) rfl (by kernel_rfl) (by kernel_rfl) (by kernel_rfl) (by kernel_rfl) (fun _ _ _ h => h) (Or.inl ⟨by rfl, ?_⟩) (by with_reducible assumption) ?_
            rotate_left
            · intro w hSw
              have z0 := hSw.cell 0
              have z1 := hSw.cell 1
              have z2 := hSw.cell 2
              have z3 := hSw.cell 3
              simp at z0 z1 z2 z3
              clear hSw
              go_simp
              try with_reducible rfl
            try simp only [Act.put, List.setIfInBounds_toArray, List.set_cons_zero, List.set_cons_succ]
            refine wpAnyT_takeL [] (i := 11) (v := ?_) rfl (by kernel_rfl) (by kernel_rfl) (by kernel_rfl) (by kernel_rfl) (fun _ _ _ h => h) (Or.inl ⟨by rfl, ?_⟩) (by with_reducible assumption) ?_
            rotate_left
            · intro w hSw
              have z0 := hSw.cell 0
              have z1 := hSw.cell 1
              have z2 := hSw.cell 2
              have z3 := hSw.cell 3
              simp at z0 z1 z2 z3
              clear hSw
              go_simp
              try with_reducible rfl
            try simp only [Act.put, List.setIfInBounds_toArray, List.set_cons_zero, List.set_cons_succ]
            refine wpAnyT_takeL [] (i := 12) (v := ?_) rfl (by kernel_rfl) (by kernel_rfl) (by kernel_rfl) (by kernel_rfl) (fun _ _ _ h => h) (Or.inl ⟨by rfl, ?_⟩) (by with_reducible assumption) ?_
            rotate_left
            · intro w hSw
              have z0 := hSw.cell 0
              have z1 := hSw.cell 1
              have z2 := hSw.cell 2
              have z3 := hSw.cell 3
              simp at z0 z1 z2 z3
              clear hSw
              go_simp
              try with_reducible rfl
            try simp only [Act.put, List.setIfInBounds_toArray, List.set_cons_zero, List.set_cons_succ]
            refine wpAnyT_takeL [] (i := 13) (v := ?_) rfl (by kernel_rfl) (by kernel_rfl) (by kernel_rfl) (by kernel_rfl) (fun _ _ _ h => h) (Or.inl ⟨by rfl, ?_⟩) (by with_reducible assumption) ?_
            rotate_left
            · intro w hSw
              have z0 := hSw.cell 0
              have z1 := hSw.cell 1
              have z2 := hSw.cell 2
              have z3 := hSw.cell 3
              simp at z0 z1 z2 z3
              clear hSw
              go_simp
              try with_reducible rfl
            try simp only [Act.put, List.setIfInBounds_toArray, List.set_cons_zero, List.set_cons_succ]
            refine wpAnyT_ready (rs := [7]) (by kernel_rfl) (by simp) ?_
            refine AllReadyT.cons rfl (fun K hK => ?_) AllReadyT.nil
            go_simp
            refine (KH7.out _).mono ?_
            rintro e w4 ⟨rfl, hb⟩
            have HI4 := Lib.hid (HI2.out.drew.call hb)
            have HS4 := HI4.out.s
            unfold scC at HS4
            clear hb
            go_wp2_with fail
            refine hK.out _ _ (fun _ => HS4) (fun hS_ => ?_)
            have hHeld := hS_ (by omega)
            clear hS_ hK K
            try simp only [Act.put, List.setIfInBounds_toArray, List.set_cons_zero, List.set_cons_succ]
            refine wpAnyT_ready (rs := [14]) (by kernel_rfl) (by simp) ?_
            refine AllReadyT.cons rfl (fun K hK => ?_) AllReadyT.nil
            go_simp
            refine (KC1.out _).mono ?_
            rintro e w5 ⟨rfl, hb⟩
            have HI5 := Lib.hid (HI4.out.call hb)
            have HS5 := HI5.out.s
            unfold scC at HS5
            clear hb
            go_wp2_with fail
            refine hK.out _ _ (fun _ => HS5) (fun hS_ => ?_)
            have hHeld := hS_ (by omega)
            clear hS_ hK K
            try simp only [Act.put, List.setIfInBounds_toArray, List.set_cons_zero, List.set_cons_succ]
            refine wpAnyT_takeL [] (i := 15) (v := ?_) rfl (by kernel_rfl) (by kernel_rfl) (by kernel_rfl) (by kernel_rfl) (fun _ _ _ h => h) (Or.inl ⟨by rfl, ?_⟩) (by with_reducible assumption) ?_
            rotate_left
            · intro w hSw
              have z0 := hSw.cell 0
              have z1 := hSw.cell 1
              have z2 := hSw.cell 2
              have z3 := hSw.cell 3
              simp at z0 z1 z2 z3
              clear hSw
              go_simp
              try with_reducible rfl
            try simp only [Act.put, List.setIfInBounds_toArray, List.set_cons_zero, List.set_cons_succ]
            refine wpAnyT_ready (rs := [16]) (by kernel_rfl) (by simp) ?_
            refine AllReadyT.cons rfl (fun K hK => ?_) AllReadyT.nil
            go_simp
            have hN := HS5.alloc (.cells #[.int .i64 q.1, .int .i64 q.2, .int .u32 h7, .int .i64 cx, .int .i64 cy] 195)
            have HI6 := Lib.hid (HI5.out.alloc (.cells #[.int .i64 q.1, .int .i64 q.2, .int .u32 h7, .int .i64 cx, .int .i64 cy] 195))
            have G3 : Hid (BB ≤ (w5.alloc (.cells #[.int .i64 q.1, .int .i64 q.2, .int .u32 h7, .int .i64 cx, .int .i64 cy] 195)).heap.size) := HI6.out.bz
            refine hK.out _ _ (fun _ => hN) (fun hS_ => ?_)
            have hHeld := hS_ (by omega)
            clear hS_ hK K
            try simp only [Act.put, List.setIfInBounds_toArray, List.set_cons_zero, List.set_cons_succ]
            refine wpAnyT_ready (rs := [17]) (by kernel_rfl) (by simp) ?_
            refine AllReadyT.cons rfl (fun K hK => ?_) AllReadyT.nil
            refine step_append_lies _ (by rfl) _ _ _ (by rfl) BB 195 ir (.agg #[.int .i64 0, .int .i64 0, .int .u32 0, .int .i64 0, .int .i64 0]) 5 40 Try.underlying189 hir rz0 rz1 rz2 rfl (by omega) _ m.length (rcL seed c m) (by rfl) HI6.out.own ⟨w5.heap.size, 0, none⟩ 1 1 [.int .i64 q.1, .int .i64 q.2, .int .u32 h7, .int .i64 cx, .int .i64 cy] (by rfl) (by rfl) (World.news_of_block (cs := #[.int .i64 q.1, .int .i64 q.2, .int .u32 h7, .int .i64 cx, .int .i64 cy]) (t := 195) (fr := (0, 0)) (heap_alloc_new w5 _)) (by simp [Value.oneCell']) (by omega) G1.out G2.out G3.out (w5.heap.size + 1) (by simp) ?_
            intro gg cap w6 hown6 hgrow6 hat6 hlt6
            have hI7 := HI6.out.app (q := q) (by rw [HQC.out]; exact hown6) hgrow6
            have HI7 := Lib.hid hI7
            have HS7 := hI7.s
            unfold scC at HS7
            clear hI7 hown6 hgrow6 hat6
            refine hK.out _ _ (fun _ => HS7) (fun hS_ => ?_)
            have hHeld := hS_ (by omega)
            clear hS_ hK K
            try simp only [Act.put, List.setIfInBounds_toArray, List.set_cons_zero, List.set_cons_succ]
            refine wpAnyT_takeL [] (i := 18) (v := ?_) rfl (by kernel_rfl) (by kernel_rfl) (by kernel_rfl) (by kernel_rfl) (fun _ _ _ h => h) (Or.inl ⟨by rfl, ?_⟩) (by with_reducible assumption) ?_
            rotate_left
            · intro w hSw
              have z0 := hSw.cell 0
              have z1 := hSw.cell 1
              have z2 := hSw.cell 2
              have z3 := hSw.cell 3
              simp at z0 z1 z2 z3
              clear hSw
              go_simp
              try with_reducible rfl
            try simp only [Act.put, List.setIfInBounds_toArray, List.set_cons_zero, List.set_cons_succ]
            refine wpAnyT_done (by kernel_rfl) ?_ _
            refine NoPanic.normal ?_
            clear hHeld HS7 HI6 HI5 HI4 HI2 HS hN HS4 HS5
            go_wp2_with fail
            go_roundw
            case rel => exact ⟨k + 1, _, by omega, by rw [HR1'.out], rfl, by rw [HN.out]; exact HI7.out⟩
            case measure => simp [intOf]; omega
        · obtain rfl : k = A := by omega
          have hnl : ¬ i - 3 + (k : Int) ≤ i1 + 3 := by omega
          have HE : Hid (l * k + k = (l + 1) * k) := by unfold Hid; rw [Nat.add_mul, Nat.one_mul]
          have I2 := HI.out
          rw [HE.out] at I2
          have HI2 := Lib.hid I2
          clear I2 HI HE
          go_wp2_with fail
          go_roundw
          case rel => exact ⟨l + 1, _, by omega, by go_num, rfl, HI2.out⟩
          case measure => simp [intOf]; omega
    · obtain rfl : l = Bn := by omega
      have hnl : ¬ j - 3 + (l : Int) ≤ j1 + 3 := by omega
      have I2 := HI.out
      rw [List.take_of_length_le (by rw [HBL.out]; exact Nat.le_refl _)] at I2
      have HLS : Hid ((rtL seed sh (boxL (i - 3) (j - 3) A l)).Pairwise ltC) := Lib.hid (HBS.out.filter _)
      have hml : (rtL seed sh (boxL (i - 3) (j - 3) A l)).length ≤ 1521 := Nat.le_trans (rtL_len _ _ _) (by rw [HBL.out]; exact hWH)
      have HSL : Hid (rfL seed c sh ap X Y P Q (rtL seed sh (boxL (i - 3) (j - 3) A l)) (rtL seed sh (boxL (i - 3) (j - 3) A l)) = scL seed c sh ap X Y P Q) := HSC
      have HTA : Hid (∀ d ∈ rtL seed sh (boxL (i - 3) (j - 3) A l), thB seed sh d = true ∧ i - 3 ≤ d.1 ∧ d.1 < i - 3 + (A : Int) ∧ j - 3 ≤ d.2 ∧ d.2 < j - 3 + (l : Int)) := fun d hd => by
        obtain ⟨d1, d2⟩ := List.mem_filter.1 hd
        exact ⟨d2, mem_box.1 d1⟩
      generalize rtL seed sh (boxL (i - 3) (j - 3) A l) = L at *
      obtain ⟨g, pp, cap, rfl, hcap, hpp, hrc, hgl⟩ := I2.slice
      have HPP := Lib.hid hpp
      have HJ0 : Hid (RgI seed c sh ap X Y P Q w wr wr.heap.size g L (.slice none 0 0) []) := Lib.hid ⟨I2.s, I2.r, hrc, Nat.lt_of_lt_of_le I2.lb I2.bz, hgl, Nat.le_refl _, World.ownsRow_nil _ _ _ _, I2.b⟩
      clear I2 HI hpp hrc hgl HBT HBL HBS HSC KC
      have HBx := Lib.hid (show ∀ d ∈ L, (-16777216 ≤ d.1 ∧ d.1 ≤ 16777216) ∧ (-16777216 ≤ d.2 ∧ d.2 ≤ 16777216) ∧ i - 3 ≤ d.1 ∧ d.1 < i - 3 + (A : Int) ∧ j - 3 ≤ d.2 ∧ d.2 < j - 3 + (l : Int) from fun d hd => by
        have := HTA.out d hd
        omega)
      go_upto_region 14 with fail
      generalize hBB2 : wr.heap.size = BB2 at *
      clear hBB2
      go_upto_region 16 with fail
      go_loopw [16, 17, 18, 19, 20, 21, 107, 124] (fun ov _ _ _ _ _ kv _ wr => ∃ (k : Nat) (v : Value), k ≤ L.length ∧ kv = .int .i64 (k : Int) ∧ ov = v ∧ RgI seed c sh ap X Y P Q w wr BB2 g L v (rfL seed c sh ap X Y P Q L (L.take k))) (fun _ _ _ _ _ _ kv _ _ => (L.length - (intOf kv)).toNat)
      case atStart => exact ⟨0, _, by omega, by simp, rfl, by simpa [rfL] using HJ0.out⟩
      case round =>
        clear HJ0
        obtain ⟨k, v, hk, rfl, hov, I⟩ := hrel
        have hov := hov.symm
        subst hov
        have HI := Lib.hid I
        clear I
        by_cases hlk : k < L.length
        · obtain ⟨q, hq⟩ : ∃ q : Int × Int, L[k]? = some q := ⟨_, List.getElem?_eq_getElem hlk⟩
          have hLn : L ≠ [] := fun e => by rw [e] at hq; simp at hq
          have hpg := HPP.out hLn
          subst hpg
          have HT : L.take k ++ [q] = L.take (k + 1) := by rw [List.take_add_one, hq]; rfl
          have hN := rfL_next (seed := seed) (c := c) (sh := sh) (ap := ap) (X := X) (Y := Y) (P := P) (Q := Q) (L := L) (L0 := L.take k) (q := q)
          rw [HT] at hN
          have hmm : (rfL seed c sh ap X Y P Q L (L.take k)).length ≤ 1521 := Nat.le_trans (rfL_len _ _ _ _ _ _ _ _ _ _) (by rw [List.length_take]; omega)
          generalize rfL seed c sh ap X Y P Q L (L.take k) = m0 at *
          have cz := fun t ht => HI.out.a.2 k q hq t ht
          have d0 := cz 0 (by omega)
          have d1 := cz 1 (by omega)
          have d2 := cz 2 (by omega)
          have d3 := cz 3 (by omega)
          have d4 := cz 4 (by omega)
          have HQM := Lib.hid (HBx.out q (List.mem_of_getElem? hq))
          obtain ⟨qi, hqi⟩ : ∃ z, z = q.1 := ⟨_, rfl⟩
          obtain ⟨qj, hqj⟩ : ∃ z, z = q.2 := ⟨_, rfl⟩
          obtain ⟨px, hpx⟩ : ∃ z, z = (plI seed c q).1 := ⟨_, rfl⟩
          obtain ⟨py, hpy⟩ : ∃ z, z = (plI seed c q).2 := ⟨_, rfl⟩
          obtain ⟨rq, hrq⟩ : ∃ z, z = rkI seed q := ⟨_, rfl⟩
          obtain ⟨ab, hab⟩ : ∃ z, z = L.any fun d => exB ap (thB seed sh) (rkI seed) (plI seed c) q d := ⟨_, rfl⟩
          have hpl : plI seed c q = (px, py) := by rw [hpx, hpy]
          have hcd : rcC seed c q = [.int .i64 qi, .int .i64 qj, .int .u32 rq, .int .i64 px, .int .i64 py] := by rw [hpx, hpy, hrq, hqi, hqj]; rfl
          rw [hcd] at d0 d1 d2 d3 d4
          rw [hpl, ← hab] at hN
          simp only [List.getElem?_cons_zero, List.getElem?_cons_succ, Nat.add_zero] at d0 d1 d2 d3 d4
          have HN := Lib.hid hN
          have HPL := Lib.hid hpl
          have HRK := Lib.hid hrq
          have HAB := Lib.hid hab
          have HQ := Lib.hid hq
          have lg := HI.out.a.1
          clear cz HT hN hpx hpy hrq hqi hqj hab hcd hpl hq hLn
          go_upto_region 18 with fail
          have hI2 := HI.out.alloc (.cells #[.int .i64 qi, .int .i64 qj, .int .u32 rq, .int .i64 px, .int .i64 py] 195)
          have hD2 := Blk.new wr #[.int .i64 qi, .int .i64 qj, .int .u32 rq, .int .i64 px, .int .i64 py] 195
          generalize wr.alloc (.cells #[.int .i64 qi, .int .i64 qj, .int .u32 rq, .int .i64 px, .int .i64 py] 195) = W2 at *
          have HI2 := Lib.hid hI2
          have HD2 := Lib.hid hD2
          generalize wr.heap.size = kd at *
          clear hI2 hD2 d0 d1 d2 d3 d4 HI lg
          obtain ⟨r0, r1, r2, r3⟩ := HI2.out.r.cells
          have lr := HI2.out.r.lt
          have x3 := HD2.out.cell 3
          have x4 := HD2.out.cell 4
          simp at x3 x4
          have lx := HD2.out.lt
          have KI := Lib.hid (fun w => refinside_pt X Y P Q px py w (by omega) (by omega) (by omega) (by omega) (by omega) (by omega) (by omega) (by omega))
          by_cases hin : inR X Y P Q px py
          · have hib2 : insR X Y P Q (px, py) = true := decide_eq_true hin
            rw [decide_eq_true hin] at KI
            rw [hib2] at HN
            clear hin hib2
            go_wp2_with fail
            refine (KI.out _).mono ?_
            rintro e w3 ⟨rfl, b3⟩
            have HI3 := Lib.hid (HI2.out.call b3)
            have HD3 := Lib.hid (HD2.out.below b3 HD2.out.lt)
            clear b3 HI2 HD2 r0 r1 r2 r3 lr x3 x4 lx KI
            go_upto_region 21 with fail
            go_loopw [19, 20, 21, 124] (fun bv _ _ mv wr => ∃ n : Nat, n ≤ L.length ∧ mv = .int .i64 (n : Int) ∧ bv = .bool false ∧ (∀ (m : Nat) (d : Int × Int), m < n → L[m]? = some d → exB ap (thB seed sh) (rkI seed) (plI seed c) q d = false) ∧ RgI seed c sh ap X Y P Q w wr BB2 g L v m0 ∧ Blk wr kd #[.int .i64 qi, .int .i64 qj, .int .u32 rq, .int .i64 px, .int .i64 py] 195) (fun _ _ _ mv _ => (L.length - (intOf mv)).toNat)
            case atStart => exact ⟨0, by omega, by simp, rfl, fun m d h => absurd h (by omega), HI3.out, HD3.out⟩
            case round =>
              clear HI3 HD3
              obtain ⟨n, hn, rfl, rfl, hE, I, D⟩ := hrel
              have HE := Lib.hid hE
              have HI := Lib.hid I
              have HD := Lib.hid D
              clear hE I D
              by_cases hln : n < L.length
              · obtain ⟨d, hd⟩ : ∃ d : Int × Int, L[n]? = some d := ⟨_, List.getElem?_eq_getElem hln⟩
                obtain ⟨ht1, ht2⟩ := th_idx HLS.out hd HQ.out
                have cz := fun t ht => HI.out.a.2 n d hd t ht
                have d0 := cz 0 (by omega)
                have d1 := cz 1 (by omega)
                have d2 := cz 2 (by omega)
                have d3 := cz 3 (by omega)
                have d4 := cz 4 (by omega)
                have hDM := HBx.out d (List.mem_of_getElem? hd)
                have hTD := (HTA.out d (List.mem_of_getElem? hd)).1
                have hQM := HQM.out
                have hnr := pl_near (seed := seed) c1 c2 (q := q) (d := d) (by omega) (by omega)
                have hbg := pl_big (seed := seed) c1 c2 (q := d) hDM.1 hDM.2.1
                have KS := Lib.hid (fun w => square2_any (plI seed c q) (plI seed c d) w hnr.1 hnr.2 hbg.1 hbg.2)
                have HX : Hid (exB ap (thB seed sh) (rkI seed) (plI seed c) q d = (decide (d ≠ q) && befB (rkI seed) q d && decide (sqI (plI seed c q) (plI seed c d) ≤ ap * ap))) := by
                  unfold exB Hid; rw [hTD, Bool.true_and]
                have HBF : Hid (befB (rkI seed) q d = decide (rkI seed d < rq ∨ rkI seed d = rq ∧ n < k)) := by
                  rw [HRK.out]
                  unfold befB Hid; simp only [ht1]
                have HEQ := Lib.hid ht2
                have HDD := Lib.hid hd
                rw [HPL.out] at KS HX
                unfold rcC at d0 d1 d2 d3 d4
                simp only [List.getElem?_cons_zero, List.getElem?_cons_succ, Nat.add_zero] at d0 d1 d2 d3 d4
                have lg := HI.out.a.1
                clear cz hd ht1 ht2 hnr hbg hTD hDM hQM
                obtain ⟨fb, hfb⟩ : ∃ fb, fb = befB (rkI seed) q d := ⟨_, rfl⟩
                rw [← hfb] at HX HBF
                clear hfb
                generalize rkI seed d = rd at *
                obtain ⟨S, hS⟩ : ∃ S, S = sqI (px, py) (plI seed c d) := ⟨_, rfl⟩
                rw [← hS] at KS HX
                clear hS
                obtain ⟨pd, hpd⟩ : ∃ pd, pd = plI seed c d := ⟨_, rfl⟩
                rw [← hpd] at KS d3 d4
                clear hpd
                obtain ⟨dx, dy⟩ := pd
                obtain ⟨di, hdi⟩ : ∃ z, z = d.1 := ⟨_, rfl⟩
                obtain ⟨dj, hdj⟩ : ∃ z, z = d.2 := ⟨_, rfl⟩
                rw [← hdi] at d0
                rw [← hdj] at d1
                clear hdi hdj
                unfold ptV at KS
                simp only at KS d3 d4
                obtain ⟨sa, hsa⟩ : ∃ sa, sa = ap * ap := ⟨_, rfl⟩
                have hA3 : 0 ≤ ap * ap ∧ ap * ap ≤ 262144 := by
                  have := sq_nn ap
                  have := sq_le_of (a := ap) (m := 512) (by omega) (by omega)
                  omega
                have e2 : ap * ap = sa := hsa.symm
                rw [e2] at hA3 HX
                clear hsa
                have hwa : IntKind.i64.wrap sa = sa := IntWalk.i64_in _ (by omega)
                have hwb : wrap64 sa = sa := by unfold wrap64; omega
                go_upto_region 23 with fail
                have hI4 := HI.out.alloc (.cells #[.int .i64 di, .int .i64 dj, .int .u32 rd, .int .i64 dx, .int .i64 dy] 195)
                have hD4 := HD.out.alloc (.cells #[.int .i64 di, .int .i64 dj, .int .u32 rd, .int .i64 dx, .int .i64 dy] 195)
                have hE4 := Blk.new wr #[.int .i64 di, .int .i64 dj, .int .u32 rd, .int .i64 dx, .int .i64 dy] 195
                generalize wr.alloc (.cells #[.int .i64 di, .int .i64 dj, .int .u32 rd, .int .i64 dx, .int .i64 dy] 195) = W4 at *
                have HI4 := Lib.hid hI4
                have hS4 := hI4.s
                unfold scC at hS4
                have HB4 := Lib.hid (And.intro hS4 (And.intro hD4 hE4))
                generalize wr.heap.size = kd2 at *
                clear hI4 hD4 hE4 hS4 d0 d1 d2 d3 d4 HI HD lg
                by_cases hnk : n = k
                · have hbn : ((n : Int) != (k : Int)) = false := by simp [hnk]
                  have HX2 : exB ap (thB seed sh) (rkI seed) (plI seed c) q d = false := by
                    rw [HX.out, decide_eq_false (show ¬ d ≠ q from fun h => h (HEQ.out.2 hnk))]; simp
                  have HX2 := Lib.hid HX2
                  refine wp_region_noPanic ?_
                  refine wp_region_heldT (fun w' => Blk w' w.heap.size #[.int .u32 seed, .int .i64 c, .float .f32 sh, .int .i64 ap] 93 ∧ Blk w' kd #[.int .i64 qi, .int .i64 qj, .int .u32 rq, .int .i64 px, .int .i64 py] 195 ∧ Blk w' kd2 #[.int .i64 di, .int .i64 dj, .int .u32 rd, .int .i64 dx, .int .i64 dy] 195) 35 (by kernel_rfl) ⟨HB4.out.1.drew, HB4.out.2.1.drew, HB4.out.2.2.drew⟩ (fun hHeld => ?_)
                  refine wpAnyT_takeL [] (i := 0) (v := ?_) rfl (by kernel_rfl) (by kernel_rfl) (by kernel_rfl) (by kernel_rfl) (fun _ _ _ h => h) (Or.inl ⟨by kernel_rfl, ?_⟩) (by with_reducible assumption) ?_
                  rotate_left
                  · intro w hSw
                    have z3 := hSw.1.cell 3
                    have y2 := hSw.2.1.cell 2
                    have y3 := hSw.2.1.cell 3
                    have y4 := hSw.2.1.cell 4
                    have x2 := hSw.2.2.cell 2
                    have x3 := hSw.2.2.cell 3
                    have x4 := hSw.2.2.cell 4
                    simp at z3 y2 y3 y4 x2 x3 x4
                    clear hSw
                    go_simp
                    try with_reducible rfl
                  try simp only [Act.put, List.setIfInBounds_toArray, List.set_cons_zero, List.set_cons_succ]
                  refine wpAnyT_takeL [] (i := 1) (v := ?_) rfl (by kernel_rfl) (by kernel_rfl) (by kernel_rfl) (by kernel_rfl) (fun _ _ _ h => h) (Or.inl ⟨by kernel_rfl, ?_⟩) (by with_reducible assumption) ?_
                  rotate_left
                  · intro w hSw
                    have z3 := hSw.1.cell 3
                    have y2 := hSw.2.1.cell 2
                    have y3 := hSw.2.1.cell 3
                    have y4 := hSw.2.1.cell 4
                    have x2 := hSw.2.2.cell 2
                    have x3 := hSw.2.2.cell 3
                    have x4 := hSw.2.2.cell 4
                    simp at z3 y2 y3 y4 x2 x3 x4
                    clear hSw
                    go_simp
                    try with_reducible rfl
                  try simp only [Act.put, List.setIfInBounds_toArray, List.set_cons_zero, List.set_cons_succ]
                  refine wpAnyT_takeL [] (i := 2) (v := ?_) rfl (by kernel_rfl) (by kernel_rfl) (by kernel_rfl) (by kernel_rfl) (fun _ _ _ h => h) (Or.inl ⟨by kernel_rfl, ?_⟩) (by with_reducible assumption) ?_
                  rotate_left
                  · intro w hSw
                    have z3 := hSw.1.cell 3
                    have y2 := hSw.2.1.cell 2
                    have y3 := hSw.2.1.cell 3
                    have y4 := hSw.2.1.cell 4
                    have x2 := hSw.2.2.cell 2
                    have x3 := hSw.2.2.cell 3
                    have x4 := hSw.2.2.cell 4
                    simp at z3 y2 y3 y4 x2 x3 x4
                    clear hSw
                    go_simp
                    try with_reducible rfl
                  try simp only [Act.put, List.setIfInBounds_toArray, List.set_cons_zero, List.set_cons_succ]
                  try simp only [hbn]
                  refine wpAnyT_takeL [] (i := 3) (v := ?_) rfl (by kernel_rfl) (by kernel_rfl) (by kernel_rfl) (by kernel_rfl) (fun _ _ _ h => h) (Or.inl ⟨by kernel_rfl, ?_⟩) (by with_reducible assumption) ?_
                  rotate_left
                  · intro w hSw
                    have z3 := hSw.1.cell 3
                    have y2 := hSw.2.1.cell 2
                    have y3 := hSw.2.1.cell 3
                    have y4 := hSw.2.1.cell 4
                    have x2 := hSw.2.2.cell 2
                    have x3 := hSw.2.2.cell 3
                    have x4 := hSw.2.2.cell 4
                    simp at z3 y2 y3 y4 x2 x3 x4
                    clear hSw
                    go_simp
                    try with_reducible rfl
                  try simp only [Act.put, List.setIfInBounds_toArray, List.set_cons_zero, List.set_cons_succ]
                  refine wpAnyT_takeL [] (i := 4) (v := undef) rfl (by kernel_rfl) (by kernel_rfl) (by kernel_rfl) (by kernel_rfl) (fun _ _ _ h => h) (Or.inr ⟨by kernel_rfl, rfl⟩) (by with_reducible assumption) ?_
                  try simp only [Act.put, List.setIfInBounds_toArray, List.set_cons_zero, List.set_cons_succ]
                  refine wpAnyT_takeL [] (i := 5) (v := undef) rfl (by kernel_rfl) (by kernel_rfl) (by kernel_rfl) (by kernel_rfl) (fun _ _ _ h => h) (Or.inr ⟨by kernel_rfl, rfl⟩) (by with_reducible assumption) ?_
                  try simp only [Act.put, List.setIfInBounds_toArray, List.set_cons_zero, List.set_cons_succ]
                  refine wpAnyT_takeL [] (i := 6) (v := undef) rfl (by kernel_rfl) (by kernel_rfl) (by kernel_rfl) (by kernel_rfl) (fun _ _ _ h => h) (Or.inr ⟨by kernel_rfl, rfl⟩) (by with_reducible assumption) ?_
                  try simp only [Act.put, List.setIfInBounds_toArray, List.set_cons_zero, List.set_cons_succ]
                  refine wpAnyT_takeL [] (i := 7) (v := undef) rfl (by kernel_rfl) (by kernel_rfl) (by kernel_rfl) (by kernel_rfl) (fun _ _ _ h => h) (Or.inr ⟨by kernel_rfl, rfl⟩) (by with_reducible assumption) ?_
                  try simp only [Act.put, List.setIfInBounds_toArray, List.set_cons_zero, List.set_cons_succ]
                  refine wpAnyT_takeL [] (i := 8) (v := undef) rfl (by kernel_rfl) (by kernel_rfl) (by kernel_rfl) (by kernel_rfl) (fun _ _ _ h => h) (Or.inr ⟨by kernel_rfl, rfl⟩) (by with_reducible assumption) ?_
                  try simp only [Act.put, List.setIfInBounds_toArray, List.set_cons_zero, List.set_cons_succ]
                  refine wpAnyT_takeL [] (i := 9) (v := undef) rfl (by kernel_rfl) (by kernel_rfl) (by kernel_rfl) (by kernel_rfl) (fun _ _ _ h => h) (Or.inr ⟨by kernel_rfl, rfl⟩) (by with_reducible assumption) ?_
                  try simp only [Act.put, List.setIfInBounds_toArray, List.set_cons_zero, List.set_cons_succ]
                  refine wpAnyT_takeL [] (i := 10) (v := undef) rfl (by kernel_rfl) (by kernel_rfl) (by kernel_rfl) (by kernel_rfl) (fun _ _ _ h => h) (Or.inr ⟨by kernel_rfl, rfl⟩) (by with_reducible assumption) ?_
                  try simp only [Act.put, List.setIfInBounds_toArray, List.set_cons_zero, List.set_cons_succ]
                  refine wpAnyT_takeL [] (i := 11) (v := undef) rfl (by kernel_rfl) (by kernel_rfl) (by kernel_rfl) (by kernel_rfl) (fun _ _ _ h => h) (Or.inr ⟨by kernel_rfl, rfl⟩) (by with_reducible assumption) ?_
                  try simp only [Act.put, List.setIfInBounds_toArray, List.set_cons_zero, List.set_cons_succ]
                  refine wpAnyT_takeL [] (i := 12) (v := undef) rfl (by kernel_rfl) (by kernel_rfl) (by kernel_rfl) (by kernel_rfl) (fun _ _ _ h => h) (Or.inr ⟨by kernel_rfl, rfl⟩) (by with_reducible assumption) ?_
                  try simp only [Act.put, List.setIfInBounds_toArray, List.set_cons_zero, List.set_cons_succ]
                  refine wpAnyT_takeL [] (i := 13) (v := undef) rfl (by kernel_rfl) (by kernel_rfl) (by kernel_rfl) (by kernel_rfl) (fun _ _ _ h => h) (Or.inr ⟨by kernel_rfl, rfl⟩) (by with_reducible assumption) ?_
                  try simp only [Act.put, List.setIfInBounds_toArray, List.set_cons_zero, List.set_cons_succ]
                  refine wpAnyT_takeL [] (i := 14) (v := undef) rfl (by kernel_rfl) (by kernel_rfl) (by kernel_rfl) (by kernel_rfl) (fun _ _ _ h => h) (Or.inr ⟨by kernel_rfl, rfl⟩) (by with_reducible assumption) ?_
                  try simp only [Act.put, List.setIfInBounds_toArray, List.set_cons_zero, List.set_cons_succ]
                  refine wpAnyT_takeL [] (i := 15) (v := ?_) rfl (by kernel_rfl) (by kernel_rfl) (by kernel_rfl) (by kernel_rfl) (fun _ _ _ h => h) (Or.inl ⟨by kernel_rfl, ?_⟩) (by with_reducible assumption) ?_
                  rotate_left
                  · intro w hSw
                    have z3 := hSw.1.cell 3
                    have y2 := hSw.2.1.cell 2
                    have y3 := hSw.2.1.cell 3
                    have y4 := hSw.2.1.cell 4
                    have x2 := hSw.2.2.cell 2
                    have x3 := hSw.2.2.cell 3
                    have x4 := hSw.2.2.cell 4
                    simp at z3 y2 y3 y4 x2 x3 x4
                    clear hSw
                    go_simp
                    try with_reducible rfl
                  try simp only [Act.put, List.setIfInBounds_toArray, List.set_cons_zero, List.set_cons_succ]
                  refine wpAnyT_takeL [] (i := 16) (v := ?_) rfl (by kernel_rfl) (by kernel_rfl) (by kernel_rfl) (by kernel_rfl) (fun _ _ _ h => h) (Or.inl ⟨by kernel_rfl, ?_⟩) (by with_reducible assumption) ?_
                  rotate_left
                  · intro w hSw
                    have z3 := hSw.1.cell 3
                    have y2 := hSw.2.1.cell 2
                    have y3 := hSw.2.1.cell 3
                    have y4 := hSw.2.1.cell 4
                    have x2 := hSw.2.2.cell 2
                    have x3 := hSw.2.2.cell 3
                    have x4 := hSw.2.2.cell 4
                    simp at z3 y2 y3 y4 x2 x3 x4
                    clear hSw
                    go_simp
                    try with_reducible rfl
                  try simp only [Act.put, List.setIfInBounds_toArray, List.set_cons_zero, List.set_cons_succ]
                  refine wpAnyT_takeL [] (i := 17) (v := undef) rfl (by kernel_rfl) (by kernel_rfl) (by kernel_rfl) (by kernel_rfl) (fun _ _ _ h => h) (Or.inr ⟨by kernel_rfl, rfl⟩) (by with_reducible assumption) ?_
                  try simp only [Act.put, List.setIfInBounds_toArray, List.set_cons_zero, List.set_cons_succ]
                  refine wpAnyT_takeL [] (i := 18) (v := undef) rfl (by kernel_rfl) (by kernel_rfl) (by kernel_rfl) (by kernel_rfl) (fun _ _ _ h => h) (Or.inr ⟨by kernel_rfl, rfl⟩) (by with_reducible assumption) ?_
                  try simp only [Act.put, List.setIfInBounds_toArray, List.set_cons_zero, List.set_cons_succ]
                  refine wpAnyT_takeL [] (i := 19) (v := undef) rfl (by kernel_rfl) (by kernel_rfl) (by kernel_rfl) (by kernel_rfl) (fun _ _ _ h => h) (Or.inr ⟨by kernel_rfl, rfl⟩) (by with_reducible assumption) ?_
                  try simp only [Act.put, List.setIfInBounds_toArray, List.set_cons_zero, List.set_cons_succ]
                  refine wpAnyT_takeL [] (i := 20) (v := undef) rfl (by kernel_rfl) (by kernel_rfl) (by kernel_rfl) (by kernel_rfl) (fun _ _ _ h => h) (Or.inr ⟨by kernel_rfl, rfl⟩) (by with_reducible assumption) ?_
                  try simp only [Act.put, List.setIfInBounds_toArray, List.set_cons_zero, List.set_cons_succ]
                  refine wpAnyT_takeL [] (i := 21) (v := undef) rfl (by kernel_rfl) (by kernel_rfl) (by kernel_rfl) (by kernel_rfl) (fun _ _ _ h => h) (Or.inr ⟨by kernel_rfl, rfl⟩) (by with_reducible assumption) ?_
                  try simp only [Act.put, List.setIfInBounds_toArray, List.set_cons_zero, List.set_cons_succ]
                  refine wpAnyT_takeL [] (i := 22) (v := undef) rfl (by kernel_rfl) (by kernel_rfl) (by kernel_rfl) (by kernel_rfl) (fun _ _ _ h => h) (Or.inr ⟨by kernel_rfl, rfl⟩) (by with_reducible assumption) ?_
                  try simp only [Act.put, List.setIfInBounds_toArray, List.set_cons_zero, List.set_cons_succ]
                  refine wpAnyT_takeL [] (i := 23) (v := undef) rfl (by kernel_rfl) (by kernel_rfl) (by kernel_rfl) (by kernel_rfl) (fun _ _ _ h => h) (Or.inr ⟨by kernel_rfl, rfl⟩) (by with_reducible assumption) ?_
                  try simp only [Act.put, List.setIfInBounds_toArray, List.set_cons_zero, List.set_cons_succ]
                  refine wpAnyT_takeL [] (i := 24) (v := undef) rfl (by kernel_rfl) (by kernel_rfl) (by kernel_rfl) (by kernel_rfl) (fun _ _ _ h => h) (Or.inr ⟨by kernel_rfl, rfl⟩) (by with_reducible assumption) ?_
                  try simp only [Act.put, List.setIfInBounds_toArray, List.set_cons_zero, List.set_cons_succ]
                  refine wpAnyT_takeL [] (i := 25) (v := undef) rfl (by kernel_rfl) (by kernel_rfl) (by kernel_rfl) (by kernel_rfl) (fun _ _ _ h => h) (Or.inr ⟨by kernel_rfl, rfl⟩) (by with_reducible assumption) ?_
                  try simp only [Act.put, List.setIfInBounds_toArray, List.set_cons_zero, List.set_cons_succ]
                  refine wpAnyT_takeL [] (i := 26) (v := undef) rfl (by kernel_rfl) (by kernel_rfl) (by kernel_rfl) (by kernel_rfl) (fun _ _ _ h => h) (Or.inr ⟨by kernel_rfl, rfl⟩) (by with_reducible assumption) ?_
                  try simp only [Act.put, List.setIfInBounds_toArray, List.set_cons_zero, List.set_cons_succ]
                  refine wpAnyT_takeL [] (i := 27) (v := undef) rfl (by kernel_rfl) (by kernel_rfl) (by kernel_rfl) (by kernel_rfl) (fun _ _ _ h => h) (Or.inr ⟨by kernel_rfl, rfl⟩) (by with_reducible assumption) ?_
                  try simp only [Act.put, List.setIfInBounds_toArray, List.set_cons_zero, List.set_cons_succ]
                  refine wpAnyT_takeL [] (i := 28) (v := undef) rfl (by kernel_rfl) (by kernel_rfl) (by kernel_rfl) (by kernel_rfl) (fun _ _ _ h => h) (Or.inr ⟨by kernel_rfl, rfl⟩) (by with_reducible assumption) ?_
                  try simp only [Act.put, List.setIfInBounds_toArray, List.set_cons_zero, List.set_cons_succ]
                  refine wpAnyT_takeL [] (i := 29) (v := undef) rfl (by kernel_rfl) (by kernel_rfl) (by kernel_rfl) (by kernel_rfl) (fun _ _ _ h => h) (Or.inr ⟨by kernel_rfl, rfl⟩) (by with_reducible assumption) ?_
                  try simp only [Act.put, List.setIfInBounds_toArray, List.set_cons_zero, List.set_cons_succ]
                  refine wpAnyT_takeL [] (i := 30) (v := undef) rfl (by kernel_rfl) (by kernel_rfl) (by kernel_rfl) (by kernel_rfl) (fun _ _ _ h => h) (Or.inr ⟨by kernel_rfl, rfl⟩) (by with_reducible assumption) ?_
                  try simp only [Act.put, List.setIfInBounds_toArray, List.set_cons_zero, List.set_cons_succ]
                  refine wpAnyT_takeL [] (i := 31) (v := undef) rfl (by kernel_rfl) (by kernel_rfl) (by kernel_rfl) (by kernel_rfl) (fun _ _ _ h => h) (Or.inr ⟨by kernel_rfl, rfl⟩) (by with_reducible assumption) ?_
                  try simp only [Act.put, List.setIfInBounds_toArray, List.set_cons_zero, List.set_cons_succ]
                  refine wpAnyT_takeL [] (i := 32) (v := undef) rfl (by kernel_rfl) (by kernel_rfl) (by kernel_rfl) (by kernel_rfl) (fun _ _ _ h => h) (Or.inr ⟨by kernel_rfl, rfl⟩) (by with_reducible assumption) ?_
                  try simp only [Act.put, List.setIfInBounds_toArray, List.set_cons_zero, List.set_cons_succ]
                  refine wpAnyT_takeL [] (i := 33) (v := undef) rfl (by kernel_rfl) (by kernel_rfl) (by kernel_rfl) (by kernel_rfl) (fun _ _ _ h => h) (Or.inr ⟨by kernel_rfl, rfl⟩) (by with_reducible assumption) ?_
                  try simp only [Act.put, List.setIfInBounds_toArray, List.set_cons_zero, List.set_cons_succ]
                  refine wpAnyT_takeL [] (i := 34) (v := ?_) rfl (by kernel_rfl) (by kernel_rfl) (by kernel_rfl) (by kernel_rfl) (fun _ _ _ h => h) (Or.inl ⟨by kernel_rfl, ?_⟩) (by with_reducible assumption) ?_
                  rotate_left
                  · intro w hSw
                    have z3 := hSw.1.cell 3
                    have y2 := hSw.2.1.cell 2
                    have y3 := hSw.2.1.cell 3
                    have y4 := hSw.2.1.cell 4
                    have x2 := hSw.2.2.cell 2
                    have x3 := hSw.2.2.cell 3
                    have x4 := hSw.2.2.cell 4
                    simp at z3 y2 y3 y4 x2 x3 x4
                    clear hSw
                    go_simp
                    try with_reducible rfl
                  try simp only [Act.put, List.setIfInBounds_toArray, List.set_cons_zero, List.set_cons_succ]
                  refine wpAnyT_done (by kernel_rfl) ?_ _
                  refine NoPanic.normal ?_
                  clear hHeld
                  have HI5 := Lib.hid (HI4.out.call (Below.refl _ _).drew)
                  have HD5 := Lib.hid HB4.out.2.1.drew
                  have HX2 := HX2.out
                  have HXF : Hid (exB ap (thB seed sh) (rkI seed) (plI seed c) q d = false) := HX2
                  go_wp2_with fail
                  go_roundw
                  case rel =>
                    exact ⟨n + 1, by omega, by go_num, rfl, fun x y a b => by
                      by_cases hx : x = n
                      · subst hx
                        have e := HDD.out
                        rw [b] at e
                        rw [Option.some.inj e]; exact HXF.out
                      · exact HE.out x y (by omega) b, HI5.out, HD5.out⟩
                  case measure => simp [intOf]; omega
                · have hbn : ((n : Int) != (k : Int)) = true := by rw [bne_iff_ne]; omega
                  have hdq : decide (d ≠ q) = true := decide_eq_true (fun h => hnk (HEQ.out.1 h))
                  have HDQ := Lib.hid hdq
                  clear hdq
                  by_cases hle : S ≤ sa
                  · have hdec : decide (S ≤ sa) = true := decide_eq_true hle
                    have HLE := Lib.hid hle
                    rcases Int.lt_trichotomy rd rq with h | h | h
                    · have hdr : decide (rd < rq) = true := decide_eq_true h
                      have hf : Hid (fb = true) := HBF.out.trans (decide_eq_true (.inl h))
                      refine wp_region_noPanic ?_
                      refine wp_region_heldT (fun w' => Blk w' w.heap.size #[.int .u32 seed, .int .i64 c, .float .f32 sh, .int .i64 ap] 93 ∧ Blk w' kd #[.int .i64 qi, .int .i64 qj, .int .u32 rq, .int .i64 px, .int .i64 py] 195 ∧ Blk w' kd2 #[.int .i64 di, .int .i64 dj, .int .u32 rd, .int .i64 dx, .int .i64 dy] 195) 35 (by kernel_rfl) ⟨HB4.out.1.drew, HB4.out.2.1.drew, HB4.out.2.2.drew⟩ (fun hHeld => ?_)
                      refine wpAnyT_takeL [] (i := 0) (v := ?_) rfl (by kernel_rfl) (by kernel_rfl) (by kernel_rfl) (by kernel_rfl) (fun _ _ _ h => h) (Or.inl ⟨by kernel_rfl, ?_⟩) (by with_reducible assumption) ?_
                      rotate_left
                      · intro w hSw
                        have z3 := hSw.1.cell 3
                        have y2 := hSw.2.1.cell 2
                        have y3 := hSw.2.1.cell 3
                        have y4 := hSw.2.1.cell 4
                        have x2 := hSw.2.2.cell 2
                        have x3 := hSw.2.2.cell 3
                        have x4 := hSw.2.2.cell 4
                        simp at z3 y2 y3 y4 x2 x3 x4
                        clear hSw
                        go_simp
                        try with_reducible rfl
                      try simp only [Act.put, List.setIfInBounds_toArray, List.set_cons_zero, List.set_cons_succ]
                      refine wpAnyT_takeL [] (i := 1) (v := ?_) rfl (by kernel_rfl) (by kernel_rfl) (by kernel_rfl) (by kernel_rfl) (fun _ _ _ h => h) (Or.inl ⟨by kernel_rfl, ?_⟩) (by with_reducible assumption) ?_
                      rotate_left
                      · intro w hSw
                        have z3 := hSw.1.cell 3
                        have y2 := hSw.2.1.cell 2
                        have y3 := hSw.2.1.cell 3
                        have y4 := hSw.2.1.cell 4
                        have x2 := hSw.2.2.cell 2
                        have x3 := hSw.2.2.cell 3
                        have x4 := hSw.2.2.cell 4
                        simp at z3 y2 y3 y4 x2 x3 x4
                        clear hSw
                        go_simp
                        try with_reducible rfl
                      try simp only [Act.put, List.setIfInBounds_toArray, List.set_cons_zero, List.set_cons_succ]
                      refine wpAnyT_takeL [] (i := 2) (v := ?_) rfl (by kernel_rfl) (by kernel_rfl) (by kernel_rfl) (by kernel_rfl) (fun _ _ _ h => h) (Or.inl ⟨by kernel_rfl, ?_⟩) (by with_reducible assumption) ?_
                      rotate_left
                      · intro w hSw
                        have z3 := hSw.1.cell 3
                        have y2 := hSw.2.1.cell 2
                        have y3 := hSw.2.1.cell 3
                        have y4 := hSw.2.1.cell 4
                        have x2 := hSw.2.2.cell 2
                        have x3 := hSw.2.2.cell 3
                        have x4 := hSw.2.2.cell 4
                        simp at z3 y2 y3 y4 x2 x3 x4
                        clear hSw
                        go_simp
                        try with_reducible rfl
                      try simp only [Act.put, List.setIfInBounds_toArray, List.set_cons_zero, List.set_cons_succ]
                      try simp only [hbn]
                      refine wpAnyT_takeL [] (i := 3) (v := ?_) rfl (by kernel_rfl) (by kernel_rfl) (by kernel_rfl) (by kernel_rfl) (fun _ _ _ h => h) (Or.inl ⟨by kernel_rfl, ?_⟩) (by with_reducible assumption) ?_
                      rotate_left
                      · intro w hSw
                        have z3 := hSw.1.cell 3
                        have y2 := hSw.2.1.cell 2
                        have y3 := hSw.2.1.cell 3
                        have y4 := hSw.2.1.cell 4
                        have x2 := hSw.2.2.cell 2
                        have x3 := hSw.2.2.cell 3
                        have x4 := hSw.2.2.cell 4
                        simp at z3 y2 y3 y4 x2 x3 x4
                        clear hSw
                        go_simp
                        try with_reducible rfl
                      try simp only [Act.put, List.setIfInBounds_toArray, List.set_cons_zero, List.set_cons_succ]
                      refine wpAnyT_takeL [] (i := 4) (v := ?_) rfl (by kernel_rfl) (by kernel_rfl) (by kernel_rfl) (by kernel_rfl) (fun _ _ _ h => h) (Or.inl ⟨by kernel_rfl, ?_⟩) (by with_reducible assumption) ?_
                      rotate_left
                      · intro w hSw
                        have z3 := hSw.1.cell 3
                        have y2 := hSw.2.1.cell 2
                        have y3 := hSw.2.1.cell 3
                        have y4 := hSw.2.1.cell 4
                        have x2 := hSw.2.2.cell 2
                        have x3 := hSw.2.2.cell 3
                        have x4 := hSw.2.2.cell 4
                        simp at z3 y2 y3 y4 x2 x3 x4
                        clear hSw
                        go_simp
                        try with_reducible rfl
                      try simp only [Act.put, List.setIfInBounds_toArray, List.set_cons_zero, List.set_cons_succ]
                      refine wpAnyT_takeL [] (i := 5) (v := ?_) rfl (by kernel_rfl) (by kernel_rfl) (by kernel_rfl) (by kernel_rfl) (fun _ _ _ h => h) (Or.inl ⟨by kernel_rfl, ?_⟩) (by with_reducible assumption) ?_
                      rotate_left
                      · intro w hSw
                        have z3 := hSw.1.cell 3
                        have y2 := hSw.2.1.cell 2
                        have y3 := hSw.2.1.cell 3
                        have y4 := hSw.2.1.cell 4
                        have x2 := hSw.2.2.cell 2
                        have x3 := hSw.2.2.cell 3
                        have x4 := hSw.2.2.cell 4
                        simp at z3 y2 y3 y4 x2 x3 x4
                        clear hSw
                        go_simp
                        try with_reducible rfl
                      try simp only [Act.put, List.setIfInBounds_toArray, List.set_cons_zero, List.set_cons_succ]
                      refine wpAnyT_takeL [] (i := 6) (v := ?_) rfl (by kernel_rfl) (by kernel_rfl) (by kernel_rfl) (by kernel_rfl) (fun _ _ _ h => h) (Or.inl ⟨by kernel_rfl, ?_⟩) (by with_reducible assumption) ?_
                      rotate_left
                      · intro w hSw
                        have z3 := hSw.1.cell 3
                        have y2 := hSw.2.1.cell 2
                        have y3 := hSw.2.1.cell 3
                        have y4 := hSw.2.1.cell 4
                        have x2 := hSw.2.2.cell 2
                        have x3 := hSw.2.2.cell 3
                        have x4 := hSw.2.2.cell 4
                        simp at z3 y2 y3 y4 x2 x3 x4
                        clear hSw
                        go_simp
                        try with_reducible rfl
                      try simp only [Act.put, List.setIfInBounds_toArray, List.set_cons_zero, List.set_cons_succ]
                      refine wpAnyT_takeL [] (i := 7) (v := ?_) rfl (by kernel_rfl) (by kernel_rfl) (by kernel_rfl) (by kernel_rfl) (fun _ _ _ h => h) (Or.inl ⟨by kernel_rfl, ?_⟩) (by with_reducible assumption) ?_
                      rotate_left
                      · intro w hSw
                        have z3 := hSw.1.cell 3
                        have y2 := hSw.2.1.cell 2
                        have y3 := hSw.2.1.cell 3
                        have y4 := hSw.2.1.cell 4
                        have x2 := hSw.2.2.cell 2
                        have x3 := hSw.2.2.cell 3
                        have x4 := hSw.2.2.cell 4
                        simp at z3 y2 y3 y4 x2 x3 x4
                        clear hSw
                        go_simp
                        try with_reducible rfl
                      try simp only [Act.put, List.setIfInBounds_toArray, List.set_cons_zero, List.set_cons_succ]
                      refine wpAnyT_takeL [] (i := 9) (v := ?_) rfl (by kernel_rfl) (by kernel_rfl) (by kernel_rfl) (by kernel_rfl) (fun _ _ _ h => h) (Or.inl ⟨by kernel_rfl, ?_⟩) (by with_reducible assumption) ?_
                      rotate_left
                      · intro w hSw
                        have z3 := hSw.1.cell 3
                        have y2 := hSw.2.1.cell 2
                        have y3 := hSw.2.1.cell 3
                        have y4 := hSw.2.1.cell 4
                        have x2 := hSw.2.2.cell 2
                        have x3 := hSw.2.2.cell 3
                        have x4 := hSw.2.2.cell 4
                        simp at z3 y2 y3 y4 x2 x3 x4
                        clear hSw
                        go_simp
                        try with_reducible rfl
                      try simp only [Act.put, List.setIfInBounds_toArray, List.set_cons_zero, List.set_cons_succ]
                      refine wpAnyT_takeL [] (i := 10) (v := ?_) rfl (by kernel_rfl) (by kernel_rfl) (by kernel_rfl) (by kernel_rfl) (fun _ _ _ h => h) (Or.inl ⟨by kernel_rfl, ?_⟩) (by with_reducible assumption) ?_
                      rotate_left
                      · intro w hSw
                        have z3 := hSw.1.cell 3
                        have y2 := hSw.2.1.cell 2
                        have y3 := hSw.2.1.cell 3
                        have y4 := hSw.2.1.cell 4
                        have x2 := hSw.2.2.cell 2
                        have x3 := hSw.2.2.cell 3
                        have x4 := hSw.2.2.cell 4
                        simp at z3 y2 y3 y4 x2 x3 x4
                        clear hSw
                        go_simp
                        try with_reducible rfl
                      try simp only [Act.put, List.setIfInBounds_toArray, List.set_cons_zero, List.set_cons_succ]
                      refine wpAnyT_takeL [] (i := 11) (v := ?_) rfl (by kernel_rfl) (by kernel_rfl) (by kernel_rfl) (by kernel_rfl) (fun _ _ _ h => h) (Or.inl ⟨by kernel_rfl, ?_⟩) (by with_reducible assumption) ?_
                      rotate_left
                      · intro w hSw
                        have z3 := hSw.1.cell 3
                        have y2 := hSw.2.1.cell 2
                        have y3 := hSw.2.1.cell 3
                        have y4 := hSw.2.1.cell 4
                        have x2 := hSw.2.2.cell 2
                        have x3 := hSw.2.2.cell 3
                        have x4 := hSw.2.2.cell 4
                        simp at z3 y2 y3 y4 x2 x3 x4
                        clear hSw
                        go_simp
                        try with_reducible rfl
                      try simp only [Act.put, List.setIfInBounds_toArray, List.set_cons_zero, List.set_cons_succ]
                      refine wpAnyT_takeL [] (i := 12) (v := ?_) rfl (by kernel_rfl) (by kernel_rfl) (by kernel_rfl) (by kernel_rfl) (fun _ _ _ h => h) (Or.inl ⟨by kernel_rfl, ?_⟩) (by with_reducible assumption) ?_
                      rotate_left
                      · intro w hSw
                        have z3 := hSw.1.cell 3
                        have y2 := hSw.2.1.cell 2
                        have y3 := hSw.2.1.cell 3
                        have y4 := hSw.2.1.cell 4
                        have x2 := hSw.2.2.cell 2
                        have x3 := hSw.2.2.cell 3
                        have x4 := hSw.2.2.cell 4
                        simp at z3 y2 y3 y4 x2 x3 x4
                        clear hSw
                        go_simp
                        try with_reducible rfl
                      try simp only [Act.put, List.setIfInBounds_toArray, List.set_cons_zero, List.set_cons_succ]
                      refine wpAnyT_takeL [] (i := 13) (v := ?_) rfl (by kernel_rfl) (by kernel_rfl) (by kernel_rfl) (by kernel_rfl) (fun _ _ _ h => h) (Or.inl ⟨by kernel_rfl, ?_⟩) (by with_reducible assumption) ?_
                      rotate_left
                      · intro w hSw
                        have z3 := hSw.1.cell 3
                        have y2 := hSw.2.1.cell 2
                        have y3 := hSw.2.1.cell 3
                        have y4 := hSw.2.1.cell 4
                        have x2 := hSw.2.2.cell 2
                        have x3 := hSw.2.2.cell 3
                        have x4 := hSw.2.2.cell 4
                        simp at z3 y2 y3 y4 x2 x3 x4
                        clear hSw
                        go_simp
                        try with_reducible rfl
                      try simp only [Act.put, List.setIfInBounds_toArray, List.set_cons_zero, List.set_cons_succ]
                      refine wpAnyT_ready (rs := [8]) (by kernel_rfl) (by simp) ?_
                      refine AllReadyT.cons rfl (fun K hK => ?_) AllReadyT.nil
                      go_simp
                      refine (KS.out _).mono ?_
                      rintro e w5 ⟨rfl, hb⟩
                      have HI5 := Lib.hid ((HI4.out.drew).call hb)
                      have hS5 := And.intro (hHeld.1.below hb hHeld.1.lt) (And.intro (hHeld.2.1.below hb hHeld.2.1.lt) (hHeld.2.2.below hb hHeld.2.2.lt))
                      have HD5 := Lib.hid hS5.2.1
                      clear hb
                      go_wp2_with fail
                      refine hK.out _ _ (fun _ => hS5) (fun hS_ => ?_)
                      have hHeld := hS_ (by omega)
                      clear hS_ hK K
                      try simp only [Act.put, List.setIfInBounds_toArray, List.set_cons_zero, List.set_cons_succ]
                      refine wpAnyT_takeL [] (i := 14) (v := ?_) rfl (by kernel_rfl) (by kernel_rfl) (by kernel_rfl) (by kernel_rfl) (fun _ _ _ h => h) (Or.inl ⟨by kernel_rfl, ?_⟩) (by with_reducible assumption) ?_
                      rotate_left
                      · intro w hSw
                        have z3 := hSw.1.cell 3
                        have y2 := hSw.2.1.cell 2
                        have y3 := hSw.2.1.cell 3
                        have y4 := hSw.2.1.cell 4
                        have x2 := hSw.2.2.cell 2
                        have x3 := hSw.2.2.cell 3
                        have x4 := hSw.2.2.cell 4
                        simp at z3 y2 y3 y4 x2 x3 x4
                        clear hSw
                        go_simp
                        try with_reducible rfl
                      try simp only [Act.put, List.setIfInBounds_toArray, List.set_cons_zero, List.set_cons_succ]
                      try simp only [hwa, hwb, hdec]
                      refine wpAnyT_takeL [] (i := 15) (v := ?_) rfl (by kernel_rfl) (by kernel_rfl) (by kernel_rfl) (by kernel_rfl) (fun _ _ _ h => h) (Or.inl ⟨by kernel_rfl, ?_⟩) (by with_reducible assumption) ?_
                      rotate_left
                      · intro w hSw
                        have z3 := hSw.1.cell 3
                        have y2 := hSw.2.1.cell 2
                        have y3 := hSw.2.1.cell 3
                        have y4 := hSw.2.1.cell 4
                        have x2 := hSw.2.2.cell 2
                        have x3 := hSw.2.2.cell 3
                        have x4 := hSw.2.2.cell 4
                        simp at z3 y2 y3 y4 x2 x3 x4
                        clear hSw
                        go_simp
                        try with_reducible rfl
                      try simp only [Act.put, List.setIfInBounds_toArray, List.set_cons_zero, List.set_cons_succ]
                      refine wpAnyT_takeL [] (i := 16) (v := ?_) rfl (by kernel_rfl) (by kernel_rfl) (by kernel_rfl) (by kernel_rfl) (fun _ _ _ h => h) (Or.inl ⟨by kernel_rfl, ?_⟩) (by with_reducible assumption) ?_
                      rotate_left
                      · intro w hSw
                        have z3 := hSw.1.cell 3
                        have y2 := hSw.2.1.cell 2
                        have y3 := hSw.2.1.cell 3
                        have y4 := hSw.2.1.cell 4
                        have x2 := hSw.2.2.cell 2
                        have x3 := hSw.2.2.cell 3
                        have x4 := hSw.2.2.cell 4
                        simp at z3 y2 y3 y4 x2 x3 x4
                        clear hSw
                        go_simp
                        try with_reducible rfl
                      try simp only [Act.put, List.setIfInBounds_toArray, List.set_cons_zero, List.set_cons_succ]
                      refine wpAnyT_takeL [] (i := 17) (v := ?_) rfl (by kernel_rfl) (by kernel_rfl) (by kernel_rfl) (by kernel_rfl) (fun _ _ _ h => h) (Or.inl ⟨by kernel_rfl, ?_⟩) (by with_reducible assumption) ?_
                      rotate_left
                      · intro w hSw
                        have z3 := hSw.1.cell 3
                        have y2 := hSw.2.1.cell 2
                        have y3 := hSw.2.1.cell 3
                        have y4 := hSw.2.1.cell 4
                        have x2 := hSw.2.2.cell 2
                        have x3 := hSw.2.2.cell 3
                        have x4 := hSw.2.2.cell 4
                        simp at z3 y2 y3 y4 x2 x3 x4
                        clear hSw
                        go_simp
                        try with_reducible rfl
                      try simp only [Act.put, List.setIfInBounds_toArray, List.set_cons_zero, List.set_cons_succ]
                      refine wpAnyT_takeL [] (i := 18) (v := ?_) rfl (by kernel_rfl) (by kernel_rfl) (by kernel_rfl) (by kernel_rfl) (fun _ _ _ h => h) (Or.inl ⟨by kernel_rfl, ?_⟩) (by with_reducible assumption) ?_
                      rotate_left
                      · intro w hSw
                        have z3 := hSw.1.cell 3
                        have y2 := hSw.2.1.cell 2
                        have y3 := hSw.2.1.cell 3
                        have y4 := hSw.2.1.cell 4
                        have x2 := hSw.2.2.cell 2
                        have x3 := hSw.2.2.cell 3
                        have x4 := hSw.2.2.cell 4
                        simp at z3 y2 y3 y4 x2 x3 x4
                        clear hSw
                        go_simp
                        try with_reducible rfl
                      try simp only [Act.put, List.setIfInBounds_toArray, List.set_cons_zero, List.set_cons_succ]
                      refine wpAnyT_takeL [] (i := 19) (v := ?_) rfl (by kernel_rfl) (by kernel_rfl) (by kernel_rfl) (by kernel_rfl) (fun _ _ _ h => h) (Or.inl ⟨by kernel_rfl, ?_⟩) (by with_reducible assumption) ?_
                      rotate_left
                      · intro w hSw
                        have z3 := hSw.1.cell 3
                        have y2 := hSw.2.1.cell 2
                        have y3 := hSw.2.1.cell 3
                        have y4 := hSw.2.1.cell 4
                        have x2 := hSw.2.2.cell 2
                        have x3 := hSw.2.2.cell 3
                        have x4 := hSw.2.2.cell 4
                        simp at z3 y2 y3 y4 x2 x3 x4
                        clear hSw
                        go_simp
                        try with_reducible rfl
                      try simp only [Act.put, List.setIfInBounds_toArray, List.set_cons_zero, List.set_cons_succ]
                      refine wpAnyT_takeL [] (i := 20) (v := ?_) rfl (by kernel_rfl) (by kernel_rfl) (by kernel_rfl) (by kernel_rfl) (fun _ _ _ h => h) (Or.inl ⟨by kernel_rfl, ?_⟩) (by with_reducible assumption) ?_
                      rotate_left
                      · intro w hSw
                        have z3 := hSw.1.cell 3
                        have y2 := hSw.2.1.cell 2
                        have y3 := hSw.2.1.cell 3
                        have y4 := hSw.2.1.cell 4
                        have x2 := hSw.2.2.cell 2
                        have x3 := hSw.2.2.cell 3
                        have x4 := hSw.2.2.cell 4
                        simp at z3 y2 y3 y4 x2 x3 x4
                        clear hSw
                        go_simp
                        try with_reducible rfl
                      try simp only [Act.put, List.setIfInBounds_toArray, List.set_cons_zero, List.set_cons_succ]
                      refine wpAnyT_takeL [] (i := 21) (v := ?_) rfl (by kernel_rfl) (by kernel_rfl) (by kernel_rfl) (by kernel_rfl) (fun _ _ _ h => h) (Or.inl ⟨by kernel_rfl, ?_⟩) (by with_reducible assumption) ?_
                      rotate_left
                      · intro w hSw
                        have z3 := hSw.1.cell 3
                        have y2 := hSw.2.1.cell 2
                        have y3 := hSw.2.1.cell 3
                        have y4 := hSw.2.1.cell 4
                        have x2 := hSw.2.2.cell 2
                        have x3 := hSw.2.2.cell 3
                        have x4 := hSw.2.2.cell 4
                        simp at z3 y2 y3 y4 x2 x3 x4
                        clear hSw
                        go_simp
                        try with_reducible rfl
                      try simp only [Act.put, List.setIfInBounds_toArray, List.set_cons_zero, List.set_cons_succ]
                      try simp only [hdr]
                      refine wpAnyT_takeL [] (i := 22) (v := ?_) rfl (by kernel_rfl) (by kernel_rfl) (by kernel_rfl) (by kernel_rfl) (fun _ _ _ h => h) (Or.inl ⟨by kernel_rfl, ?_⟩) (by with_reducible assumption) ?_
                      rotate_left
                      · intro w hSw
                        have z3 := hSw.1.cell 3
                        have y2 := hSw.2.1.cell 2
                        have y3 := hSw.2.1.cell 3
                        have y4 := hSw.2.1.cell 4
                        have x2 := hSw.2.2.cell 2
                        have x3 := hSw.2.2.cell 3
                        have x4 := hSw.2.2.cell 4
                        simp at z3 y2 y3 y4 x2 x3 x4
                        clear hSw
                        go_simp
                        try with_reducible rfl
                      try simp only [Act.put, List.setIfInBounds_toArray, List.set_cons_zero, List.set_cons_succ]
                      refine wpAnyT_takeL [] (i := 23) (v := undef) rfl (by kernel_rfl) (by kernel_rfl) (by kernel_rfl) (by kernel_rfl) (fun _ _ _ h => h) (Or.inr ⟨by kernel_rfl, rfl⟩) (by with_reducible assumption) ?_
                      try simp only [Act.put, List.setIfInBounds_toArray, List.set_cons_zero, List.set_cons_succ]
                      refine wpAnyT_takeL [] (i := 24) (v := undef) rfl (by kernel_rfl) (by kernel_rfl) (by kernel_rfl) (by kernel_rfl) (fun _ _ _ h => h) (Or.inr ⟨by kernel_rfl, rfl⟩) (by with_reducible assumption) ?_
                      try simp only [Act.put, List.setIfInBounds_toArray, List.set_cons_zero, List.set_cons_succ]
                      refine wpAnyT_takeL [] (i := 25) (v := undef) rfl (by kernel_rfl) (by kernel_rfl) (by kernel_rfl) (by kernel_rfl) (fun _ _ _ h => h) (Or.inr ⟨by kernel_rfl, rfl⟩) (by with_reducible assumption) ?_
                      try simp only [Act.put, List.setIfInBounds_toArray, List.set_cons_zero, List.set_cons_succ]
                      refine wpAnyT_takeL [] (i := 26) (v := undef) rfl (by kernel_rfl) (by kernel_rfl) (by kernel_rfl) (by kernel_rfl) (fun _ _ _ h => h) (Or.inr ⟨by kernel_rfl, rfl⟩) (by with_reducible assumption) ?_
                      try simp only [Act.put, List.setIfInBounds_toArray, List.set_cons_zero, List.set_cons_succ]
                      refine wpAnyT_takeL [] (i := 27) (v := undef) rfl (by kernel_rfl) (by kernel_rfl) (by kernel_rfl) (by kernel_rfl) (fun _ _ _ h => h) (Or.inr ⟨by kernel_rfl, rfl⟩) (by with_reducible assumption) ?_
                      try simp only [Act.put, List.setIfInBounds_toArray, List.set_cons_zero, List.set_cons_succ]
                      refine wpAnyT_takeL [] (i := 28) (v := undef) rfl (by kernel_rfl) (by kernel_rfl) (by kernel_rfl) (by kernel_rfl) (fun _ _ _ h => h) (Or.inr ⟨by kernel_rfl, rfl⟩) (by with_reducible assumption) ?_
                      try simp only [Act.put, List.setIfInBounds_toArray, List.set_cons_zero, List.set_cons_succ]
                      refine wpAnyT_takeL [] (i := 29) (v := undef) rfl (by kernel_rfl) (by kernel_rfl) (by kernel_rfl) (by kernel_rfl) (fun _ _ _ h => h) (Or.inr ⟨by kernel_rfl, rfl⟩) (by with_reducible assumption) ?_
                      try simp only [Act.put, List.setIfInBounds_toArray, List.set_cons_zero, List.set_cons_succ]
                      refine wpAnyT_takeL [] (i := 30) (v := undef) rfl (by kernel_rfl) (by kernel_rfl) (by kernel_rfl) (by kernel_rfl) (fun _ _ _ h => h) (Or.inr ⟨by kernel_rfl, rfl⟩) (by with_reducible assumption) ?_
                      try simp only [Act.put, List.setIfInBounds_toArray, List.set_cons_zero, List.set_cons_succ]
                      refine wpAnyT_takeL [] (i := 31) (v := undef) rfl (by kernel_rfl) (by kernel_rfl) (by kernel_rfl) (by kernel_rfl) (fun _ _ _ h => h) (Or.inr ⟨by kernel_rfl, rfl⟩) (by with_reducible assumption) ?_
                      try simp only [Act.put, List.setIfInBounds_toArray, List.set_cons_zero, List.set_cons_succ]
                      refine wpAnyT_takeL [] (i := 32) (v := undef) rfl (by kernel_rfl) (by kernel_rfl) (by kernel_rfl) (by kernel_rfl) (fun _ _ _ h => h) (Or.inr ⟨by kernel_rfl, rfl⟩) (by with_reducible assumption) ?_
                      try simp only [Act.put, List.setIfInBounds_toArray, List.set_cons_zero, List.set_cons_succ]
                      refine wpAnyT_takeL [] (i := 33) (v := ?_) rfl (by kernel_rfl) (by kernel_rfl) (by kernel_rfl) (by kernel_rfl) (fun _ _ _ h => h) (Or.inl ⟨by kernel_rfl, ?_⟩) (by with_reducible assumption) ?_
                      rotate_left
                      · intro w hSw
                        have z3 := hSw.1.cell 3
                        have y2 := hSw.2.1.cell 2
                        have y3 := hSw.2.1.cell 3
                        have y4 := hSw.2.1.cell 4
                        have x2 := hSw.2.2.cell 2
                        have x3 := hSw.2.2.cell 3
                        have x4 := hSw.2.2.cell 4
                        simp at z3 y2 y3 y4 x2 x3 x4
                        clear hSw
                        go_simp
                        try with_reducible rfl
                      try simp only [Act.put, List.setIfInBounds_toArray, List.set_cons_zero, List.set_cons_succ]
                      refine wpAnyT_takeL [] (i := 34) (v := ?_) rfl (by kernel_rfl) (by kernel_rfl) (by kernel_rfl) (by kernel_rfl) (fun _ _ _ h => h) (Or.inl ⟨by kernel_rfl, ?_⟩) (by with_reducible assumption) ?_
                      rotate_left
                      · intro w hSw
                        have z3 := hSw.1.cell 3
                        have y2 := hSw.2.1.cell 2
                        have y3 := hSw.2.1.cell 3
                        have y4 := hSw.2.1.cell 4
                        have x2 := hSw.2.2.cell 2
                        have x3 := hSw.2.2.cell 3
                        have x4 := hSw.2.2.cell 4
                        simp at z3 y2 y3 y4 x2 x3 x4
                        clear hSw
                        go_simp
                        try with_reducible rfl
                      try simp only [Act.put, List.setIfInBounds_toArray, List.set_cons_zero, List.set_cons_succ]
                      refine wpAnyT_done (by kernel_rfl) ?_ _
                      refine NoPanic.normal ?_
                      clear hHeld
                      have HX2 : exB ap (thB seed sh) (rkI seed) (plI seed c) q d = true := by rw [HX.out, HDQ.out, hf.out, decide_eq_true HLE.out]; rfl
                      have HA2 : ab = true := by rw [HAB.out]; exact any_some HDD.out HX2
                      have HN2 := HN.out
                      rw [HA2] at HN2
                      have HN3 := Lib.hid HN2
                      clear HN2 HA2
                      go_wp2_with fail
                      go_roundw
                      case rel => exact ⟨k + 1, _, by omega, by go_num, rfl, by rw [HN3.out]; simpa using HI5.out⟩
                      case measure => simp [intOf]; omega
                    · have hb1 : ¬ rd < rq := by omega
                      have hdr : decide (rd < rq) = false := decide_eq_false hb1
                      have hb2 : (rd == rq) = true := by simpa using h
                      by_cases hlt5 : n < k
                      · have hlt6 : (n : Int) < (k : Int) := by omega
                        have hdn : decide ((n : Int) < (k : Int)) = true := decide_eq_true hlt6
                        have hdm : decide (n < k) = true := decide_eq_true hlt5
                        have hf : Hid (fb = true) := HBF.out.trans (decide_eq_true (.inr ⟨h, hlt5⟩))
                        refine wp_region_noPanic ?_
                        refine wp_region_heldT (fun w' => Blk w' w.heap.size #[.int .u32 seed, .int .i64 c, .float .f32 sh, .int .i64 ap] 93 ∧ Blk w' kd #[.int .i64 qi, .int .i64 qj, .int .u32 rq, .int .i64 px, .int .i64 py] 195 ∧ Blk w' kd2 #[.int .i64 di, .int .i64 dj, .int .u32 rd, .int .i64 dx, .int .i64 dy] 195) 35 (by kernel_rfl) ⟨HB4.out.1.drew, HB4.out.2.1.drew, HB4.out.2.2.drew⟩ (fun hHeld => ?_)
                        refine wpAnyT_takeL [] (i := 0) (v := ?_) rfl (by kernel_rfl) (by kernel_rfl) (by kernel_rfl) (by kernel_rfl) (fun _ _ _ h => h) (Or.inl ⟨by kernel_rfl, ?_⟩) (by with_reducible assumption) ?_
                        rotate_left
                        · intro w hSw
                          have z3 := hSw.1.cell 3
                          have y2 := hSw.2.1.cell 2
                          have y3 := hSw.2.1.cell 3
                          have y4 := hSw.2.1.cell 4
                          have x2 := hSw.2.2.cell 2
                          have x3 := hSw.2.2.cell 3
                          have x4 := hSw.2.2.cell 4
                          simp at z3 y2 y3 y4 x2 x3 x4
                          clear hSw
                          go_simp
                          try with_reducible rfl
                        try simp only [Act.put, List.setIfInBounds_toArray, List.set_cons_zero, List.set_cons_succ]
                        refine wpAnyT_takeL [] (i := 1) (v := ?_) rfl (by kernel_rfl) (by kernel_rfl) (by kernel_rfl) (by kernel_rfl) (fun _ _ _ h => h) (Or.inl ⟨by kernel_rfl, ?_⟩) (by with_reducible assumption) ?_
                        rotate_left
                        · intro w hSw
                          have z3 := hSw.1.cell 3
                          have y2 := hSw.2.1.cell 2
                          have y3 := hSw.2.1.cell 3
                          have y4 := hSw.2.1.cell 4
                          have x2 := hSw.2.2.cell 2
                          have x3 := hSw.2.2.cell 3
                          have x4 := hSw.2.2.cell 4
                          simp at z3 y2 y3 y4 x2 x3 x4
                          clear hSw
                          go_simp
                          try with_reducible rfl
                        try simp only [Act.put, List.setIfInBounds_toArray, List.set_cons_zero, List.set_cons_succ]
                        refine wpAnyT_takeL [] (i := 2) (v := ?_) rfl (by kernel_rfl) (by kernel_rfl) (by kernel_rfl) (by kernel_rfl) (fun _ _ _ h => h) (Or.inl ⟨by kernel_rfl, ?_⟩) (by with_reducible assumption) ?_
                        rotate_left
                        · intro w hSw
                          have z3 := hSw.1.cell 3
                          have y2 := hSw.2.1.cell 2
                          have y3 := hSw.2.1.cell 3
                          have y4 := hSw.2.1.cell 4
                          have x2 := hSw.2.2.cell 2
                          have x3 := hSw.2.2.cell 3
                          have x4 := hSw.2.2.cell 4
                          simp at z3 y2 y3 y4 x2 x3 x4
                          clear hSw
                          go_simp
                          try with_reducible rfl
                        try simp only [Act.put, List.setIfInBounds_toArray, List.set_cons_zero, List.set_cons_succ]
                        try simp only [hbn]
                        refine wpAnyT_takeL [] (i := 3) (v := ?_) rfl (by kernel_rfl) (by kernel_rfl) (by kernel_rfl) (by kernel_rfl) (fun _ _ _ h => h) (Or.inl ⟨by kernel_rfl, ?_⟩) (by with_reducible assumption) ?_
                        rotate_left
                        · intro w hSw
                          have z3 := hSw.1.cell 3
                          have y2 := hSw.2.1.cell 2
                          have y3 := hSw.2.1.cell 3
                          have y4 := hSw.2.1.cell 4
                          have x2 := hSw.2.2.cell 2
                          have x3 := hSw.2.2.cell 3
                          have x4 := hSw.2.2.cell 4
                          simp at z3 y2 y3 y4 x2 x3 x4
                          clear hSw
                          go_simp
                          try with_reducible rfl
                        try simp only [Act.put, List.setIfInBounds_toArray, List.set_cons_zero, List.set_cons_succ]
                        refine wpAnyT_takeL [] (i := 4) (v := ?_) rfl (by kernel_rfl) (by kernel_rfl) (by kernel_rfl) (by kernel_rfl) (fun _ _ _ h => h) (Or.inl ⟨by kernel_rfl, ?_⟩) (by with_reducible assumption) ?_
                        rotate_left
                        · intro w hSw
                          have z3 := hSw.1.cell 3
                          have y2 := hSw.2.1.cell 2
                          have y3 := hSw.2.1.cell 3
                          have y4 := hSw.2.1.cell 4
                          have x2 := hSw.2.2.cell 2
                          have x3 := hSw.2.2.cell 3
                          have x4 := hSw.2.2.cell 4
                          simp at z3 y2 y3 y4 x2 x3 x4
                          clear hSw
                          go_simp
                          try with_reducible rfl
                        try simp only [Act.put, List.setIfInBounds_toArray, List.set_cons_zero, List.set_cons_succ]
                        refine wpAnyT_takeL [] (i := 5) (v := ?_) rfl (by kernel_rfl) (by kernel_rfl) (by kernel_rfl) (by kernel_rfl) (fun _ _ _ h => h) (Or.inl ⟨by kernel_rfl, ?_⟩) (by with_reducible assumption) ?_
                        rotate_left
                        · intro w hSw
                          have z3 := hSw.1.cell 3
                          have y2 := hSw.2.1.cell 2
                          have y3 := hSw.2.1.cell 3
                          have y4 := hSw.2.1.cell 4
                          have x2 := hSw.2.2.cell 2
                          have x3 := hSw.2.2.cell 3
                          have x4 := hSw.2.2.cell 4
                          simp at z3 y2 y3 y4 x2 x3 x4
                          clear hSw
                          go_simp
                          try with_reducible rfl
                        try simp only [Act.put, List.setIfInBounds_toArray, List.set_cons_zero, List.set_cons_succ]
                        refine wpAnyT_takeL [] (i := 6) (v := ?_) rfl (by kernel_rfl) (by kernel_rfl) (by kernel_rfl) (by kernel_rfl) (fun _ _ _ h => h) (Or.inl ⟨by kernel_rfl, ?_⟩) (by with_reducible assumption) ?_
                        rotate_left
                        · intro w hSw
                          have z3 := hSw.1.cell 3
                          have y2 := hSw.2.1.cell 2
                          have y3 := hSw.2.1.cell 3
                          have y4 := hSw.2.1.cell 4
                          have x2 := hSw.2.2.cell 2
                          have x3 := hSw.2.2.cell 3
                          have x4 := hSw.2.2.cell 4
                          simp at z3 y2 y3 y4 x2 x3 x4
                          clear hSw
                          go_simp
                          try with_reducible rfl
                        try simp only [Act.put, List.setIfInBounds_toArray, List.set_cons_zero, List.set_cons_succ]
                        refine wpAnyT_takeL [] (i := 7) (v := ?_) rfl (by kernel_rfl) (by kernel_rfl) (by kernel_rfl) (by kernel_rfl) (fun _ _ _ h => h) (Or.inl ⟨by kernel_rfl, ?_⟩) (by with_reducible assumption) ?_
                        rotate_left
                        · intro w hSw
                          have z3 := hSw.1.cell 3
                          have y2 := hSw.2.1.cell 2
                          have y3 := hSw.2.1.cell 3
                          have y4 := hSw.2.1.cell 4
                          have x2 := hSw.2.2.cell 2
                          have x3 := hSw.2.2.cell 3
                          have x4 := hSw.2.2.cell 4
                          simp at z3 y2 y3 y4 x2 x3 x4
                          clear hSw
                          go_simp
                          try with_reducible rfl
                        try simp only [Act.put, List.setIfInBounds_toArray, List.set_cons_zero, List.set_cons_succ]
                        refine wpAnyT_takeL [] (i := 9) (v := ?_) rfl (by kernel_rfl) (by kernel_rfl) (by kernel_rfl) (by kernel_rfl) (fun _ _ _ h => h) (Or.inl ⟨by kernel_rfl, ?_⟩) (by with_reducible assumption) ?_
                        rotate_left
                        · intro w hSw
                          have z3 := hSw.1.cell 3
                          have y2 := hSw.2.1.cell 2
                          have y3 := hSw.2.1.cell 3
                          have y4 := hSw.2.1.cell 4
                          have x2 := hSw.2.2.cell 2
                          have x3 := hSw.2.2.cell 3
                          have x4 := hSw.2.2.cell 4
                          simp at z3 y2 y3 y4 x2 x3 x4
                          clear hSw
                          go_simp
                          try with_reducible rfl
                        try simp only [Act.put, List.setIfInBounds_toArray, List.set_cons_zero, List.set_cons_succ]
                        refine wpAnyT_takeL [] (i := 10) (v := ?_) rfl (by kernel_rfl) (by kernel_rfl) (by kernel_rfl) (by kernel_rfl) (fun _ _ _ h => h) (Or.inl ⟨by kernel_rfl, ?_⟩) (by with_reducible assumption) ?_
                        rotate_left
                        · intro w hSw
                          have z3 := hSw.1.cell 3
                          have y2 := hSw.2.1.cell 2
                          have y3 := hSw.2.1.cell 3
                          have y4 := hSw.2.1.cell 4
                          have x2 := hSw.2.2.cell 2
                          have x3 := hSw.2.2.cell 3
                          have x4 := hSw.2.2.cell 4
                          simp at z3 y2 y3 y4 x2 x3 x4
                          clear hSw
                          go_simp
                          try with_reducible rfl
                        try simp only [Act.put, List.setIfInBounds_toArray, List.set_cons_zero, List.set_cons_succ]
                        refine wpAnyT_takeL [] (i := 11) (v := ?_) rfl (by kernel_rfl) (by kernel_rfl) (by kernel_rfl) (by kernel_rfl) (fun _ _ _ h => h) (Or.inl ⟨by kernel_rfl, ?_⟩) (by with_reducible assumption) ?_
                        rotate_left
                        · intro w hSw
                          have z3 := hSw.1.cell 3
                          have y2 := hSw.2.1.cell 2
                          have y3 := hSw.2.1.cell 3
                          have y4 := hSw.2.1.cell 4
                          have x2 := hSw.2.2.cell 2
                          have x3 := hSw.2.2.cell 3
                          have x4 := hSw.2.2.cell 4
                          simp at z3 y2 y3 y4 x2 x3 x4
                          clear hSw
                          go_simp
                          try with_reducible rfl
                        try simp only [Act.put, List.setIfInBounds_toArray, List.set_cons_zero, List.set_cons_succ]
                        refine wpAnyT_takeL [] (i := 12) (v := ?_) rfl (by kernel_rfl) (by kernel_rfl) (by kernel_rfl) (by kernel_rfl) (fun _ _ _ h => h) (Or.inl ⟨by kernel_rfl, ?_⟩) (by with_reducible assumption) ?_
                        rotate_left
                        · intro w hSw
                          have z3 := hSw.1.cell 3
                          have y2 := hSw.2.1.cell 2
                          have y3 := hSw.2.1.cell 3
                          have y4 := hSw.2.1.cell 4
                          have x2 := hSw.2.2.cell 2
                          have x3 := hSw.2.2.cell 3
                          have x4 := hSw.2.2.cell 4
                          simp at z3 y2 y3 y4 x2 x3 x4
                          clear hSw
                          go_simp
                          try with_reducible rfl
                        try simp only [Act.put, List.setIfInBounds_toArray, List.set_cons_zero, List.set_cons_succ]
                        refine wpAnyT_takeL [] (i := 13) (v := ?_) rfl (by kernel_rfl) (by kernel_rfl) (by kernel_rfl) (by kernel_rfl) (fun _ _ _ h => h) (Or.inl ⟨by kernel_rfl, ?_⟩) (by with_reducible assumption) ?_
                        rotate_left
                        · intro w hSw
                          have z3 := hSw.1.cell 3
                          have y2 := hSw.2.1.cell 2
                          have y3 := hSw.2.1.cell 3
                          have y4 := hSw.2.1.cell 4
                          have x2 := hSw.2.2.cell 2
                          have x3 := hSw.2.2.cell 3
                          have x4 := hSw.2.2.cell 4
                          simp at z3 y2 y3 y4 x2 x3 x4
                          clear hSw
                          go_simp
                          try with_reducible rfl
                        try simp only [Act.put, List.setIfInBounds_toArray, List.set_cons_zero, List.set_cons_succ]
                        refine wpAnyT_ready (rs := [8]) (by kernel_rfl) (by simp) ?_
                        refine AllReadyT.cons rfl (fun K hK => ?_) AllReadyT.nil
                        go_simp
                        refine (KS.out _).mono ?_
                        rintro e w5 ⟨rfl, hb⟩
                        have HI5 := Lib.hid ((HI4.out.drew).call hb)
                        have hS5 := And.intro (hHeld.1.below hb hHeld.1.lt) (And.intro (hHeld.2.1.below hb hHeld.2.1.lt) (hHeld.2.2.below hb hHeld.2.2.lt))
                        have HD5 := Lib.hid hS5.2.1
                        clear hb
                        go_wp2_with fail
                        refine hK.out _ _ (fun _ => hS5) (fun hS_ => ?_)
                        have hHeld := hS_ (by omega)
                        clear hS_ hK K
                        try simp only [Act.put, List.setIfInBounds_toArray, List.set_cons_zero, List.set_cons_succ]
                        refine wpAnyT_takeL [] (i := 14) (v := ?_) rfl (by kernel_rfl) (by kernel_rfl) (by kernel_rfl) (by kernel_rfl) (fun _ _ _ h => h) (Or.inl ⟨by kernel_rfl, ?_⟩) (by with_reducible assumption) ?_
                        rotate_left
                        · intro w hSw
                          have z3 := hSw.1.cell 3
                          have y2 := hSw.2.1.cell 2
                          have y3 := hSw.2.1.cell 3
                          have y4 := hSw.2.1.cell 4
                          have x2 := hSw.2.2.cell 2
                          have x3 := hSw.2.2.cell 3
                          have x4 := hSw.2.2.cell 4
                          simp at z3 y2 y3 y4 x2 x3 x4
                          clear hSw
                          go_simp
                          try with_reducible rfl
                        try simp only [Act.put, List.setIfInBounds_toArray, List.set_cons_zero, List.set_cons_succ]
                        try simp only [hwa, hwb, hdec]
                        refine wpAnyT_takeL [] (i := 15) (v := ?_) rfl (by kernel_rfl) (by kernel_rfl) (by kernel_rfl) (by kernel_rfl) (fun _ _ _ h => h) (Or.inl ⟨by kernel_rfl, ?_⟩) (by with_reducible assumption) ?_
                        rotate_left
                        · intro w hSw
                          have z3 := hSw.1.cell 3
                          have y2 := hSw.2.1.cell 2
                          have y3 := hSw.2.1.cell 3
                          have y4 := hSw.2.1.cell 4
                          have x2 := hSw.2.2.cell 2
                          have x3 := hSw.2.2.cell 3
                          have x4 := hSw.2.2.cell 4
                          simp at z3 y2 y3 y4 x2 x3 x4
                          clear hSw
                          go_simp
                          try with_reducible rfl
                        try simp only [Act.put, List.setIfInBounds_toArray, List.set_cons_zero, List.set_cons_succ]
                        refine wpAnyT_takeL [] (i := 16) (v := ?_) rfl (by kernel_rfl) (by kernel_rfl) (by kernel_rfl) (by kernel_rfl) (fun _ _ _ h => h) (Or.inl ⟨by kernel_rfl, ?_⟩) (by with_reducible assumption) ?_
                        rotate_left
                        · intro w hSw
                          have z3 := hSw.1.cell 3
                          have y2 := hSw.2.1.cell 2
                          have y3 := hSw.2.1.cell 3
                          have y4 := hSw.2.1.cell 4
                          have x2 := hSw.2.2.cell 2
                          have x3 := hSw.2.2.cell 3
                          have x4 := hSw.2.2.cell 4
                          simp at z3 y2 y3 y4 x2 x3 x4
                          clear hSw
                          go_simp
                          try with_reducible rfl
                        try simp only [Act.put, List.setIfInBounds_toArray, List.set_cons_zero, List.set_cons_succ]
                        refine wpAnyT_takeL [] (i := 17) (v := ?_) rfl (by kernel_rfl) (by kernel_rfl) (by kernel_rfl) (by kernel_rfl) (fun _ _ _ h => h) (Or.inl ⟨by kernel_rfl, ?_⟩) (by with_reducible assumption) ?_
                        rotate_left
                        · intro w hSw
                          have z3 := hSw.1.cell 3
                          have y2 := hSw.2.1.cell 2
                          have y3 := hSw.2.1.cell 3
                          have y4 := hSw.2.1.cell 4
                          have x2 := hSw.2.2.cell 2
                          have x3 := hSw.2.2.cell 3
                          have x4 := hSw.2.2.cell 4
                          simp at z3 y2 y3 y4 x2 x3 x4
                          clear hSw
                          go_simp
                          try with_reducible rfl
                        try simp only [Act.put, List.setIfInBounds_toArray, List.set_cons_zero, List.set_cons_succ]
                        refine wpAnyT_takeL [] (i := 18) (v := ?_) rfl (by kernel_rfl) (by kernel_rfl) (by kernel_rfl) (by kernel_rfl) (fun _ _ _ h => h) (Or.inl ⟨by kernel_rfl, ?_⟩) (by with_reducible assumption) ?_
                        rotate_left
                        · intro w hSw
                          have z3 := hSw.1.cell 3
                          have y2 := hSw.2.1.cell 2
                          have y3 := hSw.2.1.cell 3
                          have y4 := hSw.2.1.cell 4
                          have x2 := hSw.2.2.cell 2
                          have x3 := hSw.2.2.cell 3
                          have x4 := hSw.2.2.cell 4
                          simp at z3 y2 y3 y4 x2 x3 x4
                          clear hSw
                          go_simp
                          try with_reducible rfl
                        try simp only [Act.put, List.setIfInBounds_toArray, List.set_cons_zero, List.set_cons_succ]
                        refine wpAnyT_takeL [] (i := 19) (v := ?_) rfl (by kernel_rfl) (by kernel_rfl) (by kernel_rfl) (by kernel_rfl) (fun _ _ _ h => h) (Or.inl ⟨by kernel_rfl, ?_⟩) (by with_reducible assumption) ?_
                        rotate_left
                        · intro w hSw
                          have z3 := hSw.1.cell 3
                          have y2 := hSw.2.1.cell 2
                          have y3 := hSw.2.1.cell 3
                          have y4 := hSw.2.1.cell 4
                          have x2 := hSw.2.2.cell 2
                          have x3 := hSw.2.2.cell 3
                          have x4 := hSw.2.2.cell 4
                          simp at z3 y2 y3 y4 x2 x3 x4
                          clear hSw
                          go_simp
                          try with_reducible rfl
                        try simp only [Act.put, List.setIfInBounds_toArray, List.set_cons_zero, List.set_cons_succ]
                        refine wpAnyT_takeL [] (i := 20) (v := ?_) rfl (by kernel_rfl) (by kernel_rfl) (by kernel_rfl) (by kernel_rfl) (fun _ _ _ h => h) (Or.inl ⟨by kernel_rfl, ?_⟩) (by with_reducible assumption) ?_
                        rotate_left
                        · intro w hSw
                          have z3 := hSw.1.cell 3
                          have y2 := hSw.2.1.cell 2
                          have y3 := hSw.2.1.cell 3
                          have y4 := hSw.2.1.cell 4
                          have x2 := hSw.2.2.cell 2
                          have x3 := hSw.2.2.cell 3
                          have x4 := hSw.2.2.cell 4
                          simp at z3 y2 y3 y4 x2 x3 x4
                          clear hSw
                          go_simp
                          try with_reducible rfl
                        try simp only [Act.put, List.setIfInBounds_toArray, List.set_cons_zero, List.set_cons_succ]
                        refine wpAnyT_takeL [] (i := 21) (v := ?_) rfl (by kernel_rfl) (by kernel_rfl) (by kernel_rfl) (by kernel_rfl) (fun _ _ _ h => h) (Or.inl ⟨by kernel_rfl, ?_⟩) (by with_reducible assumption) ?_
                        rotate_left
                        · intro w hSw
                          have z3 := hSw.1.cell 3
                          have y2 := hSw.2.1.cell 2
                          have y3 := hSw.2.1.cell 3
                          have y4 := hSw.2.1.cell 4
                          have x2 := hSw.2.2.cell 2
                          have x3 := hSw.2.2.cell 3
                          have x4 := hSw.2.2.cell 4
                          simp at z3 y2 y3 y4 x2 x3 x4
                          clear hSw
                          go_simp
                          try with_reducible rfl
                        try simp only [Act.put, List.setIfInBounds_toArray, List.set_cons_zero, List.set_cons_succ]
                        try simp only [hdr]
                        refine wpAnyT_takeL [] (i := 22) (v := ?_) rfl (by kernel_rfl) (by kernel_rfl) (by kernel_rfl) (by kernel_rfl) (fun _ _ _ h => h) (Or.inl ⟨by kernel_rfl, ?_⟩) (by with_reducible assumption) ?_
                        rotate_left
                        · intro w hSw
                          have z3 := hSw.1.cell 3
                          have y2 := hSw.2.1.cell 2
                          have y3 := hSw.2.1.cell 3
                          have y4 := hSw.2.1.cell 4
                          have x2 := hSw.2.2.cell 2
                          have x3 := hSw.2.2.cell 3
                          have x4 := hSw.2.2.cell 4
                          simp at z3 y2 y3 y4 x2 x3 x4
                          clear hSw
                          go_simp
                          try with_reducible rfl
                        try simp only [Act.put, List.setIfInBounds_toArray, List.set_cons_zero, List.set_cons_succ]
                        refine wpAnyT_takeL [] (i := 23) (v := ?_) rfl (by kernel_rfl) (by kernel_rfl) (by kernel_rfl) (by kernel_rfl) (fun _ _ _ h => h) (Or.inl ⟨by kernel_rfl, ?_⟩) (by with_reducible assumption) ?_
                        rotate_left
                        · intro w hSw
                          have z3 := hSw.1.cell 3
                          have y2 := hSw.2.1.cell 2
                          have y3 := hSw.2.1.cell 3
                          have y4 := hSw.2.1.cell 4
                          have x2 := hSw.2.2.cell 2
                          have x3 := hSw.2.2.cell 3
                          have x4 := hSw.2.2.cell 4
                          simp at z3 y2 y3 y4 x2 x3 x4
                          clear hSw
                          go_simp
                          try with_reducible rfl
                        try simp only [Act.put, List.setIfInBounds_toArray, List.set_cons_zero, List.set_cons_succ]
                        refine wpAnyT_takeL [] (i := 24) (v := ?_) rfl (by kernel_rfl) (by kernel_rfl) (by kernel_rfl) (by kernel_rfl) (fun _ _ _ h => h) (Or.inl ⟨by kernel_rfl, ?_⟩) (by with_reducible assumption) ?_
                        rotate_left
                        · intro w hSw
                          have z3 := hSw.1.cell 3
                          have y2 := hSw.2.1.cell 2
                          have y3 := hSw.2.1.cell 3
                          have y4 := hSw.2.1.cell 4
                          have x2 := hSw.2.2.cell 2
                          have x3 := hSw.2.2.cell 3
                          have x4 := hSw.2.2.cell 4
                          simp at z3 y2 y3 y4 x2 x3 x4
                          clear hSw
                          go_simp
                          try with_reducible rfl
                        try simp only [Act.put, List.setIfInBounds_toArray, List.set_cons_zero, List.set_cons_succ]
                        refine wpAnyT_takeL [] (i := 25) (v := ?_) rfl (by kernel_rfl) (by kernel_rfl) (by kernel_rfl) (by kernel_rfl) (fun _ _ _ h => h) (Or.inl ⟨by kernel_rfl, ?_⟩) (by with_reducible assumption) ?_
                        rotate_left
                        · intro w hSw
                          have z3 := hSw.1.cell 3
                          have y2 := hSw.2.1.cell 2
                          have y3 := hSw.2.1.cell 3
                          have y4 := hSw.2.1.cell 4
                          have x2 := hSw.2.2.cell 2
                          have x3 := hSw.2.2.cell 3
                          have x4 := hSw.2.2.cell 4
                          simp at z3 y2 y3 y4 x2 x3 x4
                          clear hSw
                          go_simp
                          try with_reducible rfl
                        try simp only [Act.put, List.setIfInBounds_toArray, List.set_cons_zero, List.set_cons_succ]
                        refine wpAnyT_takeL [] (i := 26) (v := ?_) rfl (by kernel_rfl) (by kernel_rfl) (by kernel_rfl) (by kernel_rfl) (fun _ _ _ h => h) (Or.inl ⟨by kernel_rfl, ?_⟩) (by with_reducible assumption) ?_
                        rotate_left
                        · intro w hSw
                          have z3 := hSw.1.cell 3
                          have y2 := hSw.2.1.cell 2
                          have y3 := hSw.2.1.cell 3
                          have y4 := hSw.2.1.cell 4
                          have x2 := hSw.2.2.cell 2
                          have x3 := hSw.2.2.cell 3
                          have x4 := hSw.2.2.cell 4
                          simp at z3 y2 y3 y4 x2 x3 x4
                          clear hSw
                          go_simp
                          try with_reducible rfl
                        try simp only [Act.put, List.setIfInBounds_toArray, List.set_cons_zero, List.set_cons_succ]
                        refine wpAnyT_takeL [] (i := 27) (v := ?_) rfl (by kernel_rfl) (by kernel_rfl) (by kernel_rfl) (by kernel_rfl) (fun _ _ _ h => h) (Or.inl ⟨by kernel_rfl, ?_⟩) (by with_reducible assumption) ?_
                        rotate_left
                        · intro w hSw
                          have z3 := hSw.1.cell 3
                          have y2 := hSw.2.1.cell 2
                          have y3 := hSw.2.1.cell 3
                          have y4 := hSw.2.1.cell 4
                          have x2 := hSw.2.2.cell 2
                          have x3 := hSw.2.2.cell 3
                          have x4 := hSw.2.2.cell 4
                          simp at z3 y2 y3 y4 x2 x3 x4
                          clear hSw
                          go_simp
                          try with_reducible rfl
                        try simp only [Act.put, List.setIfInBounds_toArray, List.set_cons_zero, List.set_cons_succ]
                        try simp only [hb2]
                        refine wpAnyT_takeL [] (i := 28) (v := ?_) rfl (by kernel_rfl) (by kernel_rfl) (by kernel_rfl) (by kernel_rfl) (fun _ _ _ h => h) (Or.inl ⟨by kernel_rfl, ?_⟩) (by with_reducible assumption) ?_
                        rotate_left
                        · intro w hSw
                          have z3 := hSw.1.cell 3
                          have y2 := hSw.2.1.cell 2
                          have y3 := hSw.2.1.cell 3
                          have y4 := hSw.2.1.cell 4
                          have x2 := hSw.2.2.cell 2
                          have x3 := hSw.2.2.cell 3
                          have x4 := hSw.2.2.cell 4
                          simp at z3 y2 y3 y4 x2 x3 x4
                          clear hSw
                          go_simp
                          try with_reducible rfl
                        try simp only [Act.put, List.setIfInBounds_toArray, List.set_cons_zero, List.set_cons_succ]
                        refine wpAnyT_takeL [] (i := 29) (v := ?_) rfl (by kernel_rfl) (by kernel_rfl) (by kernel_rfl) (by kernel_rfl) (fun _ _ _ h => h) (Or.inl ⟨by kernel_rfl, ?_⟩) (by with_reducible assumption) ?_
                        rotate_left
                        · intro w hSw
                          have z3 := hSw.1.cell 3
                          have y2 := hSw.2.1.cell 2
                          have y3 := hSw.2.1.cell 3
                          have y4 := hSw.2.1.cell 4
                          have x2 := hSw.2.2.cell 2
                          have x3 := hSw.2.2.cell 3
                          have x4 := hSw.2.2.cell 4
                          simp at z3 y2 y3 y4 x2 x3 x4
                          clear hSw
                          go_simp
                          try with_reducible rfl
                        try simp only [Act.put, List.setIfInBounds_toArray, List.set_cons_zero, List.set_cons_succ]
                        refine wpAnyT_takeL [] (i := 30) (v := ?_) rfl (by kernel_rfl) (by kernel_rfl) (by kernel_rfl) (by kernel_rfl) (fun _ _ _ h => h) (Or.inl ⟨by kernel_rfl, ?_⟩) (by with_reducible assumption) ?_
                        rotate_left
                        · intro w hSw
                          have z3 := hSw.1.cell 3
                          have y2 := hSw.2.1.cell 2
                          have y3 := hSw.2.1.cell 3
                          have y4 := hSw.2.1.cell 4
                          have x2 := hSw.2.2.cell 2
                          have x3 := hSw.2.2.cell 3
                          have x4 := hSw.2.2.cell 4
                          simp at z3 y2 y3 y4 x2 x3 x4
                          clear hSw
                          go_simp
                          try with_reducible rfl
                        try simp only [Act.put, List.setIfInBounds_toArray, List.set_cons_zero, List.set_cons_succ]
                        refine wpAnyT_takeL [] (i := 31) (v := ?_) rfl (by kernel_rfl) (by kernel_rfl) (by kernel_rfl) (by kernel_rfl) (fun _ _ _ h => h) (Or.inl ⟨by kernel_rfl, ?_⟩) (by with_reducible assumption) ?_
                        rotate_left
                        · intro w hSw
                          have z3 := hSw.1.cell 3
                          have y2 := hSw.2.1.cell 2
                          have y3 := hSw.2.1.cell 3
                          have y4 := hSw.2.1.cell 4
                          have x2 := hSw.2.2.cell 2
                          have x3 := hSw.2.2.cell 3
                          have x4 := hSw.2.2.cell 4
                          simp at z3 y2 y3 y4 x2 x3 x4
                          clear hSw
                          go_simp
                          try with_reducible rfl
                        try simp only [Act.put, List.setIfInBounds_toArray, List.set_cons_zero, List.set_cons_succ]
                        try simp only [hdn, hdm]
                        refine wpAnyT_takeL [] (i := 32) (v := ?_) rfl (by kernel_rfl) (by kernel_rfl) (by kernel_rfl) (by kernel_rfl) (fun _ _ _ h => h) (Or.inl ⟨by kernel_rfl, ?_⟩) (by with_reducible assumption) ?_
                        rotate_left
                        · intro w hSw
                          have z3 := hSw.1.cell 3
                          have y2 := hSw.2.1.cell 2
                          have y3 := hSw.2.1.cell 3
                          have y4 := hSw.2.1.cell 4
                          have x2 := hSw.2.2.cell 2
                          have x3 := hSw.2.2.cell 3
                          have x4 := hSw.2.2.cell 4
                          simp at z3 y2 y3 y4 x2 x3 x4
                          clear hSw
                          go_simp
                          try with_reducible rfl
                        try simp only [Act.put, List.setIfInBounds_toArray, List.set_cons_zero, List.set_cons_succ]
                        refine wpAnyT_takeL [] (i := 33) (v := ?_) rfl (by kernel_rfl) (by kernel_rfl) (by kernel_rfl) (by kernel_rfl) (fun _ _ _ h => h) (Or.inl ⟨by kernel_rfl, ?_⟩) (by with_reducible assumption) ?_
                        rotate_left
                        · intro w hSw
                          have z3 := hSw.1.cell 3
                          have y2 := hSw.2.1.cell 2
                          have y3 := hSw.2.1.cell 3
                          have y4 := hSw.2.1.cell 4
                          have x2 := hSw.2.2.cell 2
                          have x3 := hSw.2.2.cell 3
                          have x4 := hSw.2.2.cell 4
                          simp at z3 y2 y3 y4 x2 x3 x4
                          clear hSw
                          go_simp
                          try with_reducible rfl
                        try simp only [Act.put, List.setIfInBounds_toArray, List.set_cons_zero, List.set_cons_succ]
                        refine wpAnyT_takeL [] (i := 34) (v := ?_) rfl (by kernel_rfl) (by kernel_rfl) (by kernel_rfl) (by kernel_rfl) (fun _ _ _ h => h) (Or.inl ⟨by kernel_rfl, ?_⟩) (by with_reducible assumption) ?_
                        rotate_left
                        · intro w hSw
                          have z3 := hSw.1.cell 3
                          have y2 := hSw.2.1.cell 2
                          have y3 := hSw.2.1.cell 3
                          have y4 := hSw.2.1.cell 4
                          have x2 := hSw.2.2.cell 2
                          have x3 := hSw.2.2.cell 3
                          have x4 := hSw.2.2.cell 4
                          simp at z3 y2 y3 y4 x2 x3 x4
                          clear hSw
                          go_simp
                          try with_reducible rfl
                        try simp only [Act.put, List.setIfInBounds_toArray, List.set_cons_zero, List.set_cons_succ]
                        refine wpAnyT_done (by kernel_rfl) ?_ _
                        refine NoPanic.normal ?_
                        clear hHeld
                        have HX2 : exB ap (thB seed sh) (rkI seed) (plI seed c) q d = true := by rw [HX.out, HDQ.out, hf.out, decide_eq_true HLE.out]; rfl
                        have HA2 : ab = true := by rw [HAB.out]; exact any_some HDD.out HX2
                        have HN2 := HN.out
                        rw [HA2] at HN2
                        have HN3 := Lib.hid HN2
                        clear HN2 HA2
                        go_wp2_with fail
                        go_roundw
                        case rel => exact ⟨k + 1, _, by omega, by go_num, rfl, by rw [HN3.out]; simpa using HI5.out⟩
                        case measure => simp [intOf]; omega
                      · have hlt6 : ¬ (n : Int) < (k : Int) := by omega
                        have hdn : decide ((n : Int) < (k : Int)) = false := decide_eq_false hlt6
                        have hdm : decide (n < k) = false := decide_eq_false (by omega)
                        have hf : Hid (fb = false) := HBF.out.trans (decide_eq_false (by omega))
                        refine wp_region_noPanic ?_
                        refine wp_region_heldT (fun w' => Blk w' w.heap.size #[.int .u32 seed, .int .i64 c, .float .f32 sh, .int .i64 ap] 93 ∧ Blk w' kd #[.int .i64 qi, .int .i64 qj, .int .u32 rq, .int .i64 px, .int .i64 py] 195 ∧ Blk w' kd2 #[.int .i64 di, .int .i64 dj, .int .u32 rd, .int .i64 dx, .int .i64 dy] 195) 35 (by kernel_rfl) ⟨HB4.out.1.drew, HB4.out.2.1.drew, HB4.out.2.2.drew⟩ (fun hHeld => ?_)
                        refine wpAnyT_takeL [] (i := 0) (v := ?_) rfl (by kernel_rfl) (by kernel_rfl) (by kernel_rfl) (by kernel_rfl) (fun _ _ _ h => h) (Or.inl ⟨by kernel_rfl, ?_⟩) (by with_reducible assumption) ?_
                        rotate_left
                        · intro w hSw
                          have z3 := hSw.1.cell 3
                          have y2 := hSw.2.1.cell 2
                          have y3 := hSw.2.1.cell 3
                          have y4 := hSw.2.1.cell 4
                          have x2 := hSw.2.2.cell 2
                          have x3 := hSw.2.2.cell 3
                          have x4 := hSw.2.2.cell 4
                          simp at z3 y2 y3 y4 x2 x3 x4
                          clear hSw
                          go_simp
                          try with_reducible rfl
                        try simp only [Act.put, List.setIfInBounds_toArray, List.set_cons_zero, List.set_cons_succ]
                        refine wpAnyT_takeL [] (i := 1) (v := ?_) rfl (by kernel_rfl) (by kernel_rfl) (by kernel_rfl) (by kernel_rfl) (fun _ _ _ h => h) (Or.inl ⟨by kernel_rfl, ?_⟩) (by with_reducible assumption) ?_
                        rotate_left
                        · intro w hSw
                          have z3 := hSw.1.cell 3
                          have y2 := hSw.2.1.cell 2
                          have y3 := hSw.2.1.cell 3
                          have y4 := hSw.2.1.cell 4
                          have x2 := hSw.2.2.cell 2
                          have x3 := hSw.2.2.cell 3
                          have x4 := hSw.2.2.cell 4
                          simp at z3 y2 y3 y4 x2 x3 x4
                          clear hSw
                          go_simp
                          try with_reducible rfl
                        try simp only [Act.put, List.setIfInBounds_toArray, List.set_cons_zero, List.set_cons_succ]
                        refine wpAnyT_takeL [] (i := 2) (v := ?_) rfl (by kernel_rfl) (by kernel_rfl) (by kernel_rfl) (by kernel_rfl) (fun _ _ _ h => h) (Or.inl ⟨by kernel_rfl, ?_⟩) (by with_reducible assumption) ?_
                        rotate_left
                        · intro w hSw
                          have z3 := hSw.1.cell 3
                          have y2 := hSw.2.1.cell 2
                          have y3 := hSw.2.1.cell 3
                          have y4 := hSw.2.1.cell 4
                          have x2 := hSw.2.2.cell 2
                          have x3 := hSw.2.2.cell 3
                          have x4 := hSw.2.2.cell 4
                          simp at z3 y2 y3 y4 x2 x3 x4
                          clear hSw
                          go_simp
                          try with_reducible rfl
                        try simp only [Act.put, List.setIfInBounds_toArray, List.set_cons_zero, List.set_cons_succ]
                        try simp only [hbn]
                        refine wpAnyT_takeL [] (i := 3) (v := ?_) rfl (by kernel_rfl) (by kernel_rfl) (by kernel_rfl) (by kernel_rfl) (fun _ _ _ h => h) (Or.inl ⟨by kernel_rfl, ?_⟩) (by with_reducible assumption) ?_
                        rotate_left
                        · intro w hSw
                          have z3 := hSw.1.cell 3
                          have y2 := hSw.2.1.cell 2
                          have y3 := hSw.2.1.cell 3
                          have y4 := hSw.2.1.cell 4
                          have x2 := hSw.2.2.cell 2
                          have x3 := hSw.2.2.cell 3
                          have x4 := hSw.2.2.cell 4
                          simp at z3 y2 y3 y4 x2 x3 x4
                          clear hSw
                          go_simp
                          try with_reducible rfl
                        try simp only [Act.put, List.setIfInBounds_toArray, List.set_cons_zero, List.set_cons_succ]
                        refine wpAnyT_takeL [] (i := 4) (v := ?_) rfl (by kernel_rfl) (by kernel_rfl) (by kernel_rfl) (by kernel_rfl) (fun _ _ _ h => h) (Or.inl ⟨by kernel_rfl, ?_⟩) (by with_reducible assumption) ?_
                        rotate_left
                        · intro w hSw
                          have z3 := hSw.1.cell 3
                          have y2 := hSw.2.1.cell 2
                          have y3 := hSw.2.1.cell 3
                          have y4 := hSw.2.1.cell 4
                          have x2 := hSw.2.2.cell 2
                          have x3 := hSw.2.2.cell 3
                          have x4 := hSw.2.2.cell 4
                          simp at z3 y2 y3 y4 x2 x3 x4
                          clear hSw
                          go_simp
                          try with_reducible rfl
                        try simp only [Act.put, List.setIfInBounds_toArray, List.set_cons_zero, List.set_cons_succ]
                        refine wpAnyT_takeL [] (i := 5) (v := ?_) rfl (by kernel_rfl) (by kernel_rfl) (by kernel_rfl) (by kernel_rfl) (fun _ _ _ h => h) (Or.inl ⟨by kernel_rfl, ?_⟩) (by with_reducible assumption) ?_
                        rotate_left
                        · intro w hSw
                          have z3 := hSw.1.cell 3
                          have y2 := hSw.2.1.cell 2
                          have y3 := hSw.2.1.cell 3
                          have y4 := hSw.2.1.cell 4
                          have x2 := hSw.2.2.cell 2
                          have x3 := hSw.2.2.cell 3
                          have x4 := hSw.2.2.cell 4
                          simp at z3 y2 y3 y4 x2 x3 x4
                          clear hSw
                          go_simp
                          try with_reducible rfl
                        try simp only [Act.put, List.setIfInBounds_toArray, List.set_cons_zero, List.set_cons_succ]
                        refine wpAnyT_takeL [] (i := 6) (v := ?_) rfl (by kernel_rfl) (by kernel_rfl) (by kernel_rfl) (by kernel_rfl) (fun _ _ _ h => h) (Or.inl ⟨by kernel_rfl, ?_⟩) (by with_reducible assumption) ?_
                        rotate_left
                        · intro w hSw
                          have z3 := hSw.1.cell 3
                          have y2 := hSw.2.1.cell 2
                          have y3 := hSw.2.1.cell 3
                          have y4 := hSw.2.1.cell 4
                          have x2 := hSw.2.2.cell 2
                          have x3 := hSw.2.2.cell 3
                          have x4 := hSw.2.2.cell 4
                          simp at z3 y2 y3 y4 x2 x3 x4
                          clear hSw
                          go_simp
                          try with_reducible rfl
                        try simp only [Act.put, List.setIfInBounds_toArray, List.set_cons_zero, List.set_cons_succ]
                        refine wpAnyT_takeL [] (i := 7) (v := ?_) rfl (by kernel_rfl) (by kernel_rfl) (by kernel_rfl) (by kernel_rfl) (fun _ _ _ h => h) (Or.inl ⟨by kernel_rfl, ?_⟩) (by with_reducible assumption) ?_
                        rotate_left
                        · intro w hSw
                          have z3 := hSw.1.cell 3
                          have y2 := hSw.2.1.cell 2
                          have y3 := hSw.2.1.cell 3
                          have y4 := hSw.2.1.cell 4
                          have x2 := hSw.2.2.cell 2
                          have x3 := hSw.2.2.cell 3
                          have x4 := hSw.2.2.cell 4
                          simp at z3 y2 y3 y4 x2 x3 x4
                          clear hSw
                          go_simp
                          try with_reducible rfl
                        try simp only [Act.put, List.setIfInBounds_toArray, List.set_cons_zero, List.set_cons_succ]
                        refine wpAnyT_takeL [] (i := 9) (v := ?_) rfl (by kernel_rfl) (by kernel_rfl) (by kernel_rfl) (by kernel_rfl) (fun _ _ _ h => h) (Or.inl ⟨by kernel_rfl, ?_⟩) (by with_reducible assumption) ?_
                        rotate_left
                        · intro w hSw
                          have z3 := hSw.1.cell 3
                          have y2 := hSw.2.1.cell 2
                          have y3 := hSw.2.1.cell 3
                          have y4 := hSw.2.1.cell 4
                          have x2 := hSw.2.2.cell 2
                          have x3 := hSw.2.2.cell 3
                          have x4 := hSw.2.2.cell 4
                          simp at z3 y2 y3 y4 x2 x3 x4
                          clear hSw
                          go_simp
                          try with_reducible rfl
                        try simp only [Act.put, List.setIfInBounds_toArray, List.set_cons_zero, List.set_cons_succ]
                        refine wpAnyT_takeL [] (i := 10) (v := ?_) rfl (by kernel_rfl) (by kernel_rfl) (by kernel_rfl) (by kernel_rfl) (fun _ _ _ h => h) (Or.inl ⟨by kernel_rfl, ?_⟩) (by with_reducible assumption) ?_
                        rotate_left
                        · intro w hSw
                          have z3 := hSw.1.cell 3
                          have y2 := hSw.2.1.cell 2
                          have y3 := hSw.2.1.cell 3
                          have y4 := hSw.2.1.cell 4
                          have x2 := hSw.2.2.cell 2
                          have x3 := hSw.2.2.cell 3
                          have x4 := hSw.2.2.cell 4
                          simp at z3 y2 y3 y4 x2 x3 x4
                          clear hSw
                          go_simp
                          try with_reducible rfl
                        try simp only [Act.put, List.setIfInBounds_toArray, List.set_cons_zero, List.set_cons_succ]
                        refine wpAnyT_takeL [] (i := 11) (v := ?_) rfl (by kernel_rfl) (by kernel_rfl) (by kernel_rfl) (by kernel_rfl) (fun _ _ _ h => h) (Or.inl ⟨by kernel_rfl, ?_⟩) (by with_reducible assumption) ?_
                        rotate_left
                        · intro w hSw
                          have z3 := hSw.1.cell 3
                          have y2 := hSw.2.1.cell 2
                          have y3 := hSw.2.1.cell 3
                          have y4 := hSw.2.1.cell 4
                          have x2 := hSw.2.2.cell 2
                          have x3 := hSw.2.2.cell 3
                          have x4 := hSw.2.2.cell 4
                          simp at z3 y2 y3 y4 x2 x3 x4
                          clear hSw
                          go_simp
                          try with_reducible rfl
                        try simp only [Act.put, List.setIfInBounds_toArray, List.set_cons_zero, List.set_cons_succ]
                        refine wpAnyT_takeL [] (i := 12) (v := ?_) rfl (by kernel_rfl) (by kernel_rfl) (by kernel_rfl) (by kernel_rfl) (fun _ _ _ h => h) (Or.inl ⟨by kernel_rfl, ?_⟩) (by with_reducible assumption) ?_
                        rotate_left
                        · intro w hSw
                          have z3 := hSw.1.cell 3
                          have y2 := hSw.2.1.cell 2
                          have y3 := hSw.2.1.cell 3
                          have y4 := hSw.2.1.cell 4
                          have x2 := hSw.2.2.cell 2
                          have x3 := hSw.2.2.cell 3
                          have x4 := hSw.2.2.cell 4
                          simp at z3 y2 y3 y4 x2 x3 x4
                          clear hSw
                          go_simp
                          try with_reducible rfl
                        try simp only [Act.put, List.setIfInBounds_toArray, List.set_cons_zero, List.set_cons_succ]
                        refine wpAnyT_takeL [] (i := 13) (v := ?_) rfl (by kernel_rfl) (by kernel_rfl) (by kernel_rfl) (by kernel_rfl) (fun _ _ _ h => h) (Or.inl ⟨by kernel_rfl, ?_⟩) (by with_reducible assumption) ?_
                        rotate_left
                        · intro w hSw
                          have z3 := hSw.1.cell 3
                          have y2 := hSw.2.1.cell 2
                          have y3 := hSw.2.1.cell 3
                          have y4 := hSw.2.1.cell 4
                          have x2 := hSw.2.2.cell 2
                          have x3 := hSw.2.2.cell 3
                          have x4 := hSw.2.2.cell 4
                          simp at z3 y2 y3 y4 x2 x3 x4
                          clear hSw
                          go_simp
                          try with_reducible rfl
                        try simp only [Act.put, List.setIfInBounds_toArray, List.set_cons_zero, List.set_cons_succ]
                        refine wpAnyT_ready (rs := [8]) (by kernel_rfl) (by simp) ?_
                        refine AllReadyT.cons rfl (fun K hK => ?_) AllReadyT.nil
                        go_simp
                        refine (KS.out _).mono ?_
                        rintro e w5 ⟨rfl, hb⟩
                        have HI5 := Lib.hid ((HI4.out.drew).call hb)
                        have hS5 := And.intro (hHeld.1.below hb hHeld.1.lt) (And.intro (hHeld.2.1.below hb hHeld.2.1.lt) (hHeld.2.2.below hb hHeld.2.2.lt))
                        have HD5 := Lib.hid hS5.2.1
                        clear hb
                        go_wp2_with fail
                        refine hK.out _ _ (fun _ => hS5) (fun hS_ => ?_)
                        have hHeld := hS_ (by omega)
                        clear hS_ hK K
                        try simp only [Act.put, List.setIfInBounds_toArray, List.set_cons_zero, List.set_cons_succ]
                        refine wpAnyT_takeL [] (i := 14) (v := ?_) rfl (by kernel_rfl) (by kernel_rfl) (by kernel_rfl) (by kernel_rfl) (fun _ _ _ h => h) (Or.inl ⟨by kernel_rfl, ?_⟩) (by with_reducible assumption) ?_
                        rotate_left
                        · intro w hSw
                          have z3 := hSw.1.cell 3
                          have y2 := hSw.2.1.cell 2
                          have y3 := hSw.2.1.cell 3
                          have y4 := hSw.2.1.cell 4
                          have x2 := hSw.2.2.cell 2
                          have x3 := hSw.2.2.cell 3
                          have x4 := hSw.2.2.cell 4
                          simp at z3 y2 y3 y4 x2 x3 x4
                          clear hSw
                          go_simp
                          try with_reducible rfl
                        try simp only [Act.put, List.setIfInBounds_toArray, List.set_cons_zero, List.set_cons_succ]
                        try simp only [hwa, hwb, hdec]
                        refine wpAnyT_takeL [] (i := 15) (v := ?_) rfl (by kernel_rfl) (by kernel_rfl) (by kernel_rfl) (by kernel_rfl) (fun _ _ _ h => h) (Or.inl ⟨by kernel_rfl, ?_⟩) (by with_reducible assumption) ?_
                        rotate_left
                        · intro w hSw
                          have z3 := hSw.1.cell 3
                          have y2 := hSw.2.1.cell 2
                          have y3 := hSw.2.1.cell 3
                          have y4 := hSw.2.1.cell 4
                          have x2 := hSw.2.2.cell 2
                          have x3 := hSw.2.2.cell 3
                          have x4 := hSw.2.2.cell 4
                          simp at z3 y2 y3 y4 x2 x3 x4
                          clear hSw
                          go_simp
                          try with_reducible rfl
                        try simp only [Act.put, List.setIfInBounds_toArray, List.set_cons_zero, List.set_cons_succ]
                        refine wpAnyT_takeL [] (i := 16) (v := ?_) rfl (by kernel_rfl) (by kernel_rfl) (by kernel_rfl) (by kernel_rfl) (fun _ _ _ h => h) (Or.inl ⟨by kernel_rfl, ?_⟩) (by with_reducible assumption) ?_
                        rotate_left
                        · intro w hSw
                          have z3 := hSw.1.cell 3
                          have y2 := hSw.2.1.cell 2
                          have y3 := hSw.2.1.cell 3
                          have y4 := hSw.2.1.cell 4
                          have x2 := hSw.2.2.cell 2
                          have x3 := hSw.2.2.cell 3
                          have x4 := hSw.2.2.cell 4
                          simp at z3 y2 y3 y4 x2 x3 x4
                          clear hSw
                          go_simp
                          try with_reducible rfl
                        try simp only [Act.put, List.setIfInBounds_toArray, List.set_cons_zero, List.set_cons_succ]
                        refine wpAnyT_takeL [] (i := 17) (v := ?_) rfl (by kernel_rfl) (by kernel_rfl) (by kernel_rfl) (by kernel_rfl) (fun _ _ _ h => h) (Or.inl ⟨by kernel_rfl, ?_⟩) (by with_reducible assumption) ?_
                        rotate_left
                        · intro w hSw
                          have z3 := hSw.1.cell 3
                          have y2 := hSw.2.1.cell 2
                          have y3 := hSw.2.1.cell 3
                          have y4 := hSw.2.1.cell 4
                          have x2 := hSw.2.2.cell 2
                          have x3 := hSw.2.2.cell 3
                          have x4 := hSw.2.2.cell 4
                          simp at z3 y2 y3 y4 x2 x3 x4
                          clear hSw
                          go_simp
                          try with_reducible rfl
                        try simp only [Act.put, List.setIfInBounds_toArray, List.set_cons_zero, List.set_cons_succ]
                        refine wpAnyT_takeL [] (i := 18) (v := ?_) rfl (by kernel_rfl) (by kernel_rfl) (by kernel_rfl) (by kernel_rfl) (fun _ _ _ h => h) (Or.inl ⟨by kernel_rfl, ?_⟩) (by with_reducible assumption) ?_
                        rotate_left
                        · intro w hSw
                          have z3 := hSw.1.cell 3
                          have y2 := hSw.2.1.cell 2
                          have y3 := hSw.2.1.cell 3
                          have y4 := hSw.2.1.cell 4
                          have x2 := hSw.2.2.cell 2
                          have x3 := hSw.2.2.cell 3
                          have x4 := hSw.2.2.cell 4
                          simp at z3 y2 y3 y4 x2 x3 x4
                          clear hSw
                          go_simp
                          try with_reducible rfl
                        try simp only [Act.put, List.setIfInBounds_toArray, List.set_cons_zero, List.set_cons_succ]
                        refine wpAnyT_takeL [] (i := 19) (v := ?_) rfl (by kernel_rfl) (by kernel_rfl) (by kernel_rfl) (by kernel_rfl) (fun _ _ _ h => h) (Or.inl ⟨by kernel_rfl, ?_⟩) (by with_reducible assumption) ?_
                        rotate_left
                        · intro w hSw
                          have z3 := hSw.1.cell 3
                          have y2 := hSw.2.1.cell 2
                          have y3 := hSw.2.1.cell 3
                          have y4 := hSw.2.1.cell 4
                          have x2 := hSw.2.2.cell 2
                          have x3 := hSw.2.2.cell 3
                          have x4 := hSw.2.2.cell 4
                          simp at z3 y2 y3 y4 x2 x3 x4
                          clear hSw
                          go_simp
                          try with_reducible rfl
                        try simp only [Act.put, List.setIfInBounds_toArray, List.set_cons_zero, List.set_cons_succ]
                        refine wpAnyT_takeL [] (i := 20) (v := ?_) rfl (by kernel_rfl) (by kernel_rfl) (by kernel_rfl) (by kernel_rfl) (fun _ _ _ h => h) (Or.inl ⟨by kernel_rfl, ?_⟩) (by with_reducible assumption) ?_
                        rotate_left
                        · intro w hSw
                          have z3 := hSw.1.cell 3
                          have y2 := hSw.2.1.cell 2
                          have y3 := hSw.2.1.cell 3
                          have y4 := hSw.2.1.cell 4
                          have x2 := hSw.2.2.cell 2
                          have x3 := hSw.2.2.cell 3
                          have x4 := hSw.2.2.cell 4
                          simp at z3 y2 y3 y4 x2 x3 x4
                          clear hSw
                          go_simp
                          try with_reducible rfl
                        try simp only [Act.put, List.setIfInBounds_toArray, List.set_cons_zero, List.set_cons_succ]
                        refine wpAnyT_takeL [] (i := 21) (v := ?_) rfl (by kernel_rfl) (by kernel_rfl) (by kernel_rfl) (by kernel_rfl) (fun _ _ _ h => h) (Or.inl ⟨by kernel_rfl, ?_⟩) (by with_reducible assumption) ?_
                        rotate_left
                        · intro w hSw
                          have z3 := hSw.1.cell 3
                          have y2 := hSw.2.1.cell 2
                          have y3 := hSw.2.1.cell 3
                          have y4 := hSw.2.1.cell 4
                          have x2 := hSw.2.2.cell 2
                          have x3 := hSw.2.2.cell 3
                          have x4 := hSw.2.2.cell 4
                          simp at z3 y2 y3 y4 x2 x3 x4
                          clear hSw
                          go_simp
                          try with_reducible rfl
                        try simp only [Act.put, List.setIfInBounds_toArray, List.set_cons_zero, List.set_cons_succ]
                        try simp only [hdr]
                        refine wpAnyT_takeL [] (i := 22) (v := ?_) rfl (by kernel_rfl) (by kernel_rfl) (by kernel_rfl) (by kernel_rfl) (fun _ _ _ h => h) (Or.inl ⟨by kernel_rfl, ?_⟩) (by with_reducible assumption) ?_
                        rotate_left
                        · intro w hSw
                          have z3 := hSw.1.cell 3
                          have y2 := hSw.2.1.cell 2
                          have y3 := hSw.2.1.cell 3
                          have y4 := hSw.2.1.cell 4
                          have x2 := hSw.2.2.cell 2
                          have x3 := hSw.2.2.cell 3
                          have x4 := hSw.2.2.cell 4
                          simp at z3 y2 y3 y4 x2 x3 x4
                          clear hSw
                          go_simp
                          try with_reducible rfl
                        try simp only [Act.put, List.setIfInBounds_toArray, List.set_cons_zero, List.set_cons_succ]
                        refine wpAnyT_takeL [] (i := 23) (v := ?_) rfl (by kernel_rfl) (by kernel_rfl) (by kernel_rfl) (by kernel_rfl) (fun _ _ _ h => h) (Or.inl ⟨by kernel_rfl, ?_⟩) (by with_reducible assumption) ?_
                        rotate_left
                        · intro w hSw
                          have z3 := hSw.1.cell 3
                          have y2 := hSw.2.1.cell 2
                          have y3 := hSw.2.1.cell 3
                          have y4 := hSw.2.1.cell 4
                          have x2 := hSw.2.2.cell 2
                          have x3 := hSw.2.2.cell 3
                          have x4 := hSw.2.2.cell 4
                          simp at z3 y2 y3 y4 x2 x3 x4
                          clear hSw
                          go_simp
                          try with_reducible rfl
                        try simp only [Act.put, List.setIfInBounds_toArray, List.set_cons_zero, List.set_cons_succ]
                        refine wpAnyT_takeL [] (i := 24) (v := ?_) rfl (by kernel_rfl) (by kernel_rfl) (by kernel_rfl) (by kernel_rfl) (fun _ _ _ h => h) (Or.inl ⟨by kernel_rfl, ?_⟩) (by with_reducible assumption) ?_
                        rotate_left
                        · intro w hSw
                          have z3 := hSw.1.cell 3
                          have y2 := hSw.2.1.cell 2
                          have y3 := hSw.2.1.cell 3
                          have y4 := hSw.2.1.cell 4
                          have x2 := hSw.2.2.cell 2
                          have x3 := hSw.2.2.cell 3
                          have x4 := hSw.2.2.cell 4
                          simp at z3 y2 y3 y4 x2 x3 x4
                          clear hSw
                          go_simp
                          try with_reducible rfl
                        try simp only [Act.put, List.setIfInBounds_toArray, List.set_cons_zero, List.set_cons_succ]
                        refine wpAnyT_takeL [] (i := 25) (v := ?_) rfl (by kernel_rfl) (by kernel_rfl) (by kernel_rfl) (by kernel_rfl) (fun _ _ _ h => h) (Or.inl ⟨by kernel_rfl, ?_⟩) (by with_reducible assumption) ?_
                        rotate_left
                        · intro w hSw
                          have z3 := hSw.1.cell 3
                          have y2 := hSw.2.1.cell 2
                          have y3 := hSw.2.1.cell 3
                          have y4 := hSw.2.1.cell 4
                          have x2 := hSw.2.2.cell 2
                          have x3 := hSw.2.2.cell 3
                          have x4 := hSw.2.2.cell 4
                          simp at z3 y2 y3 y4 x2 x3 x4
                          clear hSw
                          go_simp
                          try with_reducible rfl
                        try simp only [Act.put, List.setIfInBounds_toArray, List.set_cons_zero, List.set_cons_succ]
                        refine wpAnyT_takeL [] (i := 26) (v := ?_) rfl (by kernel_rfl) (by kernel_rfl) (by kernel_rfl) (by kernel_rfl) (fun _ _ _ h => h) (Or.inl ⟨by kernel_rfl, ?_⟩) (by with_reducible assumption) ?_
                        rotate_left
                        · intro w hSw
                          have z3 := hSw.1.cell 3
                          have y2 := hSw.2.1.cell 2
                          have y3 := hSw.2.1.cell 3
                          have y4 := hSw.2.1.cell 4
                          have x2 := hSw.2.2.cell 2
                          have x3 := hSw.2.2.cell 3
                          have x4 := hSw.2.2.cell 4
                          simp at z3 y2 y3 y4 x2 x3 x4
                          clear hSw
                          go_simp
                          try with_reducible rfl
                        try simp only [Act.put, List.setIfInBounds_toArray, List.set_cons_zero, List.set_cons_succ]
                        refine wpAnyT_takeL [] (i := 27) (v := ?_) rfl (by kernel_rfl) (by kernel_rfl) (by kernel_rfl) (by kernel_rfl) (fun _ _ _ h => h) (Or.inl ⟨by kernel_rfl, ?_⟩) (by with_reducible assumption) ?_
                        rotate_left
                        · intro w hSw
                          have z3 := hSw.1.cell 3
                          have y2 := hSw.2.1.cell 2
                          have y3 := hSw.2.1.cell 3
                          have y4 := hSw.2.1.cell 4
                          have x2 := hSw.2.2.cell 2
                          have x3 := hSw.2.2.cell 3
                          have x4 := hSw.2.2.cell 4
                          simp at z3 y2 y3 y4 x2 x3 x4
                          clear hSw
                          go_simp
                          try with_reducible rfl
                        try simp only [Act.put, List.setIfInBounds_toArray, List.set_cons_zero, List.set_cons_succ]
                        try simp only [hb2]
                        refine wpAnyT_takeL [] (i := 28) (v := ?_) rfl (by kernel_rfl) (by kernel_rfl) (by kernel_rfl) (by kernel_rfl) (fun _ _ _ h => h) (Or.inl ⟨by kernel_rfl, ?_⟩) (by with_reducible assumption) ?_
                        rotate_left
                        · intro w hSw
                          have z3 := hSw.1.cell 3
                          have y2 := hSw.2.1.cell 2
                          have y3 := hSw.2.1.cell 3
                          have y4 := hSw.2.1.cell 4
                          have x2 := hSw.2.2.cell 2
                          have x3 := hSw.2.2.cell 3
                          have x4 := hSw.2.2.cell 4
                          simp at z3 y2 y3 y4 x2 x3 x4
                          clear hSw
                          go_simp
                          try with_reducible rfl
                        try simp only [Act.put, List.setIfInBounds_toArray, List.set_cons_zero, List.set_cons_succ]
                        refine wpAnyT_takeL [] (i := 29) (v := ?_) rfl (by kernel_rfl) (by kernel_rfl) (by kernel_rfl) (by kernel_rfl) (fun _ _ _ h => h) (Or.inl ⟨by kernel_rfl, ?_⟩) (by with_reducible assumption) ?_
                        rotate_left
                        · intro w hSw
                          have z3 := hSw.1.cell 3
                          have y2 := hSw.2.1.cell 2
                          have y3 := hSw.2.1.cell 3
                          have y4 := hSw.2.1.cell 4
                          have x2 := hSw.2.2.cell 2
                          have x3 := hSw.2.2.cell 3
                          have x4 := hSw.2.2.cell 4
                          simp at z3 y2 y3 y4 x2 x3 x4
                          clear hSw
                          go_simp
                          try with_reducible rfl
                        try simp only [Act.put, List.setIfInBounds_toArray, List.set_cons_zero, List.set_cons_succ]
                        refine wpAnyT_takeL [] (i := 30) (v := ?_) rfl (by kernel_rfl) (by kernel_rfl) (by kernel_rfl) (by kernel_rfl) (fun _ _ _ h => h) (Or.inl ⟨by kernel_rfl, ?_⟩) (by with_reducible assumption) ?_
                        rotate_left
                        · intro w hSw
                          have z3 := hSw.1.cell 3
                          have y2 := hSw.2.1.cell 2
                          have y3 := hSw.2.1.cell 3
                          have y4 := hSw.2.1.cell 4
                          have x2 := hSw.2.2.cell 2
                          have x3 := hSw.2.2.cell 3
                          have x4 := hSw.2.2.cell 4
                          simp at z3 y2 y3 y4 x2 x3 x4
                          clear hSw
                          go_simp
                          try with_reducible rfl
                        try simp only [Act.put, List.setIfInBounds_toArray, List.set_cons_zero, List.set_cons_succ]
                        refine wpAnyT_takeL [] (i := 31) (v := ?_) rfl (by kernel_rfl) (by kernel_rfl) (by kernel_rfl) (by kernel_rfl) (fun _ _ _ h => h) (Or.inl ⟨by kernel_rfl, ?_⟩) (by with_reducible assumption) ?_
                        rotate_left
                        · intro w hSw
                          have z3 := hSw.1.cell 3
                          have y2 := hSw.2.1.cell 2
                          have y3 := hSw.2.1.cell 3
                          have y4 := hSw.2.1.cell 4
                          have x2 := hSw.2.2.cell 2
                          have x3 := hSw.2.2.cell 3
                          have x4 := hSw.2.2.cell 4
                          simp at z3 y2 y3 y4 x2 x3 x4
                          clear hSw
                          go_simp
                          try with_reducible rfl
                        try simp only [Act.put, List.setIfInBounds_toArray, List.set_cons_zero, List.set_cons_succ]
                        try simp only [hdn, hdm]
                        refine wpAnyT_takeL [] (i := 32) (v := ?_) rfl (by kernel_rfl) (by kernel_rfl) (by kernel_rfl) (by kernel_rfl) (fun _ _ _ h => h) (Or.inl ⟨by kernel_rfl, ?_⟩) (by with_reducible assumption) ?_
                        rotate_left
                        · intro w hSw
                          have z3 := hSw.1.cell 3
                          have y2 := hSw.2.1.cell 2
                          have y3 := hSw.2.1.cell 3
                          have y4 := hSw.2.1.cell 4
                          have x2 := hSw.2.2.cell 2
                          have x3 := hSw.2.2.cell 3
                          have x4 := hSw.2.2.cell 4
                          simp at z3 y2 y3 y4 x2 x3 x4
                          clear hSw
                          go_simp
                          try with_reducible rfl
                        try simp only [Act.put, List.setIfInBounds_toArray, List.set_cons_zero, List.set_cons_succ]
                        refine wpAnyT_takeL [] (i := 33) (v := ?_) rfl (by kernel_rfl) (by kernel_rfl) (by kernel_rfl) (by kernel_rfl) (fun _ _ _ h => h) (Or.inl ⟨by kernel_rfl, ?_⟩) (by with_reducible assumption) ?_
                        rotate_left
                        · intro w hSw
                          have z3 := hSw.1.cell 3
                          have y2 := hSw.2.1.cell 2
                          have y3 := hSw.2.1.cell 3
                          have y4 := hSw.2.1.cell 4
                          have x2 := hSw.2.2.cell 2
                          have x3 := hSw.2.2.cell 3
                          have x4 := hSw.2.2.cell 4
                          simp at z3 y2 y3 y4 x2 x3 x4
                          clear hSw
                          go_simp
                          try with_reducible rfl
                        try simp only [Act.put, List.setIfInBounds_toArray, List.set_cons_zero, List.set_cons_succ]
                        refine wpAnyT_takeL [] (i := 34) (v := ?_) rfl (by kernel_rfl) (by kernel_rfl) (by kernel_rfl) (by kernel_rfl) (fun _ _ _ h => h) (Or.inl ⟨by kernel_rfl, ?_⟩) (by with_reducible assumption) ?_
                        rotate_left
                        · intro w hSw
                          have z3 := hSw.1.cell 3
                          have y2 := hSw.2.1.cell 2
                          have y3 := hSw.2.1.cell 3
                          have y4 := hSw.2.1.cell 4
                          have x2 := hSw.2.2.cell 2
                          have x3 := hSw.2.2.cell 3
                          have x4 := hSw.2.2.cell 4
                          simp at z3 y2 y3 y4 x2 x3 x4
                          clear hSw
                          go_simp
                          try with_reducible rfl
                        try simp only [Act.put, List.setIfInBounds_toArray, List.set_cons_zero, List.set_cons_succ]
                        refine wpAnyT_done (by kernel_rfl) ?_ _
                        refine NoPanic.normal ?_
                        clear hHeld
                        have HX2 : exB ap (thB seed sh) (rkI seed) (plI seed c) q d = false := by rw [HX.out, hf.out]; simp
                        have HXF : Hid (exB ap (thB seed sh) (rkI seed) (plI seed c) q d = false) := HX2
                        go_wp2_with fail
                        go_roundw
                        case rel =>
                          exact ⟨n + 1, by omega, by go_num, rfl, fun x y a b => by
                            by_cases hx : x = n
                            · subst hx
                              have e := HDD.out
                              rw [b] at e
                              rw [Option.some.inj e]; exact HXF.out
                            · exact HE.out x y (by omega) b, HI5.out, HD5.out⟩
                        case measure => simp [intOf]; omega
                    · have hb1 : ¬ rd < rq := by omega
                      have hdr : decide (rd < rq) = false := decide_eq_false hb1
                      have hb2 : (rd == rq) = false := by simp; omega
                      have hf : Hid (fb = false) := HBF.out.trans (decide_eq_false (by omega))
                      refine wp_region_noPanic ?_
                      refine wp_region_heldT (fun w' => Blk w' w.heap.size #[.int .u32 seed, .int .i64 c, .float .f32 sh, .int .i64 ap] 93 ∧ Blk w' kd #[.int .i64 qi, .int .i64 qj, .int .u32 rq, .int .i64 px, .int .i64 py] 195 ∧ Blk w' kd2 #[.int .i64 di, .int .i64 dj, .int .u32 rd, .int .i64 dx, .int .i64 dy] 195) 35 (by kernel_rfl) ⟨HB4.out.1.drew, HB4.out.2.1.drew, HB4.out.2.2.drew⟩ (fun hHeld => ?_)
                      refine wpAnyT_takeL [] (i := 0) (v := ?_) rfl (by kernel_rfl) (by kernel_rfl) (by kernel_rfl) (by kernel_rfl) (fun _ _ _ h => h) (Or.inl ⟨by kernel_rfl, ?_⟩) (by with_reducible assumption) ?_
                      rotate_left
                      · intro w hSw
                        have z3 := hSw.1.cell 3
                        have y2 := hSw.2.1.cell 2
                        have y3 := hSw.2.1.cell 3
                        have y4 := hSw.2.1.cell 4
                        have x2 := hSw.2.2.cell 2
                        have x3 := hSw.2.2.cell 3
                        have x4 := hSw.2.2.cell 4
                        simp at z3 y2 y3 y4 x2 x3 x4
                        clear hSw
                        go_simp
                        try with_reducible rfl
                      try simp only [Act.put, List.setIfInBounds_toArray, List.set_cons_zero, List.set_cons_succ]
                      refine wpAnyT_takeL [] (i := 1) (v := ?_) rfl (by kernel_rfl) (by kernel_rfl) (by kernel_rfl) (by kernel_rfl) (fun _ _ _ h => h) (Or.inl ⟨by kernel_rfl, ?_⟩) (by with_reducible assumption) ?_
                      rotate_left
                      · intro w hSw
                        have z3 := hSw.1.cell 3
                        have y2 := hSw.2.1.cell 2
                        have y3 := hSw.2.1.cell 3
                        have y4 := hSw.2.1.cell 4
                        have x2 := hSw.2.2.cell 2
                        have x3 := hSw.2.2.cell 3
                        have x4 := hSw.2.2.cell 4
                        simp at z3 y2 y3 y4 x2 x3 x4
                        clear hSw
                        go_simp
                        try with_reducible rfl
                      try simp only [Act.put, List.setIfInBounds_toArray, List.set_cons_zero, List.set_cons_succ]
                      refine wpAnyT_takeL [] (i := 2) (v := ?_) rfl (by kernel_rfl) (by kernel_rfl) (by kernel_rfl) (by kernel_rfl) (fun _ _ _ h => h) (Or.inl ⟨by kernel_rfl, ?_⟩) (by with_reducible assumption) ?_
                      rotate_left
                      · intro w hSw
                        have z3 := hSw.1.cell 3
                        have y2 := hSw.2.1.cell 2
                        have y3 := hSw.2.1.cell 3
                        have y4 := hSw.2.1.cell 4
                        have x2 := hSw.2.2.cell 2
                        have x3 := hSw.2.2.cell 3
                        have x4 := hSw.2.2.cell 4
                        simp at z3 y2 y3 y4 x2 x3 x4
                        clear hSw
                        go_simp
                        try with_reducible rfl
                      try simp only [Act.put, List.setIfInBounds_toArray, List.set_cons_zero, List.set_cons_succ]
                      try simp only [hbn]
                      refine wpAnyT_takeL [] (i := 3) (v := ?_) rfl (by kernel_rfl) (by kernel_rfl) (by kernel_rfl) (by kernel_rfl) (fun _ _ _ h => h) (Or.inl ⟨by kernel_rfl, ?_⟩) (by with_reducible assumption) ?_
                      rotate_left
                      · intro w hSw
                        have z3 := hSw.1.cell 3
                        have y2 := hSw.2.1.cell 2
                        have y3 := hSw.2.1.cell 3
                        have y4 := hSw.2.1.cell 4
                        have x2 := hSw.2.2.cell 2
                        have x3 := hSw.2.2.cell 3
                        have x4 := hSw.2.2.cell 4
                        simp at z3 y2 y3 y4 x2 x3 x4
                        clear hSw
                        go_simp
                        try with_reducible rfl
                      try simp only [Act.put, List.setIfInBounds_toArray, List.set_cons_zero, List.set_cons_succ]
                      refine wpAnyT_takeL [] (i := 4) (v := ?_) rfl (by kernel_rfl) (by kernel_rfl) (by kernel_rfl) (by kernel_rfl) (fun _ _ _ h => h) (Or.inl ⟨by kernel_rfl, ?_⟩) (by with_reducible assumption) ?_
                      rotate_left
                      · intro w hSw
                        have z3 := hSw.1.cell 3
                        have y2 := hSw.2.1.cell 2
                        have y3 := hSw.2.1.cell 3
                        have y4 := hSw.2.1.cell 4
                        have x2 := hSw.2.2.cell 2
                        have x3 := hSw.2.2.cell 3
                        have x4 := hSw.2.2.cell 4
                        simp at z3 y2 y3 y4 x2 x3 x4
                        clear hSw
                        go_simp
                        try with_reducible rfl
                      try simp only [Act.put, List.setIfInBounds_toArray, List.set_cons_zero, List.set_cons_succ]
                      refine wpAnyT_takeL [] (i := 5) (v := ?_) rfl (by kernel_rfl) (by kernel_rfl) (by kernel_rfl) (by kernel_rfl) (fun _ _ _ h => h) (Or.inl ⟨by kernel_rfl, ?_⟩) (by with_reducible assumption) ?_
                      rotate_left
                      · intro w hSw
                        have z3 := hSw.1.cell 3
                        have y2 := hSw.2.1.cell 2
                        have y3 := hSw.2.1.cell 3
                        have y4 := hSw.2.1.cell 4
                        have x2 := hSw.2.2.cell 2
                        have x3 := hSw.2.2.cell 3
                        have x4 := hSw.2.2.cell 4
                        simp at z3 y2 y3 y4 x2 x3 x4
                        clear hSw
                        go_simp
                        try with_reducible rfl
                      try simp only [Act.put, List.setIfInBounds_toArray, List.set_cons_zero, List.set_cons_succ]
                      refine wpAnyT_takeL [] (i := 6) (v := ?_) rfl (by kernel_rfl) (by kernel_rfl) (by kernel_rfl) (by kernel_rfl) (fun _ _ _ h => h) (Or.inl ⟨by kernel_rfl, ?_⟩) (by with_reducible assumption) ?_
                      rotate_left
                      · intro w hSw
                        have z3 := hSw.1.cell 3
                        have y2 := hSw.2.1.cell 2
                        have y3 := hSw.2.1.cell 3
                        have y4 := hSw.2.1.cell 4
                        have x2 := hSw.2.2.cell 2
                        have x3 := hSw.2.2.cell 3
                        have x4 := hSw.2.2.cell 4
                        simp at z3 y2 y3 y4 x2 x3 x4
                        clear hSw
                        go_simp
                        try with_reducible rfl
                      try simp only [Act.put, List.setIfInBounds_toArray, List.set_cons_zero, List.set_cons_succ]
                      refine wpAnyT_takeL [] (i := 7) (v := ?_) rfl (by kernel_rfl) (by kernel_rfl) (by kernel_rfl) (by kernel_rfl) (fun _ _ _ h => h) (Or.inl ⟨by kernel_rfl, ?_⟩) (by with_reducible assumption) ?_
                      rotate_left
                      · intro w hSw
                        have z3 := hSw.1.cell 3
                        have y2 := hSw.2.1.cell 2
                        have y3 := hSw.2.1.cell 3
                        have y4 := hSw.2.1.cell 4
                        have x2 := hSw.2.2.cell 2
                        have x3 := hSw.2.2.cell 3
                        have x4 := hSw.2.2.cell 4
                        simp at z3 y2 y3 y4 x2 x3 x4
                        clear hSw
                        go_simp
                        try with_reducible rfl
                      try simp only [Act.put, List.setIfInBounds_toArray, List.set_cons_zero, List.set_cons_succ]
                      refine wpAnyT_takeL [] (i := 9) (v := ?_) rfl (by kernel_rfl) (by kernel_rfl) (by kernel_rfl) (by kernel_rfl) (fun _ _ _ h => h) (Or.inl ⟨by kernel_rfl, ?_⟩) (by with_reducible assumption) ?_
                      rotate_left
                      · intro w hSw
                        have z3 := hSw.1.cell 3
                        have y2 := hSw.2.1.cell 2
                        have y3 := hSw.2.1.cell 3
                        have y4 := hSw.2.1.cell 4
                        have x2 := hSw.2.2.cell 2
                        have x3 := hSw.2.2.cell 3
                        have x4 := hSw.2.2.cell 4
                        simp at z3 y2 y3 y4 x2 x3 x4
                        clear hSw
                        go_simp
                        try with_reducible rfl
                      try simp only [Act.put, List.setIfInBounds_toArray, List.set_cons_zero, List.set_cons_succ]
                      refine wpAnyT_takeL [] (i := 10) (v := ?_) rfl (by kernel_rfl) (by kernel_rfl) (by kernel_rfl) (by kernel_rfl) (fun _ _ _ h => h) (Or.inl ⟨by kernel_rfl, ?_⟩) (by with_reducible assumption) ?_
                      rotate_left
                      · intro w hSw
                        have z3 := hSw.1.cell 3
                        have y2 := hSw.2.1.cell 2
                        have y3 := hSw.2.1.cell 3
                        have y4 := hSw.2.1.cell 4
                        have x2 := hSw.2.2.cell 2
                        have x3 := hSw.2.2.cell 3
                        have x4 := hSw.2.2.cell 4
                        simp at z3 y2 y3 y4 x2 x3 x4
                        clear hSw
                        go_simp
                        try with_reducible rfl
                      try simp only [Act.put, List.setIfInBounds_toArray, List.set_cons_zero, List.set_cons_succ]
                      refine wpAnyT_takeL [] (i := 11) (v := ?_) rfl (by kernel_rfl) (by kernel_rfl) (by kernel_rfl) (by kernel_rfl) (fun _ _ _ h => h) (Or.inl ⟨by kernel_rfl, ?_⟩) (by with_reducible assumption) ?_
                      rotate_left
                      · intro w hSw
                        have z3 := hSw.1.cell 3
                        have y2 := hSw.2.1.cell 2
                        have y3 := hSw.2.1.cell 3
                        have y4 := hSw.2.1.cell 4
                        have x2 := hSw.2.2.cell 2
                        have x3 := hSw.2.2.cell 3
                        have x4 := hSw.2.2.cell 4
                        simp at z3 y2 y3 y4 x2 x3 x4
                        clear hSw
                        go_simp
                        try with_reducible rfl
                      try simp only [Act.put, List.setIfInBounds_toArray, List.set_cons_zero, List.set_cons_succ]
                      refine wpAnyT_takeL [] (i := 12) (v := ?_) rfl (by kernel_rfl) (by kernel_rfl) (by kernel_rfl) (by kernel_rfl) (fun _ _ _ h => h) (Or.inl ⟨by kernel_rfl, ?_⟩) (by with_reducible assumption) ?_
                      rotate_left
                      · intro w hSw
                        have z3 := hSw.1.cell 3
                        have y2 := hSw.2.1.cell 2
                        have y3 := hSw.2.1.cell 3
                        have y4 := hSw.2.1.cell 4
                        have x2 := hSw.2.2.cell 2
                        have x3 := hSw.2.2.cell 3
                        have x4 := hSw.2.2.cell 4
                        simp at z3 y2 y3 y4 x2 x3 x4
                        clear hSw
                        go_simp
                        try with_reducible rfl
                      try simp only [Act.put, List.setIfInBounds_toArray, List.set_cons_zero, List.set_cons_succ]
                      refine wpAnyT_takeL [] (i := 13) (v := ?_) rfl (by kernel_rfl) (by kernel_rfl) (by kernel_rfl) (by kernel_rfl) (fun _ _ _ h => h) (Or.inl ⟨by kernel_rfl, ?_⟩) (by with_reducible assumption) ?_
                      rotate_left
                      · intro w hSw
                        have z3 := hSw.1.cell 3
                        have y2 := hSw.2.1.cell 2
                        have y3 := hSw.2.1.cell 3
                        have y4 := hSw.2.1.cell 4
                        have x2 := hSw.2.2.cell 2
                        have x3 := hSw.2.2.cell 3
                        have x4 := hSw.2.2.cell 4
                        simp at z3 y2 y3 y4 x2 x3 x4
                        clear hSw
                        go_simp
                        try with_reducible rfl
                      try simp only [Act.put, List.setIfInBounds_toArray, List.set_cons_zero, List.set_cons_succ]
                      refine wpAnyT_ready (rs := [8]) (by kernel_rfl) (by simp) ?_
                      refine AllReadyT.cons rfl (fun K hK => ?_) AllReadyT.nil
                      go_simp
                      refine (KS.out _).mono ?_
                      rintro e w5 ⟨rfl, hb⟩
                      have HI5 := Lib.hid ((HI4.out.drew).call hb)
                      have hS5 := And.intro (hHeld.1.below hb hHeld.1.lt) (And.intro (hHeld.2.1.below hb hHeld.2.1.lt) (hHeld.2.2.below hb hHeld.2.2.lt))
                      have HD5 := Lib.hid hS5.2.1
                      clear hb
                      go_wp2_with fail
                      refine hK.out _ _ (fun _ => hS5) (fun hS_ => ?_)
                      have hHeld := hS_ (by omega)
                      clear hS_ hK K
                      try simp only [Act.put, List.setIfInBounds_toArray, List.set_cons_zero, List.set_cons_succ]
                      refine wpAnyT_takeL [] (i := 14) (v := ?_) rfl (by kernel_rfl) (by kernel_rfl) (by kernel_rfl) (by kernel_rfl) (fun _ _ _ h => h) (Or.inl ⟨by kernel_rfl, ?_⟩) (by with_reducible assumption) ?_
                      rotate_left
                      · intro w hSw
                        have z3 := hSw.1.cell 3
                        have y2 := hSw.2.1.cell 2
                        have y3 := hSw.2.1.cell 3
                        have y4 := hSw.2.1.cell 4
                        have x2 := hSw.2.2.cell 2
                        have x3 := hSw.2.2.cell 3
                        have x4 := hSw.2.2.cell 4
                        simp at z3 y2 y3 y4 x2 x3 x4
                        clear hSw
                        go_simp
                        try with_reducible rfl
                      try simp only [Act.put, List.setIfInBounds_toArray, List.set_cons_zero, List.set_cons_succ]
                      try simp only [hwa, hwb, hdec]
                      refine wpAnyT_takeL [] (i := 15) (v := ?_) rfl (by kernel_rfl) (by kernel_rfl) (by kernel_rfl) (by kernel_rfl) (fun _ _ _ h => h) (Or.inl ⟨by kernel_rfl, ?_⟩) (by with_reducible assumption) ?_
                      rotate_left
                      · intro w hSw
                        have z3 := hSw.1.cell 3
                        have y2 := hSw.2.1.cell 2
                        have y3 := hSw.2.1.cell 3
                        have y4 := hSw.2.1.cell 4
                        have x2 := hSw.2.2.cell 2
                        have x3 := hSw.2.2.cell 3
                        have x4 := hSw.2.2.cell 4
                        simp at z3 y2 y3 y4 x2 x3 x4
                        clear hSw
                        go_simp
                        try with_reducible rfl
                      try simp only [Act.put, List.setIfInBounds_toArray, List.set_cons_zero, List.set_cons_succ]
                      refine wpAnyT_takeL [] (i := 16) (v := ?_) rfl (by kernel_rfl) (by kernel_rfl) (by kernel_rfl) (by kernel_rfl) (fun _ _ _ h => h) (Or.inl ⟨by kernel_rfl, ?_⟩) (by with_reducible assumption) ?_
                      rotate_left
                      · intro w hSw
                        have z3 := hSw.1.cell 3
                        have y2 := hSw.2.1.cell 2
                        have y3 := hSw.2.1.cell 3
                        have y4 := hSw.2.1.cell 4
                        have x2 := hSw.2.2.cell 2
                        have x3 := hSw.2.2.cell 3
                        have x4 := hSw.2.2.cell 4
                        simp at z3 y2 y3 y4 x2 x3 x4
                        clear hSw
                        go_simp
                        try with_reducible rfl
                      try simp only [Act.put, List.setIfInBounds_toArray, List.set_cons_zero, List.set_cons_succ]
                      refine wpAnyT_takeL [] (i := 17) (v := ?_) rfl (by kernel_rfl) (by kernel_rfl) (by kernel_rfl) (by kernel_rfl) (fun _ _ _ h => h) (Or.inl ⟨by kernel_rfl, ?_⟩) (by with_reducible assumption) ?_
                      rotate_left
                      · intro w hSw
                        have z3 := hSw.1.cell 3
                        have y2 := hSw.2.1.cell 2
                        have y3 := hSw.2.1.cell 3
                        have y4 := hSw.2.1.cell 4
                        have x2 := hSw.2.2.cell 2
                        have x3 := hSw.2.2.cell 3
                        have x4 := hSw.2.2.cell 4
                        simp at z3 y2 y3 y4 x2 x3 x4
                        clear hSw
                        go_simp
                        try with_reducible rfl
                      try simp only [Act.put, List.setIfInBounds_toArray, List.set_cons_zero, List.set_cons_succ]
                      refine wpAnyT_takeL [] (i := 18) (v := ?_) rfl (by kernel_rfl) (by kernel_rfl) (by kernel_rfl) (by kernel_rfl) (fun _ _ _ h => h) (Or.inl ⟨by kernel_rfl, ?_⟩) (by with_reducible assumption) ?_
                      rotate_left
                      · intro w hSw
                        have z3 := hSw.1.cell 3
                        have y2 := hSw.2.1.cell 2
                        have y3 := hSw.2.1.cell 3
                        have y4 := hSw.2.1.cell 4
                        have x2 := hSw.2.2.cell 2
                        have x3 := hSw.2.2.cell 3
                        have x4 := hSw.2.2.cell 4
                        simp at z3 y2 y3 y4 x2 x3 x4
                        clear hSw
                        go_simp
                        try with_reducible rfl
                      try simp only [Act.put, List.setIfInBounds_toArray, List.set_cons_zero, List.set_cons_succ]
                      refine wpAnyT_takeL [] (i := 19) (v := ?_) rfl (by kernel_rfl) (by kernel_rfl) (by kernel_rfl) (by kernel_rfl) (fun _ _ _ h => h) (Or.inl ⟨by kernel_rfl, ?_⟩) (by with_reducible assumption) ?_
                      rotate_left
                      · intro w hSw
                        have z3 := hSw.1.cell 3
                        have y2 := hSw.2.1.cell 2
                        have y3 := hSw.2.1.cell 3
                        have y4 := hSw.2.1.cell 4
                        have x2 := hSw.2.2.cell 2
                        have x3 := hSw.2.2.cell 3
                        have x4 := hSw.2.2.cell 4
                        simp at z3 y2 y3 y4 x2 x3 x4
                        clear hSw
                        go_simp
                        try with_reducible rfl
                      try simp only [Act.put, List.setIfInBounds_toArray, List.set_cons_zero, List.set_cons_succ]
                      refine wpAnyT_takeL [] (i := 20) (v := ?_) rfl (by kernel_rfl) (by kernel_rfl) (by kernel_rfl) (by kernel_rfl) (fun _ _ _ h => h) (Or.inl ⟨by kernel_rfl, ?_⟩) (by with_reducible assumption) ?_
                      rotate_left
                      · intro w hSw
                        have z3 := hSw.1.cell 3
                        have y2 := hSw.2.1.cell 2
                        have y3 := hSw.2.1.cell 3
                        have y4 := hSw.2.1.cell 4
                        have x2 := hSw.2.2.cell 2
                        have x3 := hSw.2.2.cell 3
                        have x4 := hSw.2.2.cell 4
                        simp at z3 y2 y3 y4 x2 x3 x4
                        clear hSw
                        go_simp
                        try with_reducible rfl
                      try simp only [Act.put, List.setIfInBounds_toArray, List.set_cons_zero, List.set_cons_succ]
                      refine wpAnyT_takeL [] (i := 21) (v := ?_) rfl (by kernel_rfl) (by kernel_rfl) (by kernel_rfl) (by kernel_rfl) (fun _ _ _ h => h) (Or.inl ⟨by kernel_rfl, ?_⟩) (by with_reducible assumption) ?_
                      rotate_left
                      · intro w hSw
                        have z3 := hSw.1.cell 3
                        have y2 := hSw.2.1.cell 2
                        have y3 := hSw.2.1.cell 3
                        have y4 := hSw.2.1.cell 4
                        have x2 := hSw.2.2.cell 2
                        have x3 := hSw.2.2.cell 3
                        have x4 := hSw.2.2.cell 4
                        simp at z3 y2 y3 y4 x2 x3 x4
                        clear hSw
                        go_simp
                        try with_reducible rfl
                      try simp only [Act.put, List.setIfInBounds_toArray, List.set_cons_zero, List.set_cons_succ]
                      try simp only [hdr]
                      refine wpAnyT_takeL [] (i := 22) (v := ?_) rfl (by kernel_rfl) (by kernel_rfl) (by kernel_rfl) (by kernel_rfl) (fun _ _ _ h => h) (Or.inl ⟨by kernel_rfl, ?_⟩) (by with_reducible assumption) ?_
                      rotate_left
                      · intro w hSw
                        have z3 := hSw.1.cell 3
                        have y2 := hSw.2.1.cell 2
                        have y3 := hSw.2.1.cell 3
                        have y4 := hSw.2.1.cell 4
                        have x2 := hSw.2.2.cell 2
                        have x3 := hSw.2.2.cell 3
                        have x4 := hSw.2.2.cell 4
                        simp at z3 y2 y3 y4 x2 x3 x4
                        clear hSw
                        go_simp
                        try with_reducible rfl
                      try simp only [Act.put, List.setIfInBounds_toArray, List.set_cons_zero, List.set_cons_succ]
                      refine wpAnyT_takeL [] (i := 23) (v := ?_) rfl (by kernel_rfl) (by kernel_rfl) (by kernel_rfl) (by kernel_rfl) (fun _ _ _ h => h) (Or.inl ⟨by kernel_rfl, ?_⟩) (by with_reducible assumption) ?_
                      rotate_left
                      · intro w hSw
                        have z3 := hSw.1.cell 3
                        have y2 := hSw.2.1.cell 2
                        have y3 := hSw.2.1.cell 3
                        have y4 := hSw.2.1.cell 4
                        have x2 := hSw.2.2.cell 2
                        have x3 := hSw.2.2.cell 3
                        have x4 := hSw.2.2.cell 4
                        simp at z3 y2 y3 y4 x2 x3 x4
                        clear hSw
                        go_simp
                        try with_reducible rfl
                      try simp only [Act.put, List.setIfInBounds_toArray, List.set_cons_zero, List.set_cons_succ]
                      refine wpAnyT_takeL [] (i := 24) (v := ?_) rfl (by kernel_rfl) (by kernel_rfl) (by kernel_rfl) (by kernel_rfl) (fun _ _ _ h => h) (Or.inl ⟨by kernel_rfl, ?_⟩) (by with_reducible assumption) ?_
                      rotate_left
                      · intro w hSw
                        have z3 := hSw.1.cell 3
                        have y2 := hSw.2.1.cell 2
                        have y3 := hSw.2.1.cell 3
                        have y4 := hSw.2.1.cell 4
                        have x2 := hSw.2.2.cell 2
                        have x3 := hSw.2.2.cell 3
                        have x4 := hSw.2.2.cell 4
                        simp at z3 y2 y3 y4 x2 x3 x4
                        clear hSw
                        go_simp
                        try with_reducible rfl
                      try simp only [Act.put, List.setIfInBounds_toArray, List.set_cons_zero, List.set_cons_succ]
                      refine wpAnyT_takeL [] (i := 25) (v := ?_) rfl (by kernel_rfl) (by kernel_rfl) (by kernel_rfl) (by kernel_rfl) (fun _ _ _ h => h) (Or.inl ⟨by kernel_rfl, ?_⟩) (by with_reducible assumption) ?_
                      rotate_left
                      · intro w hSw
                        have z3 := hSw.1.cell 3
                        have y2 := hSw.2.1.cell 2
                        have y3 := hSw.2.1.cell 3
                        have y4 := hSw.2.1.cell 4
                        have x2 := hSw.2.2.cell 2
                        have x3 := hSw.2.2.cell 3
                        have x4 := hSw.2.2.cell 4
                        simp at z3 y2 y3 y4 x2 x3 x4
                        clear hSw
                        go_simp
                        try with_reducible rfl
                      try simp only [Act.put, List.setIfInBounds_toArray, List.set_cons_zero, List.set_cons_succ]
                      refine wpAnyT_takeL [] (i := 26) (v := ?_) rfl (by kernel_rfl) (by kernel_rfl) (by kernel_rfl) (by kernel_rfl) (fun _ _ _ h => h) (Or.inl ⟨by kernel_rfl, ?_⟩) (by with_reducible assumption) ?_
                      rotate_left
                      · intro w hSw
                        have z3 := hSw.1.cell 3
                        have y2 := hSw.2.1.cell 2
                        have y3 := hSw.2.1.cell 3
                        have y4 := hSw.2.1.cell 4
                        have x2 := hSw.2.2.cell 2
                        have x3 := hSw.2.2.cell 3
                        have x4 := hSw.2.2.cell 4
                        simp at z3 y2 y3 y4 x2 x3 x4
                        clear hSw
                        go_simp
                        try with_reducible rfl
                      try simp only [Act.put, List.setIfInBounds_toArray, List.set_cons_zero, List.set_cons_succ]
                      refine wpAnyT_takeL [] (i := 27) (v := ?_) rfl (by kernel_rfl) (by kernel_rfl) (by kernel_rfl) (by kernel_rfl) (fun _ _ _ h => h) (Or.inl ⟨by kernel_rfl, ?_⟩) (by with_reducible assumption) ?_
                      rotate_left
                      · intro w hSw
                        have z3 := hSw.1.cell 3
                        have y2 := hSw.2.1.cell 2
                        have y3 := hSw.2.1.cell 3
                        have y4 := hSw.2.1.cell 4
                        have x2 := hSw.2.2.cell 2
                        have x3 := hSw.2.2.cell 3
                        have x4 := hSw.2.2.cell 4
                        simp at z3 y2 y3 y4 x2 x3 x4
                        clear hSw
                        go_simp
                        try with_reducible rfl
                      try simp only [Act.put, List.setIfInBounds_toArray, List.set_cons_zero, List.set_cons_succ]
                      try simp only [hb2]
                      refine wpAnyT_takeL [] (i := 28) (v := ?_) rfl (by kernel_rfl) (by kernel_rfl) (by kernel_rfl) (by kernel_rfl) (fun _ _ _ h => h) (Or.inl ⟨by kernel_rfl, ?_⟩) (by with_reducible assumption) ?_
                      rotate_left
                      · intro w hSw
                        have z3 := hSw.1.cell 3
                        have y2 := hSw.2.1.cell 2
                        have y3 := hSw.2.1.cell 3
                        have y4 := hSw.2.1.cell 4
                        have x2 := hSw.2.2.cell 2
                        have x3 := hSw.2.2.cell 3
                        have x4 := hSw.2.2.cell 4
                        simp at z3 y2 y3 y4 x2 x3 x4
                        clear hSw
                        go_simp
                        try with_reducible rfl
                      try simp only [Act.put, List.setIfInBounds_toArray, List.set_cons_zero, List.set_cons_succ]
                      refine wpAnyT_takeL [] (i := 29) (v := undef) rfl (by kernel_rfl) (by kernel_rfl) (by kernel_rfl) (by kernel_rfl) (fun _ _ _ h => h) (Or.inr ⟨by kernel_rfl, rfl⟩) (by with_reducible assumption) ?_
                      try simp only [Act.put, List.setIfInBounds_toArray, List.set_cons_zero, List.set_cons_succ]
                      refine wpAnyT_takeL [] (i := 30) (v := undef) rfl (by kernel_rfl) (by kernel_rfl) (by kernel_rfl) (by kernel_rfl) (fun _ _ _ h => h) (Or.inr ⟨by kernel_rfl, rfl⟩) (by with_reducible assumption) ?_
                      try simp only [Act.put, List.setIfInBounds_toArray, List.set_cons_zero, List.set_cons_succ]
                      refine wpAnyT_takeL [] (i := 31) (v := undef) rfl (by kernel_rfl) (by kernel_rfl) (by kernel_rfl) (by kernel_rfl) (fun _ _ _ h => h) (Or.inr ⟨by kernel_rfl, rfl⟩) (by with_reducible assumption) ?_
                      try simp only [Act.put, List.setIfInBounds_toArray, List.set_cons_zero, List.set_cons_succ]
                      refine wpAnyT_takeL [] (i := 32) (v := ?_) rfl (by kernel_rfl) (by kernel_rfl) (by kernel_rfl) (by kernel_rfl) (fun _ _ _ h => h) (Or.inl ⟨by kernel_rfl, ?_⟩) (by with_reducible assumption) ?_
                      rotate_left
                      · intro w hSw
                        have z3 := hSw.1.cell 3
                        have y2 := hSw.2.1.cell 2
                        have y3 := hSw.2.1.cell 3
                        have y4 := hSw.2.1.cell 4
                        have x2 := hSw.2.2.cell 2
                        have x3 := hSw.2.2.cell 3
                        have x4 := hSw.2.2.cell 4
                        simp at z3 y2 y3 y4 x2 x3 x4
                        clear hSw
                        go_simp
                        try with_reducible rfl
                      try simp only [Act.put, List.setIfInBounds_toArray, List.set_cons_zero, List.set_cons_succ]
                      refine wpAnyT_takeL [] (i := 33) (v := ?_) rfl (by kernel_rfl) (by kernel_rfl) (by kernel_rfl) (by kernel_rfl) (fun _ _ _ h => h) (Or.inl ⟨by kernel_rfl, ?_⟩) (by with_reducible assumption) ?_
                      rotate_left
                      · intro w hSw
                        have z3 := hSw.1.cell 3
                        have y2 := hSw.2.1.cell 2
                        have y3 := hSw.2.1.cell 3
                        have y4 := hSw.2.1.cell 4
                        have x2 := hSw.2.2.cell 2
                        have x3 := hSw.2.2.cell 3
                        have x4 := hSw.2.2.cell 4
                        simp at z3 y2 y3 y4 x2 x3 x4
                        clear hSw
                        go_simp
                        try with_reducible rfl
                      try simp only [Act.put, List.setIfInBounds_toArray, List.set_cons_zero, List.set_cons_succ]
                      refine wpAnyT_takeL [] (i := 34) (v := ?_) rfl (by kernel_rfl) (by kernel_rfl) (by kernel_rfl) (by kernel_rfl) (fun _ _ _ h => h) (Or.inl ⟨by kernel_rfl, ?_⟩) (by with_reducible assumption) ?_
                      rotate_left
                      · intro w hSw
                        have z3 := hSw.1.cell 3
                        have y2 := hSw.2.1.cell 2
                        have y3 := hSw.2.1.cell 3
                        have y4 := hSw.2.1.cell 4
                        have x2 := hSw.2.2.cell 2
                        have x3 := hSw.2.2.cell 3
                        have x4 := hSw.2.2.cell 4
                        simp at z3 y2 y3 y4 x2 x3 x4
                        clear hSw
                        go_simp
                        try with_reducible rfl
                      try simp only [Act.put, List.setIfInBounds_toArray, List.set_cons_zero, List.set_cons_succ]
                      refine wpAnyT_done (by kernel_rfl) ?_ _
                      refine NoPanic.normal ?_
                      clear hHeld
                      have HX2 : exB ap (thB seed sh) (rkI seed) (plI seed c) q d = false := by rw [HX.out, hf.out]; simp
                      have HXF : Hid (exB ap (thB seed sh) (rkI seed) (plI seed c) q d = false) := HX2
                      go_wp2_with fail
                      go_roundw
                      case rel =>
                        exact ⟨n + 1, by omega, by go_num, rfl, fun x y a b => by
                          by_cases hx : x = n
                          · subst hx
                            have e := HDD.out
                            rw [b] at e
                            rw [Option.some.inj e]; exact HXF.out
                          · exact HE.out x y (by omega) b, HI5.out, HD5.out⟩
                      case measure => simp [intOf]; omega
                  · have hdec : decide (S ≤ sa) = false := decide_eq_false hle
                    have HLE := Lib.hid hle
                    refine wp_region_noPanic ?_
                    refine wp_region_heldT (fun w' => Blk w' w.heap.size #[.int .u32 seed, .int .i64 c, .float .f32 sh, .int .i64 ap] 93 ∧ Blk w' kd #[.int .i64 qi, .int .i64 qj, .int .u32 rq, .int .i64 px, .int .i64 py] 195 ∧ Blk w' kd2 #[.int .i64 di, .int .i64 dj, .int .u32 rd, .int .i64 dx, .int .i64 dy] 195) 35 (by kernel_rfl) ⟨HB4.out.1.drew, HB4.out.2.1.drew, HB4.out.2.2.drew⟩ (fun hHeld => ?_)
                    refine wpAnyT_takeL [] (i := 0) (v := ?_) rfl (by kernel_rfl) (by kernel_rfl) (by kernel_rfl) (by kernel_rfl) (fun _ _ _ h => h) (Or.inl ⟨by kernel_rfl, ?_⟩) (by with_reducible assumption) ?_
                    rotate_left
                    · intro w hSw
                      have z3 := hSw.1.cell 3
                      have y2 := hSw.2.1.cell 2
                      have y3 := hSw.2.1.cell 3
                      have y4 := hSw.2.1.cell 4
                      have x2 := hSw.2.2.cell 2
                      have x3 := hSw.2.2.cell 3
                      have x4 := hSw.2.2.cell 4
                      simp at z3 y2 y3 y4 x2 x3 x4
                      clear hSw
                      go_simp
                      try with_reducible rfl
                    try simp only [Act.put, List.setIfInBounds_toArray, List.set_cons_zero, List.set_cons_succ]
                    refine wpAnyT_takeL [] (i := 1) (v := ?_) rfl (by kernel_rfl) (by kernel_rfl) (by kernel_rfl) (by kernel_rfl) (fun _ _ _ h => h) (Or.inl ⟨by kernel_rfl, ?_⟩) (by with_reducible assumption) ?_
                    rotate_left
                    · intro w hSw
                      have z3 := hSw.1.cell 3
                      have y2 := hSw.2.1.cell 2
                      have y3 := hSw.2.1.cell 3
                      have y4 := hSw.2.1.cell 4
                      have x2 := hSw.2.2.cell 2
                      have x3 := hSw.2.2.cell 3
                      have x4 := hSw.2.2.cell 4
                      simp at z3 y2 y3 y4 x2 x3 x4
                      clear hSw
                      go_simp
                      try with_reducible rfl
                    try simp only [Act.put, List.setIfInBounds_toArray, List.set_cons_zero, List.set_cons_succ]
                    refine wpAnyT_takeL [] (i := 2) (v := ?_) rfl (by kernel_rfl) (by kernel_rfl) (by kernel_rfl) (by kernel_rfl) (fun _ _ _ h => h) (Or.inl ⟨by kernel_rfl, ?_⟩) (by with_reducible assumption) ?_
                    rotate_left
                    · intro w hSw
                      have z3 := hSw.1.cell 3
                      have y2 := hSw.2.1.cell 2
                      have y3 := hSw.2.1.cell 3
                      have y4 := hSw.2.1.cell 4
                      have x2 := hSw.2.2.cell 2
                      have x3 := hSw.2.2.cell 3
                      have x4 := hSw.2.2.cell 4
                      simp at z3 y2 y3 y4 x2 x3 x4
                      clear hSw
                      go_simp
                      try with_reducible rfl
                    try simp only [Act.put, List.setIfInBounds_toArray, List.set_cons_zero, List.set_cons_succ]
                    try simp only [hbn]
                    refine wpAnyT_takeL [] (i := 3) (v := ?_) rfl (by kernel_rfl) (by kernel_rfl) (by kernel_rfl) (by kernel_rfl) (fun _ _ _ h => h) (Or.inl ⟨by kernel_rfl, ?_⟩) (by with_reducible assumption) ?_
                    rotate_left
                    · intro w hSw
                      have z3 := hSw.1.cell 3
                      have y2 := hSw.2.1.cell 2
                      have y3 := hSw.2.1.cell 3
                      have y4 := hSw.2.1.cell 4
                      have x2 := hSw.2.2.cell 2
                      have x3 := hSw.2.2.cell 3
                      have x4 := hSw.2.2.cell 4
                      simp at z3 y2 y3 y4 x2 x3 x4
                      clear hSw
                      go_simp
                      try with_reducible rfl
                    try simp only [Act.put, List.setIfInBounds_toArray, List.set_cons_zero, List.set_cons_succ]
                    refine wpAnyT_takeL [] (i := 4) (v := ?_) rfl (by kernel_rfl) (by kernel_rfl) (by kernel_rfl) (by kernel_rfl) (fun _ _ _ h => h) (Or.inl ⟨by kernel_rfl, ?_⟩) (by with_reducible assumption) ?_
                    rotate_left
                    · intro w hSw
                      have z3 := hSw.1.cell 3
                      have y2 := hSw.2.1.cell 2
                      have y3 := hSw.2.1.cell 3
                      have y4 := hSw.2.1.cell 4
                      have x2 := hSw.2.2.cell 2
                      have x3 := hSw.2.2.cell 3
                      have x4 := hSw.2.2.cell 4
                      simp at z3 y2 y3 y4 x2 x3 x4
                      clear hSw
                      go_simp
                      try with_reducible rfl
                    try simp only [Act.put, List.setIfInBounds_toArray, List.set_cons_zero, List.set_cons_succ]
                    refine wpAnyT_takeL [] (i := 5) (v := ?_) rfl (by kernel_rfl) (by kernel_rfl) (by kernel_rfl) (by kernel_rfl) (fun _ _ _ h => h) (Or.inl ⟨by kernel_rfl, ?_⟩) (by with_reducible assumption) ?_
                    rotate_left
                    · intro w hSw
                      have z3 := hSw.1.cell 3
                      have y2 := hSw.2.1.cell 2
                      have y3 := hSw.2.1.cell 3
                      have y4 := hSw.2.1.cell 4
                      have x2 := hSw.2.2.cell 2
                      have x3 := hSw.2.2.cell 3
                      have x4 := hSw.2.2.cell 4
                      simp at z3 y2 y3 y4 x2 x3 x4
                      clear hSw
                      go_simp
                      try with_reducible rfl
                    try simp only [Act.put, List.setIfInBounds_toArray, List.set_cons_zero, List.set_cons_succ]
                    refine wpAnyT_takeL [] (i := 6) (v := ?_) rfl (by kernel_rfl) (by kernel_rfl) (by kernel_rfl) (by kernel_rfl) (fun _ _ _ h => h) (Or.inl ⟨by kernel_rfl, ?_⟩) (by with_reducible assumption) ?_
                    rotate_left
                    · intro w hSw
                      have z3 := hSw.1.cell 3
                      have y2 := hSw.2.1.cell 2
                      have y3 := hSw.2.1.cell 3
                      have y4 := hSw.2.1.cell 4
                      have x2 := hSw.2.2.cell 2
                      have x3 := hSw.2.2.cell 3
                      have x4 := hSw.2.2.cell 4
                      simp at z3 y2 y3 y4 x2 x3 x4
                      clear hSw
                      go_simp
                      try with_reducible rfl
                    try simp only [Act.put, List.setIfInBounds_toArray, List.set_cons_zero, List.set_cons_succ]
                    refine wpAnyT_takeL [] (i := 7) (v := ?_) rfl (by kernel_rfl) (by kernel_rfl) (by kernel_rfl) (by kernel_rfl) (fun _ _ _ h => h) (Or.inl ⟨by kernel_rfl, ?_⟩) (by with_reducible assumption) ?_
                    rotate_left
                    · intro w hSw
                      have z3 := hSw.1.cell 3
                      have y2 := hSw.2.1.cell 2
                      have y3 := hSw.2.1.cell 3
                      have y4 := hSw.2.1.cell 4
                      have x2 := hSw.2.2.cell 2
                      have x3 := hSw.2.2.cell 3
                      have x4 := hSw.2.2.cell 4
                      simp at z3 y2 y3 y4 x2 x3 x4
                      clear hSw
                      go_simp
                      try with_reducible rfl
                    try simp only [Act.put, List.setIfInBounds_toArray, List.set_cons_zero, List.set_cons_succ]
                    refine wpAnyT_takeL [] (i := 9) (v := ?_) rfl (by kernel_rfl) (by kernel_rfl) (by kernel_rfl) (by kernel_rfl) (fun _ _ _ h => h) (Or.inl ⟨by kernel_rfl, ?_⟩) (by with_reducible assumption) ?_
                    rotate_left
                    · intro w hSw
                      have z3 := hSw.1.cell 3
                      have y2 := hSw.2.1.cell 2
                      have y3 := hSw.2.1.cell 3
                      have y4 := hSw.2.1.cell 4
                      have x2 := hSw.2.2.cell 2
                      have x3 := hSw.2.2.cell 3
                      have x4 := hSw.2.2.cell 4
                      simp at z3 y2 y3 y4 x2 x3 x4
                      clear hSw
                      go_simp
                      try with_reducible rfl
                    try simp only [Act.put, List.setIfInBounds_toArray, List.set_cons_zero, List.set_cons_succ]
                    refine wpAnyT_takeL [] (i := 10) (v := ?_) rfl (by kernel_rfl) (by kernel_rfl) (by kernel_rfl) (by kernel_rfl) (fun _ _ _ h => h) (Or.inl ⟨by kernel_rfl, ?_⟩) (by with_reducible assumption) ?_
                    rotate_left
                    · intro w hSw
                      have z3 := hSw.1.cell 3
                      have y2 := hSw.2.1.cell 2
                      have y3 := hSw.2.1.cell 3
                      have y4 := hSw.2.1.cell 4
                      have x2 := hSw.2.2.cell 2
                      have x3 := hSw.2.2.cell 3
                      have x4 := hSw.2.2.cell 4
                      simp at z3 y2 y3 y4 x2 x3 x4
                      clear hSw
                      go_simp
                      try with_reducible rfl
                    try simp only [Act.put, List.setIfInBounds_toArray, List.set_cons_zero, List.set_cons_succ]
                    refine wpAnyT_takeL [] (i := 11) (v := ?_) rfl (by kernel_rfl) (by kernel_rfl) (by kernel_rfl) (by kernel_rfl) (fun _ _ _ h => h) (Or.inl ⟨by kernel_rfl, ?_⟩) (by with_reducible assumption) ?_
                    rotate_left
                    · intro w hSw
                      have z3 := hSw.1.cell 3
                      have y2 := hSw.2.1.cell 2
                      have y3 := hSw.2.1.cell 3
                      have y4 := hSw.2.1.cell 4
                      have x2 := hSw.2.2.cell 2
                      have x3 := hSw.2.2.cell 3
                      have x4 := hSw.2.2.cell 4
                      simp at z3 y2 y3 y4 x2 x3 x4
                      clear hSw
                      go_simp
                      try with_reducible rfl
                    try simp only [Act.put, List.setIfInBounds_toArray, List.set_cons_zero, List.set_cons_succ]
                    refine wpAnyT_takeL [] (i := 12) (v := ?_) rfl (by kernel_rfl) (by kernel_rfl) (by kernel_rfl) (by kernel_rfl) (fun _ _ _ h => h) (Or.inl ⟨by kernel_rfl, ?_⟩) (by with_reducible assumption) ?_
                    rotate_left
                    · intro w hSw
                      have z3 := hSw.1.cell 3
                      have y2 := hSw.2.1.cell 2
                      have y3 := hSw.2.1.cell 3
                      have y4 := hSw.2.1.cell 4
                      have x2 := hSw.2.2.cell 2
                      have x3 := hSw.2.2.cell 3
                      have x4 := hSw.2.2.cell 4
                      simp at z3 y2 y3 y4 x2 x3 x4
                      clear hSw
                      go_simp
                      try with_reducible rfl
                    try simp only [Act.put, List.setIfInBounds_toArray, List.set_cons_zero, List.set_cons_succ]
                    refine wpAnyT_takeL [] (i := 13) (v := ?_) rfl (by kernel_rfl) (by kernel_rfl) (by kernel_rfl) (by kernel_rfl) (fun _ _ _ h => h) (Or.inl ⟨by kernel_rfl, ?_⟩) (by with_reducible assumption) ?_
                    rotate_left
                    · intro w hSw
                      have z3 := hSw.1.cell 3
                      have y2 := hSw.2.1.cell 2
                      have y3 := hSw.2.1.cell 3
                      have y4 := hSw.2.1.cell 4
                      have x2 := hSw.2.2.cell 2
                      have x3 := hSw.2.2.cell 3
                      have x4 := hSw.2.2.cell 4
                      simp at z3 y2 y3 y4 x2 x3 x4
                      clear hSw
                      go_simp
                      try with_reducible rfl
                    try simp only [Act.put, List.setIfInBounds_toArray, List.set_cons_zero, List.set_cons_succ]
                    refine wpAnyT_ready (rs := [8]) (by kernel_rfl) (by simp) ?_
                    refine AllReadyT.cons rfl (fun K hK => ?_) AllReadyT.nil
                    go_simp
                    refine (KS.out _).mono ?_
                    rintro e w5 ⟨rfl, hb⟩
                    have HI5 := Lib.hid ((HI4.out.drew).call hb)
                    have hS5 := And.intro (hHeld.1.below hb hHeld.1.lt) (And.intro (hHeld.2.1.below hb hHeld.2.1.lt) (hHeld.2.2.below hb hHeld.2.2.lt))
                    have HD5 := Lib.hid hS5.2.1
                    clear hb
                    go_wp2_with fail
                    refine hK.out _ _ (fun _ => hS5) (fun hS_ => ?_)
                    have hHeld := hS_ (by omega)
                    clear hS_ hK K
                    try simp only [Act.put, List.setIfInBounds_toArray, List.set_cons_zero, List.set_cons_succ]
                    refine wpAnyT_takeL [] (i := 14) (v := ?_) rfl (by kernel_rfl) (by kernel_rfl) (by kernel_rfl) (by kernel_rfl) (fun _ _ _ h => h) (Or.inl ⟨by kernel_rfl, ?_⟩) (by with_reducible assumption) ?_
                    rotate_left
                    · intro w hSw
                      have z3 := hSw.1.cell 3
                      have y2 := hSw.2.1.cell 2
                      have y3 := hSw.2.1.cell 3
                      have y4 := hSw.2.1.cell 4
                      have x2 := hSw.2.2.cell 2
                      have x3 := hSw.2.2.cell 3
                      have x4 := hSw.2.2.cell 4
                      simp at z3 y2 y3 y4 x2 x3 x4
                      clear hSw
                      go_simp
                      try with_reducible rfl
                    try simp only [Act.put, List.setIfInBounds_toArray, List.set_cons_zero, List.set_cons_succ]
                    try simp only [hwa, hwb, hdec]
                    refine wpAnyT_takeL [] (i := 15) (v := ?_) rfl (by kernel_rfl) (by kernel_rfl) (by kernel_rfl) (by kernel_rfl) (fun _ _ _ h => h) (Or.inl ⟨by kernel_rfl, ?_⟩) (by with_reducible assumption) ?_
                    rotate_left
                    · intro w hSw
                      have z3 := hSw.1.cell 3
                      have y2 := hSw.2.1.cell 2
                      have y3 := hSw.2.1.cell 3
                      have y4 := hSw.2.1.cell 4
                      have x2 := hSw.2.2.cell 2
                      have x3 := hSw.2.2.cell 3
                      have x4 := hSw.2.2.cell 4
                      simp at z3 y2 y3 y4 x2 x3 x4
                      clear hSw
                      go_simp
                      try with_reducible rfl
                    try simp only [Act.put, List.setIfInBounds_toArray, List.set_cons_zero, List.set_cons_succ]
                    refine wpAnyT_takeL [] (i := 16) (v := ?_) rfl (by kernel_rfl) (by kernel_rfl) (by kernel_rfl) (by kernel_rfl) (fun _ _ _ h => h) (Or.inl ⟨by kernel_rfl, ?_⟩) (by with_reducible assumption) ?_
                    rotate_left
                    · intro w hSw
                      have z3 := hSw.1.cell 3
                      have y2 := hSw.2.1.cell 2
                      have y3 := hSw.2.1.cell 3
                      have y4 := hSw.2.1.cell 4
                      have x2 := hSw.2.2.cell 2
                      have x3 := hSw.2.2.cell 3
                      have x4 := hSw.2.2.cell 4
                      simp at z3 y2 y3 y4 x2 x3 x4
                      clear hSw
                      go_simp
                      try with_reducible rfl
                    try simp only [Act.put, List.setIfInBounds_toArray, List.set_cons_zero, List.set_cons_succ]
                    refine wpAnyT_takeL [] (i := 17) (v := undef) rfl (by kernel_rfl) (by kernel_rfl) (by kernel_rfl) (by kernel_rfl) (fun _ _ _ h => h) (Or.inr ⟨by kernel_rfl, rfl⟩) (by with_reducible assumption) ?_
                    try simp only [Act.put, List.setIfInBounds_toArray, List.set_cons_zero, List.set_cons_succ]
                    refine wpAnyT_takeL [] (i := 18) (v := undef) rfl (by kernel_rfl) (by kernel_rfl) (by kernel_rfl) (by kernel_rfl) (fun _ _ _ h => h) (Or.inr ⟨by kernel_rfl, rfl⟩) (by with_reducible assumption) ?_
                    try simp only [Act.put, List.setIfInBounds_toArray, List.set_cons_zero, List.set_cons_succ]
                    refine wpAnyT_takeL [] (i := 19) (v := undef) rfl (by kernel_rfl) (by kernel_rfl) (by kernel_rfl) (by kernel_rfl) (fun _ _ _ h => h) (Or.inr ⟨by kernel_rfl, rfl⟩) (by with_reducible assumption) ?_
                    try simp only [Act.put, List.setIfInBounds_toArray, List.set_cons_zero, List.set_cons_succ]
                    refine wpAnyT_takeL [] (i := 20) (v := undef) rfl (by kernel_rfl) (by kernel_rfl) (by kernel_rfl) (by kernel_rfl) (fun _ _ _ h => h) (Or.inr ⟨by kernel_rfl, rfl⟩) (by with_reducible assumption) ?_
                    try simp only [Act.put, List.setIfInBounds_toArray, List.set_cons_zero, List.set_cons_succ]
                    refine wpAnyT_takeL [] (i := 21) (v := undef) rfl (by kernel_rfl) (by kernel_rfl) (by kernel_rfl) (by kernel_rfl) (fun _ _ _ h => h) (Or.inr ⟨by kernel_rfl, rfl⟩) (by with_reducible assumption) ?_
                    try simp only [Act.put, List.setIfInBounds_toArray, List.set_cons_zero, List.set_cons_succ]
                    refine wpAnyT_takeL [] (i := 22) (v := undef) rfl (by kernel_rfl) (by kernel_rfl) (by kernel_rfl) (by kernel_rfl) (fun _ _ _ h => h) (Or.inr ⟨by kernel_rfl, rfl⟩) (by with_reducible assumption) ?_
                    try simp only [Act.put, List.setIfInBounds_toArray, List.set_cons_zero, List.set_cons_succ]
                    refine wpAnyT_takeL [] (i := 23) (v := undef) rfl (by kernel_rfl) (by kernel_rfl) (by kernel_rfl) (by kernel_rfl) (fun _ _ _ h => h) (Or.inr ⟨by kernel_rfl, rfl⟩) (by with_reducible assumption) ?_
                    try simp only [Act.put, List.setIfInBounds_toArray, List.set_cons_zero, List.set_cons_succ]
                    refine wpAnyT_takeL [] (i := 24) (v := undef) rfl (by kernel_rfl) (by kernel_rfl) (by kernel_rfl) (by kernel_rfl) (fun _ _ _ h => h) (Or.inr ⟨by kernel_rfl, rfl⟩) (by with_reducible assumption) ?_
                    try simp only [Act.put, List.setIfInBounds_toArray, List.set_cons_zero, List.set_cons_succ]
                    refine wpAnyT_takeL [] (i := 25) (v := undef) rfl (by kernel_rfl) (by kernel_rfl) (by kernel_rfl) (by kernel_rfl) (fun _ _ _ h => h) (Or.inr ⟨by kernel_rfl, rfl⟩) (by with_reducible assumption) ?_
                    try simp only [Act.put, List.setIfInBounds_toArray, List.set_cons_zero, List.set_cons_succ]
                    refine wpAnyT_takeL [] (i := 26) (v := undef) rfl (by kernel_rfl) (by kernel_rfl) (by kernel_rfl) (by kernel_rfl) (fun _ _ _ h => h) (Or.inr ⟨by kernel_rfl, rfl⟩) (by with_reducible assumption) ?_
                    try simp only [Act.put, List.setIfInBounds_toArray, List.set_cons_zero, List.set_cons_succ]
                    refine wpAnyT_takeL [] (i := 27) (v := undef) rfl (by kernel_rfl) (by kernel_rfl) (by kernel_rfl) (by kernel_rfl) (fun _ _ _ h => h) (Or.inr ⟨by kernel_rfl, rfl⟩) (by with_reducible assumption) ?_
                    try simp only [Act.put, List.setIfInBounds_toArray, List.set_cons_zero, List.set_cons_succ]
                    refine wpAnyT_takeL [] (i := 28) (v := undef) rfl (by kernel_rfl) (by kernel_rfl) (by kernel_rfl) (by kernel_rfl) (fun _ _ _ h => h) (Or.inr ⟨by kernel_rfl, rfl⟩) (by with_reducible assumption) ?_
                    try simp only [Act.put, List.setIfInBounds_toArray, List.set_cons_zero, List.set_cons_succ]
                    refine wpAnyT_takeL [] (i := 29) (v := undef) rfl (by kernel_rfl) (by kernel_rfl) (by kernel_rfl) (by kernel_rfl) (fun _ _ _ h => h) (Or.inr ⟨by kernel_rfl, rfl⟩) (by with_reducible assumption) ?_
                    try simp only [Act.put, List.setIfInBounds_toArray, List.set_cons_zero, List.set_cons_succ]
                    refine wpAnyT_takeL [] (i := 30) (v := undef) rfl (by kernel_rfl) (by kernel_rfl) (by kernel_rfl) (by kernel_rfl) (fun _ _ _ h => h) (Or.inr ⟨by kernel_rfl, rfl⟩) (by with_reducible assumption) ?_
                    try simp only [Act.put, List.setIfInBounds_toArray, List.set_cons_zero, List.set_cons_succ]
                    refine wpAnyT_takeL [] (i := 31) (v := undef) rfl (by kernel_rfl) (by kernel_rfl) (by kernel_rfl) (by kernel_rfl) (fun _ _ _ h => h) (Or.inr ⟨by kernel_rfl, rfl⟩) (by with_reducible assumption) ?_
                    try simp only [Act.put, List.setIfInBounds_toArray, List.set_cons_zero, List.set_cons_succ]
                    refine wpAnyT_takeL [] (i := 32) (v := undef) rfl (by kernel_rfl) (by kernel_rfl) (by kernel_rfl) (by kernel_rfl) (fun _ _ _ h => h) (Or.inr ⟨by kernel_rfl, rfl⟩) (by with_reducible assumption) ?_
                    try simp only [Act.put, List.setIfInBounds_toArray, List.set_cons_zero, List.set_cons_succ]
                    refine wpAnyT_takeL [] (i := 33) (v := undef) rfl (by kernel_rfl) (by kernel_rfl) (by kernel_rfl) (by kernel_rfl) (fun _ _ _ h => h) (Or.inr ⟨by kernel_rfl, rfl⟩) (by with_reducible assumption) ?_
                    try simp only [Act.put, List.setIfInBounds_toArray, List.set_cons_zero, List.set_cons_succ]
                    refine wpAnyT_takeL [] (i := 34) (v := ?_) rfl (by kernel_rfl) (by kernel_rfl) (by kernel_rfl) (by kernel_rfl) (fun _ _ _ h => h) (Or.inl ⟨by kernel_rfl, ?_⟩) (by with_reducible assumption) ?_
                    rotate_left
                    · intro w hSw
                      have z3 := hSw.1.cell 3
                      have y2 := hSw.2.1.cell 2
                      have y3 := hSw.2.1.cell 3
                      have y4 := hSw.2.1.cell 4
                      have x2 := hSw.2.2.cell 2
                      have x3 := hSw.2.2.cell 3
                      have x4 := hSw.2.2.cell 4
                      simp at z3 y2 y3 y4 x2 x3 x4
                      clear hSw
                      go_simp
                      try with_reducible rfl
                    try simp only [Act.put, List.setIfInBounds_toArray, List.set_cons_zero, List.set_cons_succ]
                    refine wpAnyT_done (by kernel_rfl) ?_ _
                    refine NoPanic.normal ?_
                    clear hHeld
                    have HX2 : exB ap (thB seed sh) (rkI seed) (plI seed c) q d = false := by rw [HX.out, decide_eq_false (show ¬ S ≤ sa by have := HLE.out; omega)]; simp
                    have HXF : Hid (exB ap (thB seed sh) (rkI seed) (plI seed c) q d = false) := HX2
                    go_wp2_with fail
                    go_roundw
                    case rel =>
                      exact ⟨n + 1, by omega, by go_num, rfl, fun x y a b => by
                        by_cases hx : x = n
                        · subst hx
                          have e := HDD.out
                          rw [b] at e
                          rw [Option.some.inj e]; exact HXF.out
                        · exact HE.out x y (by omega) b, HI5.out, HD5.out⟩
                    case measure => simp [intOf]; omega
              · obtain rfl : n = L.length := by omega
                have HA2 : ab = false := by
                  rw [HAB.out]
                  exact any_none (fun m d hm => HE.out m d (List.getElem?_eq_some_iff.1 hm).1 hm)
                have HN2 := HN.out
                rw [HA2] at HN2
                have HN3 := Lib.hid HN2
                clear HN2 HA2 HE
                have x3 := HD.out.cell 3
                have x4 := HD.out.cell 4
                simp at x3 x4
                have lx := HD.out.lt
                have G1 : Hid (m0.length + 1 ≤ maxLen) := by unfold maxLen Hid; omega
                have G2 : Hid ((m0.length + 1) * 16 ≤ 140737488355328) := by unfold Hid; omega
                have G3 : Hid (BB2 ≤ (wr.alloc (.cells #[.int .i64 px, .int .i64 py] 36)).heap.size) := by have := HI.out.bz; unfold Hid; simp; omega
                go_wp2_with (at_builtin; refine wpList_append_own _ rfl _ _ 95 rfl BB2 36 i0 (.agg #[.int .i64 0, .int .i64 0]) 2 16 Try.underlying95 hi0 hz0 hz1 hz2 rfl (by decide) _ m0.length (ptsV m0) rfl (HI.out.own.alloc _) ⟨wr.heap.size, 0, none⟩ 1 1 [.int .i64 px, .int .i64 py] rfl rfl (World.news_of_block (cs := #[.int .i64 px, .int .i64 py]) (t := 36) (fr := (0, 0)) (heap_alloc_new wr _)) (by simp [Value.oneCell']) G1.out G2.out G3.out ?_; intro v' w5 hown' hgrow hnil)
                have M5 := Lib.hid (HI.out.app (p := (px, py)) hown' hgrow)
                clear hown' hgrow hnil HI HD x3 x4 lx
                go_wp2_with fail
                go_roundw
                case rel => exact ⟨k + 1, _, by omega, by go_num, rfl, by rw [HN3.out]; exact M5.out⟩
                case measure => simp [intOf]; omega
          · have hib2 : insR X Y P Q (px, py) = false := decide_eq_false hin
            rw [decide_eq_false hin] at KI
            rw [hib2] at HN
            clear hin hib2
            go_wp2_with fail
            refine (KI.out _).mono ?_
            rintro e w3 ⟨rfl, b3⟩
            have HI3 := Lib.hid (HI2.out.call b3)
            clear b3 HI2 HD2 r0 r1 r2 r3 lr x3 x4 lx KI
            go_wp2_with fail
            go_roundw
            case rel => exact ⟨k + 1, _, by omega, by go_num, rfl, by rw [HN.out]; simpa using HI3.out⟩
            case measure => simp [intOf]; omega
        · obtain rfl : k = L.length := by omega
          have I2 := HI.out
          rw [List.take_of_length_le (Nat.le_refl _), HSL.out] at I2
          have hml2 : (scL seed c sh ap X Y P Q).length ≤ 1521 := by rw [← HSL.out]; exact Nat.le_trans (rfL_len _ _ _ _ _ _ _ _ _ _) hml
          have HI2 := Lib.hid I2
          have KS := Lib.hid (sort_places 128 (scL seed c sh ap X Y P Q) BB2 _ wr (by omega) (enters_of Try.func128 (by kernel_rfl) rfl) cmpyx2 I2.own I2.bz)
          clear I2 HI
          go_wp2_with fail
          refine KS.out.mono ?_
          rintro e w9 ⟨rfl, hv, hb⟩
          have HV := Lib.hid hv
          have HB9 := Lib.hid (HI2.out.b.trans (hb.mono (by have := HI2.out.lb; omega)))
          clear hv hb
          go_wp2_with fail
          go_ret
          exact ⟨_, rfl, HV.out, HB9.out⟩
end Go.Proofs.Ytfmbekdfigbfiaa
