import Derived.Test.YtgeeaegnohdejaaResampleOk
namespace Go.Proofs.Ytgeeaegnohdejaa
open Go.Shelf
open Go.ChangeShapes Go.WideShapes Go.ChangeAt Go.RowKit
open Ieee.Format (fin finE htE allFin allHt all_true all_false mulF subF addF Ht Bd mixF mix_bd shareF share_facts)
set_option linter.unusedVariables false

set_option maxRecDepth 100000 in
/-- a bad region, or a bad ratio -/
theorem refresample_bad (X Y : Int) (Wn Hn : Nat) (b c : Nat) (l : List Nat) (A B P Q n d : Int) (w : World) (hl : SRow w (some ⟨b, 0, none⟩) l) (hr : Right X Y Wn Hn l) (C : Int) (hC : chk A B P Q = C ∧ C ≠ 0 ∨ chk A B P Q = 0 ∧ C = 3 ∧ (n < 1 ∨ 64 < n ∨ d < 1 ∨ 64 < d)) :
    Calls Try.prog 55 #[fldV X Y Wn Hn (some ⟨b, 0, none⟩) l.length c, reg A B P Q, .int .i64 n, .int .i64 d] w fun e w' => e = .returned (.tuple #[fldV 0 0 0 0 none 0 0, .int .i64 C]) ∧ Below w.heap.size w w' := by
  have KC := Lib.hid (fun w' => check2 A B P Q w')
  have HC := Lib.hid hC
  clear hl hr hC
  generalize chk A B P Q = E at *
  go_enter Try.func55, Try.ntmps55
  go_wp2_with fail
  generalize hW0 : ((((w.alloc (.cells #[.int .i64 X, .int .i64 Y, .int .i64 Wn, .int .i64 Hn, .slice (some ⟨b, 0, none⟩) l.length c] /-T-/66)).alloc (.cells #[.int .i64 A, .int .i64 B, .int .i64 P, .int .i64 Q] /-T-/30)).alloc (.cells #[.int .i64 n] /-T-/3)).alloc (.cells #[.int .i64 d] /-T-/3)).alloc (.cells #[.int .i64 0, .int .i64 0, .int .i64 0, .int .i64 0, .slice none 0 0] /-T-/66) = W0 at *
  obtain ⟨_, R0, n0, d0, F0, B0, z0⟩ := res_world w X Y Wn Hn A B P Q n d _ W0 hW0.symm
  clear hW0
  have B1 := Lib.hid B0
  have HF1 := Lib.hid F0
  have n1 := n0
  have d1 := d0
  have R1 := R0
  clear B0 F0 R0 n0 d0
  obtain ⟨w1, hw1⟩ : ∃ w1, w1 = W0 := ⟨_, rfl⟩
  rw [← hw1] at B1 HF1 n1 d1 R1 z0 ⊢
  clear hw1
  obtain ⟨r0, r1, r2, r3⟩ := R1.cells
  clear R1
  go_wp2_with fail
  refine (KC.out _).mono ?_
  rintro e w2 ⟨rfl, b2⟩
  have F2 := HF1.out.below b2 HF1.out.lt
  have l2 := F2.lt
  have n2 := (b2.cell (p := ⟨w.heap.size + 1 + 1, 0, none⟩) (by simp; omega)).trans n1
  have d2 := (b2.cell (p := ⟨w.heap.size + 1 + 1 + 1, 0, none⟩) (by simp; omega)).trans d1
  have B2 := Lib.hid (B1.out.trans (b2.mono B1.out.size))
  clear b2 n1 d1 r0 r1 r2 r3 HF1
  obtain ⟨g0, g1, g2, g3, g4⟩ := F2.cells
  have qf0 := F2.frozen 0
  have qf1 := F2.frozen 1
  have qf2 := F2.frozen 2
  have qf3 := F2.frozen 3
  have qf4 := F2.frozen 4
  clear F2
  rcases HC.out with ⟨hE, hC⟩ | ⟨rfl, rfl, h⟩
  · obtain rfl := hE
    have hbn : (E != 0) = true := by rw [bne_iff_ne]; exact hC
    go_wp2_with fail
    have hB := B2.out
    exact bodyPost_ret (v := .tuple #[fldV 0 0 0 0 none 0 0, .int .i64 E]) (by simp [results, Try.results55, go_sem, *]) rfl ⟨rfl, (by have hszz := hB.size; repeat (first | with_reducible exact hB | with_reducible apply Below.drew | with_reducible refine below_drewN ?_ _ | (with_reducible refine Below.setCell ?_ ?_ _; rotate_left; focus (first | omega | (simp <;> omega))) | (with_reducible refine Below.alloc ?_ ?_ _; rotate_left; focus (first | omega | (simp <;> omega)))))⟩
  · have HH := Lib.hid h
    clear h
    by_cases h1 : n < 1
    · go_wp2_with fail
      have hB := B2.out
      exact bodyPost_ret (v := .tuple #[fldV 0 0 0 0 none 0 0, .int .i64 3]) (by simp [results, Try.results55, go_sem, *]) rfl ⟨rfl, (by have hszz := hB.size; repeat (first | with_reducible exact hB | with_reducible apply Below.drew | with_reducible refine below_drewN ?_ _ | (with_reducible refine Below.setCell ?_ ?_ _; rotate_left; focus (first | omega | (simp <;> omega))) | (with_reducible refine Below.alloc ?_ ?_ _; rotate_left; focus (first | omega | (simp <;> omega)))))⟩
    · by_cases h2 : 64 < n
      · go_wp2_with fail
        have hB := B2.out
        exact bodyPost_ret (v := .tuple #[fldV 0 0 0 0 none 0 0, .int .i64 3]) (by simp [results, Try.results55, go_sem, *]) rfl ⟨rfl, (by have hszz := hB.size; repeat (first | with_reducible exact hB | with_reducible apply Below.drew | with_reducible refine below_drewN ?_ _ | (with_reducible refine Below.setCell ?_ ?_ _; rotate_left; focus (first | omega | (simp <;> omega))) | (with_reducible refine Below.alloc ?_ ?_ _; rotate_left; focus (first | omega | (simp <;> omega)))))⟩
      · by_cases h3 : d < 1
        · go_wp2_with fail
          have hB := B2.out
          exact bodyPost_ret (v := .tuple #[fldV 0 0 0 0 none 0 0, .int .i64 3]) (by simp [results, Try.results55, go_sem, *]) rfl ⟨rfl, (by have hszz := hB.size; repeat (first | with_reducible exact hB | with_reducible apply Below.drew | with_reducible refine below_drewN ?_ _ | (with_reducible refine Below.setCell ?_ ?_ _; rotate_left; focus (first | omega | (simp <;> omega))) | (with_reducible refine Below.alloc ?_ ?_ _; rotate_left; focus (first | omega | (simp <;> omega)))))⟩
        · have h4 : 64 < d := by have := HH.out; omega
          go_wp2_with fail
          have hB := B2.out
          exact bodyPost_ret (v := .tuple #[fldV 0 0 0 0 none 0 0, .int .i64 3]) (by simp [results, Try.results55, go_sem, *]) rfl ⟨rfl, (by have hszz := hB.size; repeat (first | with_reducible exact hB | with_reducible apply Below.drew | with_reducible refine below_drewN ?_ _ | (with_reducible refine Below.setCell ?_ ?_ _; rotate_left; focus (first | omega | (simp <;> omega))) | (with_reducible refine Below.alloc ?_ ?_ _; rotate_left; focus (first | omega | (simp <;> omega)))))⟩
set_option maxRecDepth 100000 in
set_option maxHeartbeats 1000000 in
theorem refresample_ok (X Y : Int) (Wn Hn : Nat) (b c : Nat) (l : List Nat) (A B : Int) (P Q num den : Nat) (w : World) (hl : SRow w (some ⟨b, 0, none⟩) l) (hr : Right X Y Wn Hn l) (hC : chk A B P Q = 0) (hn1 : 1 ≤ num) (hn2 : num ≤ 64) (hd1 : 1 ≤ den) (hd2 : den ≤ 64) :
    Calls Try.prog 55 #[fldV X Y Wn Hn (some ⟨b, 0, none⟩) l.length c, reg A B P Q, .int .i64 (num : Int), .int .i64 (den : Int)] w fun e w' => OpP (resC (resL X Y Wn Hn l num den A B P Q)) A B P Q ((resL X Y Wn Hn l num den A B P Q).map fun r => r.getD 0) w e w' := by
  have KC := Lib.hid (fun w' => check2 A B P Q w')
  rw [hC] at KC
  obtain ⟨p1, p2, p3, p4, p5, p6, p7, p8, p9⟩ := chk_zero hC
  have HL := Lib.hid hl
  have HR := Lib.hid hr
  have hbl : b < w.heap.size := by
    rcases hl.2 with h | ⟨b', o', e, hc⟩
    · exact absurd h hr.ne
    · obtain ⟨rfl, rfl⟩ : b = b' ∧ 0 = o' := by simpa using e
      have hlen : 0 < l.length := by rw [hr.len]; have := Nat.mul_le_mul hr.h1 hr.w1; omega
      exact World.block_lt_of_cell? _ _ (hc 0 hlen)
  have HBL := Lib.hid hbl
  clear hl hr hC hbl
  go_enter Try.func55, Try.ntmps55
  go_wp2_with fail
  generalize hW0 : ((((w.alloc (.cells #[.int .i64 X, .int .i64 Y, .int .i64 Wn, .int .i64 Hn, .slice (some ⟨b, 0, none⟩) l.length c] /-T-/66)).alloc (.cells #[.int .i64 A, .int .i64 B, .int .i64 (P : Int), .int .i64 (Q : Int)] /-T-/30)).alloc (.cells #[.int .i64 (num : Int)] /-T-/3)).alloc (.cells #[.int .i64 (den : Int)] /-T-/3)).alloc (.cells #[.int .i64 0, .int .i64 0, .int .i64 0, .int .i64 0, .slice none 0 0] /-T-/66) = W0 at *
  obtain ⟨E0, R0, n0, d0, F0, B0, z0⟩ := res_world w X Y Wn Hn A B P Q num den _ W0 hW0.symm
  clear hW0
  have E1 := Lib.hid E0
  have F1 := Lib.hid F0
  have R1 := R0
  have n1 := n0
  have d1 := d0
  have L1 := Lib.hid (HL.out.below B0)
  have B1 := Lib.hid B0
  clear B0 F0 R0 n0 d0 E0 HL
  obtain ⟨w1, hw1⟩ : ∃ w1, w1 = W0 := ⟨_, rfl⟩
  rw [← hw1] at E1 F1 R1 n1 d1 L1 B1 z0 ⊢
  have z1 : W0.heap.size ≤ w1.heap.size := by rw [hw1]; exact Nat.le_refl _
  rw [← hw1] at z1
  clear hw1
  have HR1 := Lib.hid R1
  obtain ⟨r0, r1, r2, r3⟩ := R1.cells
  clear R1
  go_wp2_with fail
  refine (KC.out _).mono ?_
  rintro e w2 ⟨rfl, b2⟩
  have F2 := Lib.hid (F1.out.below b2 F1.out.lt)
  have E2 := Lib.hid (E1.out.below b2 E1.out.lt)
  have R2 := HR1.out.below b2 HR1.out.lt
  have n2 := (b2.cell (p := ⟨w.heap.size + 1 + 1, 0, none⟩) (by simp; omega)).trans n1
  have d2 := (b2.cell (p := ⟨w.heap.size + 1 + 1 + 1, 0, none⟩) (by simp; omega)).trans d1
  have z2 : w1.heap.size ≤ w2.heap.size := b2.size
  have L2 := Lib.hid (L1.out.below b2)
  have B2 := Lib.hid (B1.out.trans (b2.mono B1.out.size))
  clear b2 n1 d1 r0 r1 r2 r3 F1 E1 HR1 L1 B1
  obtain ⟨r0, r1, r2, r3⟩ := R2.cells
  clear R2
  have kr2 : w.heap.size + 1 < w2.heap.size := by omega
  have kr3 : w.heap.size < w2.heap.size := by omega
  have N2 := Lib.hid n2
  have D2 := Lib.hid d2
  go_wp2_with fail
  generalize hW3 : (w2.alloc (.cells #[.bool false] /-T-/4)).alloc (.cells #[.bool false] /-T-/4) = W3 at *
  have b3 : Below w2.heap.size w2 W3 := by subst hW3; exact (by repeat (first | with_reducible exact Below.refl _ _ | with_reducible apply Below.drew | with_reducible refine below_drewN ?_ _ | (with_reducible refine Below.setCell ?_ ?_ _; rotate_left; focus (first | omega | (simp <;> omega))) | (with_reducible refine Below.alloc ?_ ?_ _; rotate_left; focus (first | omega | (simp <;> omega)))))
  have z3 : W3.heap.size = w2.heap.size + 2 := by subst hW3; simp
  have ok3 : W3.heap[w2.heap.size]? = some (.cells #[.bool false] /-T-/4 (0, 0)) := by subst hW3; exact (Below.heap_alloc _ _ _ (by simp)).trans (heap_alloc_new w2 _)
  have kw3 : W3.heap[w2.heap.size + 1]? = some (.cells #[.bool false] /-T-/4 (0, 0)) := by
    subst hW3
    have := heap_alloc_new (w2.alloc (.cells #[.bool false] /-T-/4)) (.cells #[.bool false] /-T-/4)
    simpa using this
  have J0 : ResK W3.heap.size w.heap.size (w.heap.size + 1 + 1) (w.heap.size + 1 + 1 + 1) w2.heap.size (w2.heap.size + 1) b c X Y Wn Hn l num den false false W3 := by
    have := HBL.out
    exact ⟨⟨E2.out.below b3 E2.out.lt, (b3.cell (p := ⟨w.heap.size + 1 + 1, 0, none⟩) (by simp; omega)).trans N2.out, (b3.cell (p := ⟨w.heap.size + 1 + 1 + 1, 0, none⟩) (by simp; omega)).trans D2.out, ok3, L2.out.below b3, ⟨by omega, by omega, by omega, by omega, by omega⟩, ⟨by omega, by omega, by omega, by omega⟩, Nat.le_refl _⟩, kw3, by omega, by omega, by omega, by omega, by omega, by omega⟩
  have HJ0 := Lib.hid J0
  have F3 := Lib.hid (F2.out.below b3 F2.out.lt)
  have HB3 := Lib.hid (B2.out.trans (b3.mono B2.out.size))
  clear hW3 b3 ok3 kw3 J0 F2 E2 L2 B2 N2 D2 n2 d2 r0 r1 r2 r3
  have HV : Hid (∀ x y, resF (resV X Y Wn Hn l num den x y) < 4294967296) := fun x y => by
    unfold resF
    split
    · exact resV_lt HJ0.out.1.row.1.2 x y
    · decide
  have HM := Lib.hid (resL_map X Y Wn Hn l num den A B P Q resF)
  refine (made_st 111 #[.pointer (some ⟨w.heap.size + 1 + 1, 0, none⟩), .pointer (some ⟨w.heap.size + 1 + 1 + 1, 0, none⟩), .pointer (some ⟨w.heap.size, 0, none⟩), .pointer (some ⟨w2.heap.size, 0, none⟩), .pointer (some ⟨w2.heap.size + 1, 0, none⟩)] (fun k => k = w2.heap.size ∨ k = w2.heap.size + 1) (fun n => ResK W3.heap.size w.heap.size (w.heap.size + 1 + 1) (w.heap.size + 1 + 1 + 1) w2.heap.size (w2.heap.size + 1) b c X Y Wn Hn l num den ((placesL (resV X Y Wn Hn l num den) A B P n).any fun r => decide (bilC r = 5)) ((placesL (resV X Y Wn Hn l num den) A B P n).any fun r => decide (bilC r = 3))) (fun x y => resF (resV X Y Wn Hn l num den x y)) A B P Q W3 (by omega) (by omega) (by omega) (by omega) (by omega) (by omega) (by omega) (by omega) (enters_of Try.func111 (by kernel_rfl) rfl) (fun k hk => by omega) HJ0.out (fun n W W' hz hj hb => hj.under hb) (fun x y _ _ _ _ => HV.out x y) ?_).mono ?_
  · intro i j hi hj W' hbut hJ
    refine (refresfn_any (A + (i : Int)) (B + (j : Int)) W' hJ HR.out hn1 hn2 hd1 hd2 (by omega) (by omega) (by omega) (by omega)).mono ?_
    rintro e w' ⟨h1, h2, h3⟩
    refine ⟨h1, h2, ?_⟩
    rw [placesL_succ _ _ _ _ _ _ hi, List.any_append, List.any_append]
    simpa using h3
  rintro e w4 ⟨h1, _, hbut, hJ⟩
  rw [HM.out] at h1
  have hLL : Hid (placesL (resV X Y Wn Hn l num den) A B P (Q * P) = resL X Y Wn Hn l num den A B P Q) := rfl
  rw [hLL.out] at hJ
  have hml : (resL X Y Wn Hn l num den A B P Q).length = Q * P := by unfold resL placesL; simp
  generalize hLq : resL X Y Wn Hn l num den A B P Q = L at *
  have HLQ := Lib.hid hLq
  clear hLq
  obtain ⟨c5, c3', c0', co⟩ := codes L
  have H5 := Lib.hid c5
  have H3 := Lib.hid c3'
  have H0 := Lib.hid c0'
  obtain ⟨g, cap, rfl, ho⟩ := h1 co
  clear c5 c3' c0' co h1
  have z4 : W3.heap.size ≤ w4.heap.size := hbut.size
  have F4 : Hid (Fld w4 (w.heap.size + 1 + 1 + 1 + 1) 0 0 0 0 (.slice none 0 0)) := (hbut.block _ (by omega) (by omega)).trans F3.out
  have B4 := Lib.hid (HB3.out.trans (hbut.low (B' := w.heap.size) (by omega) (fun k hk => by omega)))
  have hok := hJ.1.cellok.1
  have hwk := hJ.cellw.1
  have HG := Lib.hid ho.lt
  have HO4 := Lib.hid (ho.base (show w.heap.size ≤ W3.heap.size by omega))
  generalize hmm : L.map resF = m at *
  have HMM := Lib.hid hmm
  clear hmm ho hbut hJ HJ0 F3 HB3 HV HM hLL hml HBL HR
  have kz4 : w.heap.size + 1 + 1 + 1 + 1 < w4.heap.size := F4.out.lt
  have ko4 : w2.heap.size < w4.heap.size := by omega
  have kw4 : w2.heap.size + 1 < w4.heap.size := by omega
  have gk4 : Hid (W3.heap.size ≤ g) := HG.out.1
  have hz43 : Hid (w.heap.size + 5 < W3.heap.size) := by unfold Hid; omega
  obtain ⟨g0, g1, g2, g3, g4⟩ := F4.out.cells
  have hF4 := F4.out
  have qf0 := hF4.frozen 0
  have qf1 := hF4.frozen 1
  have qf2 := hF4.frozen 2
  have qf3 := hF4.frozen 3
  have qf4 := hF4.frozen 4
  clear hF4
  generalize h5b : (L.any fun r => decide (bilC r = 5)) = b5 at *
  generalize h3b : (L.any fun r => decide (bilC r = 3)) = b3 at *
  have Q5 := Lib.hid h5b
  have Q3 := Lib.hid h3b
  clear h5b h3b
  cases b5 with
  | true =>
    have HC : Hid (resC L = 5) := H5.out rfl
    clear H5 H3 H0
    go_wp2_with fail
    have hB := B4.out
    refine bodyPost_ret (v := .tuple #[fldV 0 0 0 0 none 0 0, .int .i64 5]) (by simp [results, Try.results55, go_sem, *]) rfl ?_
    rw [HLQ.out, HC.out]
    exact OpP.err (by decide) rfl (by have hszz := hB.size; repeat (first | with_reducible exact hB | with_reducible apply Below.drew | with_reducible refine below_drewN ?_ _ | (with_reducible refine Below.setCell ?_ ?_ _; rotate_left; focus (first | omega | (simp <;> omega))) | (with_reducible refine Below.alloc ?_ ?_ _; rotate_left; focus (first | omega | (simp <;> omega)))))
  | false =>
    cases b3 with
    | true =>
      have HC : Hid (resC L = 3) := H3.out rfl rfl
      clear H5 H3 H0
      go_wp2_with fail
      have hB := B4.out
      refine bodyPost_ret (v := .tuple #[fldV 0 0 0 0 none 0 0, .int .i64 3]) (by simp [results, Try.results55, go_sem, *]) rfl ?_
      rw [HLQ.out, HC.out]
      exact OpP.err (by decide) rfl (by have hszz := hB.size; repeat (first | with_reducible exact hB | with_reducible apply Below.drew | with_reducible refine below_drewN ?_ _ | (with_reducible refine Below.setCell ?_ ?_ _; rotate_left; focus (first | omega | (simp <;> omega))) | (with_reducible refine Below.alloc ?_ ?_ _; rotate_left; focus (first | omega | (simp <;> omega)))))
    | false =>
      obtain ⟨hc, hmm⟩ := H0.out rfl rfl
      have HC := Lib.hid hc
      have HME := Lib.hid hmm
      clear hc hmm H5 H3 H0
      go_wp2_with fail
      have hB := B4.out
      have hO := HO4.out
      have e1 := gk4.out
      have e2 := hz43.out
      refine bodyPost_ret (v := .tuple #[fldV A B P Q (some ⟨g, 0, none⟩) m.length cap, .int .i64 0]) (by simp [results, Try.results55, go_sem, *]) rfl ?_
      rw [HLQ.out, HC.out, ← HME.out]
      exact ⟨⟨_, _, _, _, _, _, _, rfl, .inr ⟨rfl, rfl, rfl, rfl, rfl, g, rfl, rfl, (by have hgg := hO.lt; repeat (first | with_reducible exact hO | with_reducible refine OwnF.drew ?_ | with_reducible refine OwnF.drewN ?_ _ | (with_reducible refine OwnF.setCell ?_ ?_ _; rotate_left; focus (first | omega | (simp <;> omega))) | with_reducible refine OwnF.alloc ?_ _))⟩⟩, (by have hszz := hB.size; repeat (first | with_reducible exact hB | with_reducible apply Below.drew | with_reducible refine below_drewN ?_ _ | (with_reducible refine Below.setCell ?_ ?_ _; rotate_left; focus (first | omega | (simp <;> omega))) | (with_reducible refine Below.alloc ?_ ?_ _; rotate_left; focus (first | omega | (simp <;> omega)))))⟩
end Go.Proofs.Ytgeeaegnohdejaa
