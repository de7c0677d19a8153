import Derived.Test.YtgeeaegnohdejaaResample
namespace Go.Proofs.Ytgeeaegnohdejaa
open Go.Shelf
open Go.ChangeShapes Go.WideShapes Go.ChangeAt Go.RowKit
open Ieee.Format (fin finE htE allFin allHt all_true all_false mulF subF addF Ht Bd mixF mix_bd shareF share_facts)
set_option linter.unusedVariables false

set_option maxRecDepth 100000 in
set_option maxHeartbeats 1000000 in
theorem resample_ok (X Y : Int) (Wn Hn : Nat) (b c : Nat) (l : List Nat) (A B : Int) (P Q num den : Nat) (w : World) (hl : SRow w (some ⟨b, 0, none⟩) l) (hr : Right X Y Wn Hn l) (hC : chk A B P Q = 0) (hn1 : 1 ≤ num) (hn2 : num ≤ 64) (hd1 : 1 ≤ den) (hd2 : den ≤ 64) :
    Calls Try.prog 54 #[fldV X Y Wn Hn (some ⟨b, 0, none⟩) l.length c, reg A B P Q, .int .i64 (num : Int), .int .i64 (den : Int)] w fun e w' => OpP (resC (resL X Y Wn Hn l num den A B P Q)) A B P Q ((resL X Y Wn Hn l num den A B P Q).map fun r => r.getD 0) w e w' := by
  have K := Lib.hid (fun w h => check_field X Y Wn Hn (some ⟨b, 0, none⟩) c l w h)
  rw [hr.chk] at K
  have KC := Lib.hid (fun w' => check1 A B P Q w')
  rw [hC] at KC
  obtain ⟨p1, p2, p3, p4, p5, p6, p7, p8, p9⟩ := chk_zero hC
  have HL := Lib.hid hl
  have HR := Lib.hid hr
  have hbl : b < w.heap.size := by
    rcases hl.2 with h | ⟨b', o', e, hc⟩
    · exact absurd h hr.ne
    · obtain ⟨rfl, rfl⟩ : b = b' ∧ 0 = o' := by simpa using e
      have hlen : 0 < l.length := by rw [hr.len]; have := Nat.mul_le_mul hr.h1 hr.w1; omega
      exact World.block_lt_of_cell? _ _ (hc 0 hlen)
  have HBL := Lib.hid hbl
  clear hl hr hC hbl
  go_enter Try.func54, Try.ntmps54
  go_wp2_with fail
  generalize hW0 : ((((w.alloc (.cells #[.int .i64 X, .int .i64 Y, .int .i64 Wn, .int .i64 Hn, .slice (some ⟨b, 0, none⟩) l.length c] /-T-/66)).alloc (.cells #[.int .i64 A, .int .i64 B, .int .i64 (P : Int), .int .i64 (Q : Int)] /-T-/30)).alloc (.cells #[.int .i64 (num : Int)] /-T-/3)).alloc (.cells #[.int .i64 (den : Int)] /-T-/3)).alloc (.cells #[.int .i64 0, .int .i64 0, .int .i64 0, .int .i64 0, .slice none 0 0] /-T-/66) = W0 at *
  obtain ⟨E0, R0, n0, d0, F0, B0, z0⟩ := res_world w X Y Wn Hn A B P Q num den _ W0 hW0.symm
  clear hW0
  refine (K.out _ (HL.out.below B0)).mono ?_
  rintro e w1 ⟨rfl, b1⟩
  have E1 := Lib.hid (E0.below b1 E0.lt)
  have F1 := Lib.hid (F0.below b1 F0.lt)
  have R1 := R0.below b1 R0.lt
  have n1 := (b1.cell (p := ⟨w.heap.size + 1 + 1, 0, none⟩) (by simp; omega)).trans n0
  have d1 := (b1.cell (p := ⟨w.heap.size + 1 + 1 + 1, 0, none⟩) (by simp; omega)).trans d0
  have z1 : W0.heap.size ≤ w1.heap.size := b1.size
  have L1 := Lib.hid ((HL.out.below B0).below b1)
  have B1 := Lib.hid (B0.trans (b1.mono B0.size))
  clear b1 B0 F0 R0 n0 d0 E0 K HL
  have HR1 := Lib.hid R1
  obtain ⟨r0, r1, r2, r3⟩ := R1.cells
  clear R1
  go_wp2_with fail
  refine (KC.out _).mono ?_
  rintro e w2 ⟨rfl, b2⟩
  have F2 := Lib.hid (F1.out.below b2 F1.out.lt)
  have E2 := Lib.hid (E1.out.below b2 E1.out.lt)
  have R2 := HR1.out.below b2 HR1.out.lt
  have n2 := (b2.cell (p := ⟨w.heap.size + 1 + 1, 0, none⟩) (by simp; omega)).trans n1
  have d2 := (b2.cell (p := ⟨w.heap.size + 1 + 1 + 1, 0, none⟩) (by simp; omega)).trans d1
  have z2 : w1.heap.size ≤ w2.heap.size := b2.size
  have L2 := Lib.hid (L1.out.below b2)
  have B2 := Lib.hid (B1.out.trans (b2.mono B1.out.size))
  clear b2 n1 d1 r0 r1 r2 r3 F1 E1 HR1 L1 B1
  obtain ⟨r0, r1, r2, r3⟩ := R2.cells
  clear R2
  have kr2 : w.heap.size + 1 < w2.heap.size := by omega
  have N2 := Lib.hid n2
  have D2 := Lib.hid d2
  go_wp2_with fail
  generalize hW3 : w2.alloc (.cells #[.bool true] /-T-/4) = W3 at *
  have b3 : Below w2.heap.size w2 W3 := by subst hW3; exact (by repeat (first | with_reducible exact Below.refl _ _ | with_reducible apply Below.drew | with_reducible refine below_drewN ?_ _ | (with_reducible refine Below.setCell ?_ ?_ _; rotate_left; focus (first | omega | (simp <;> omega))) | (with_reducible refine Below.alloc ?_ ?_ _; rotate_left; focus (first | omega | (simp <;> omega)))))
  have z3 : W3.heap.size = w2.heap.size + 1 := by subst hW3; simp
  have ok3 : W3.heap[w2.heap.size]? = some (.cells #[.bool true] /-T-/4 (0, 0)) := by subst hW3; exact heap_alloc_new w2 _
  have J0 : ResJ W3.heap.size w.heap.size (w.heap.size + 1 + 1) (w.heap.size + 1 + 1 + 1) w2.heap.size b c X Y Wn Hn l num den true W3 := by
    have := HBL.out
    exact ⟨E2.out.below b3 E2.out.lt, (b3.cell (p := ⟨w.heap.size + 1 + 1, 0, none⟩) (by simp; omega)).trans N2.out, (b3.cell (p := ⟨w.heap.size + 1 + 1 + 1, 0, none⟩) (by simp; omega)).trans D2.out, ok3, L2.out.below b3, ⟨by omega, by omega, by omega, by omega, by omega⟩, ⟨by omega, by omega, by omega, by omega⟩, Nat.le_refl _⟩
  have HJ0 := Lib.hid J0
  have F3 := Lib.hid (F2.out.below b3 F2.out.lt)
  have HB3 := Lib.hid (B2.out.trans (b3.mono B2.out.size))
  clear hW3 b3 ok3 J0 F2 E2 L2 B2 N2 D2 n2 d2 r0 r1 r2 r3
  have HV := Lib.hid (fun x y => resV_lt (X := X) (Y := Y) (Wn := Wn) (Hn := Hn) (l := l) (num := num) (den := den) HJ0.out.row.1.2 x y)
  have HM := Lib.hid (resL_map X Y Wn Hn l num den A B P Q (fun r => r.getD 0))
  refine (make_st 108 #[.pointer (some ⟨w.heap.size + 1 + 1, 0, none⟩), .pointer (some ⟨w.heap.size + 1 + 1 + 1, 0, none⟩), .pointer (some ⟨w.heap.size, 0, none⟩), .pointer (some ⟨w2.heap.size, 0, none⟩)] (fun k => k = w2.heap.size) (fun n => ResJ W3.heap.size w.heap.size (w.heap.size + 1 + 1) (w.heap.size + 1 + 1 + 1) w2.heap.size b c X Y Wn Hn l num den ((placesL (resV X Y Wn Hn l num den) A B P n).all fun r => r.isSome)) (fun x y => (resV X Y Wn Hn l num den x y).getD 0) A B P Q W3 (by omega) (by omega) (by omega) (by omega) (by omega) (by omega) (by omega) (by omega) (enters_of Try.func108 (by kernel_rfl) rfl) (fun k hk => by omega) HJ0.out (fun n W W' hz hj hb => hj.under hb) (fun x y _ _ _ _ => HV.out x y) ?_).mono ?_
  · intro i j hi hj W' hbut hJ
    refine (resfn_any (A + (i : Int)) (B + (j : Int)) W' hJ HR.out hn1 hn2 hd1 hd2 (by omega) (by omega) (by omega) (by omega)).mono ?_
    rintro e w' ⟨h1, h2, h3⟩
    refine ⟨h1, h2, ?_⟩
    rw [placesL_succ _ _ _ _ _ _ hi, List.all_append]
    simpa using h3
  rintro e w4 ⟨⟨g, cap, rfl, ho⟩, hbut, hJ⟩
  rw [HM.out] at ho ⊢
  have hLL : Hid (placesL (resV X Y Wn Hn l num den) A B P (Q * P) = resL X Y Wn Hn l num den A B P Q) := rfl
  rw [hLL.out] at hJ
  have hml : ((resL X Y Wn Hn l num den A B P Q).map fun r => r.getD 0).length = Q * P := by unfold resL placesL; simp
  have hqp : Q * P ≤ 262144 := by have := Nat.mul_le_mul (show Q ≤ 512 by omega) (show P ≤ 512 by omega); omega
  generalize hLq : resL X Y Wn Hn l num den A B P Q = L at *
  have HLQ := Lib.hid hLq
  clear hLq
  have z4 : W3.heap.size ≤ w4.heap.size := hbut.size
  have F4 : Hid (Fld w4 (w.heap.size + 1 + 1 + 1 + 1) 0 0 0 0 (.slice none 0 0)) := (hbut.block _ (by omega) (by omega)).trans F3.out
  have B4 := Lib.hid (HB3.out.trans (hbut.low (B' := w.heap.size) (by omega) (fun k hk => by omega)))
  have hok := hJ.cellok.1
  have HG := Lib.hid ho.lt
  have HO4 := Lib.hid (ho.base (show w.heap.size ≤ W3.heap.size by omega))
  generalize hmm : (L.map fun r => r.getD 0) = m at *
  have HMM := Lib.hid hmm
  have hmz : m.length ≤ 1099511627776 := by omega
  clear hmm ho hbut hJ HJ0 F3 HB3 HV HM hLL hml hqp HBL HR
  generalize hbb : (L.all fun r => r.isSome) = okb at *
  have HBB := Lib.hid hbb
  clear hbb
  have kz4 : w.heap.size + 1 + 1 + 1 + 1 < w4.heap.size := F4.out.lt
  have ko4 : w2.heap.size < w4.heap.size := by omega
  have gk4 : Hid (W3.heap.size ≤ g) := HG.out.1
  have hz43 : Hid (w.heap.size + 5 < W3.heap.size) := by unfold Hid; omega
  obtain ⟨g0, g1, g2, g3, g4⟩ := F4.out.cells
  have hF4 := F4.out
  have qf0 := hF4.frozen 0
  have qf1 := hF4.frozen 1
  have qf2 := hF4.frozen 2
  have qf3 := hF4.frozen 3
  have qf4 := hF4.frozen 4
  clear hF4
  cases okb with
  | false =>
    have hc : resC L = 5 := by unfold resC; rw [HBB.out]; rfl
    have HC := Lib.hid hc
    clear hc
    go_wp2_with fail
    have hB := B4.out
    refine bodyPost_ret (v := .tuple #[fldV 0 0 0 0 none 0 0, .int .i64 5]) (by simp [results, Try.results54, go_sem, *]) rfl ?_
    rw [HLQ.out, HC.out]
    exact OpP.err (by decide) rfl (by have hszz := hB.size; repeat (first | with_reducible exact hB | with_reducible apply Below.drew | with_reducible refine below_drewN ?_ _ | (with_reducible refine Below.setCell ?_ ?_ _; rotate_left; focus (first | omega | (simp <;> omega))) | (with_reducible refine Below.alloc ?_ ?_ _; rotate_left; focus (first | omega | (simp <;> omega)))))
  | true =>
    cases hh : allHt m with
    | false =>
      have hc : resC L = 3 := by unfold resC; rw [HBB.out, HMM.out, hh]; rfl
      have HC := Lib.hid hc
      have HH := Lib.hid hh
      clear hc hh
      go_wp2_with fail
      generalize hW5 : w4.alloc (.cells #[.int .i64 A, .int .i64 B, .int .i64 P, .int .i64 Q, .slice (some ⟨g, 0, none⟩) m.length cap] /-T-/66) = W5 at *
      have b5 : Below w4.heap.size w4 W5 := by subst hW5; exact (by repeat (first | with_reducible exact Below.refl _ _ | with_reducible apply Below.drew | with_reducible refine below_drewN ?_ _ | (with_reducible refine Below.setCell ?_ ?_ _; rotate_left; focus (first | omega | (simp <;> omega))) | (with_reducible refine Below.alloc ?_ ?_ _; rotate_left; focus (first | omega | (simp <;> omega)))))
      have O5 : OwnF W5 w.heap.size g cap m := by subst hW5; exact HO4.out.alloc _
      have F5 := F4.out.below b5 F4.out.lt
      have HB5 := Lib.hid (B4.out.trans (b5.mono (by omega)))
      clear hW5 b5 g0 g1 g2 g3 g4 qf0 qf1 qf2 qf3 qf4 hok
      refine (result_no A B P Q g 0 cap m W5 (O5.row hmz) HH.out).mono ?_
      rintro e w6 ⟨rfl, b6⟩
      have F6 := F5.below b6 F5.lt
      have HB6 := Lib.hid (HB5.out.trans (b6.mono HB5.out.size))
      clear b6 F5 O5
      obtain ⟨g0, g1, g2, g3, g4⟩ := F6.cells
      have qf0 := F6.frozen 0
      have qf1 := F6.frozen 1
      have qf2 := F6.frozen 2
      have qf3 := F6.frozen 3
      have qf4 := F6.frozen 4
      have kz6 := F6.lt
      go_wp2_with fail
      have hB := HB6.out
      refine bodyPost_ret (v := .tuple #[fldV 0 0 0 0 none 0 0, .int .i64 3]) (by simp [results, Try.results54, go_sem, *]) rfl ?_
      rw [HLQ.out, HC.out]
      exact OpP.err (by decide) rfl (by have hszz := hB.size; repeat (first | with_reducible exact hB | with_reducible apply Below.drew | with_reducible refine below_drewN ?_ _ | (with_reducible refine Below.setCell ?_ ?_ _; rotate_left; focus (first | omega | (simp <;> omega))) | (with_reducible refine Below.alloc ?_ ?_ _; rotate_left; focus (first | omega | (simp <;> omega)))))
    | true =>
      have hc : resC L = 0 := by unfold resC; rw [HBB.out, HMM.out, hh]; rfl
      have HC := Lib.hid hc
      have HH := Lib.hid hh
      clear hc hh
      go_wp2_with fail
      generalize hW5 : w4.alloc (.cells #[.int .i64 A, .int .i64 B, .int .i64 P, .int .i64 Q, .slice (some ⟨g, 0, none⟩) m.length cap] /-T-/66) = W5 at *
      have b5 : Below w4.heap.size w4 W5 := by subst hW5; exact (by repeat (first | with_reducible exact Below.refl _ _ | with_reducible apply Below.drew | with_reducible refine below_drewN ?_ _ | (with_reducible refine Below.setCell ?_ ?_ _; rotate_left; focus (first | omega | (simp <;> omega))) | (with_reducible refine Below.alloc ?_ ?_ _; rotate_left; focus (first | omega | (simp <;> omega)))))
      have O5 : OwnF W5 w.heap.size g cap m := by subst hW5; exact HO4.out.alloc _
      have F5 := F4.out.below b5 F4.out.lt
      have HB5 := Lib.hid (B4.out.trans (b5.mono (by omega)))
      have zz5 : w4.heap.size ≤ W5.heap.size := b5.size
      clear hW5 b5 g0 g1 g2 g3 g4 qf0 qf1 qf2 qf3 qf4 hok
      refine (result_ok A B P Q g 0 cap m W5 (O5.row hmz) ?_).mono ?_
      · intro j hj
        have := Ieee.Format.allHt_iff.1 HH.out (m.getD j 0) (by rw [List.getD_eq_getElem?_getD, List.getElem?_eq_getElem hj]; exact List.getElem_mem hj)
        exact this
      rintro e w6 ⟨rfl, b6⟩
      have F6 := F5.below b6 F5.lt
      have O6 := Lib.hid (O5.below b6 O5.lt.2)
      have HB6 := Lib.hid (HB5.out.trans (b6.mono HB5.out.size))
      clear b6 F5 O5
      obtain ⟨g0, g1, g2, g3, g4⟩ := F6.cells
      have qf0 := F6.frozen 0
      have qf1 := F6.frozen 1
      have qf2 := F6.frozen 2
      have qf3 := F6.frozen 3
      have qf4 := F6.frozen 4
      have kz6 := F6.lt
      go_wp2_with fail
      have hB := HB6.out
      have hO := O6.out
      have e1 := gk4.out
      have e2 := hz43.out
      refine bodyPost_ret (v := .tuple #[fldV A B P Q (some ⟨g, 0, none⟩) m.length cap, .int .i64 0]) (by simp [results, Try.results54, go_sem, *]) rfl ?_
      rw [HLQ.out, HC.out, HMM.out]
      exact ⟨⟨_, _, _, _, _, _, _, rfl, .inr ⟨rfl, rfl, rfl, rfl, rfl, g, rfl, rfl, (by have hgg := hO.lt; repeat (first | with_reducible exact hO | with_reducible refine OwnF.drew ?_ | with_reducible refine OwnF.drewN ?_ _ | (with_reducible refine OwnF.setCell ?_ ?_ _; rotate_left; focus (first | omega | (simp <;> omega))) | with_reducible refine OwnF.alloc ?_ _))⟩⟩, (by have hszz := hB.size; repeat (first | with_reducible exact hB | with_reducible apply Below.drew | with_reducible refine below_drewN ?_ _ | (with_reducible refine Below.setCell ?_ ?_ _; rotate_left; focus (first | omega | (simp <;> omega))) | (with_reducible refine Below.alloc ?_ ?_ _; rotate_left; focus (first | omega | (simp <;> omega)))))⟩
end Go.Proofs.Ytgeeaegnohdejaa
