import Derived.Test.YtkmcinibaffpmaaSumOp2
import Derived.Test.YtkmcinibaffpmaaWithinFn
namespace Go.Proofs.Ytkmcinibaffpmaa
open Go.ChangeShapes Go.WideShapes Go.ChangeAt Go.RowKit
open Ieee.Format (fin finE htE allFin allHt all_true all_false mulF subF addF Ht Bd divF rootF floorF easeF mixF)
set_option linter.unusedVariables false
open Wide
open Ieee.Format (rowsF rowsF_one rows_ok pairsF pairs_ok keptF kept_off Hn Off within_of zi zi_bd magZ magZ_bd sumZ addF_lt subF_lt P2_20 P2_30)

theorem least_pow (n : Nat) : ∀ m, n ≤ 2 ^ m → ∃ k, k ≤ m ∧ n ≤ 2 ^ k ∧ ∀ j, j < k → 2 ^ j < n
  | 0, h => ⟨0, Nat.le_refl _, h, fun j hj => absurd hj (by omega)⟩
  | m + 1, h => by
    by_cases c : n ≤ 2 ^ m
    · obtain ⟨k, h1, h2, h3⟩ := least_pow n m c
      exact ⟨k, by omega, h2, h3⟩
    · exact ⟨m + 1, Nat.le_refl _, h, fun j hj => by
        have : 2 ^ j ≤ 2 ^ m := Nat.pow_le_pow_right (by omega) (by omega)
        omega⟩
theorem foldl_lt : ∀ (t : List Nat) (x : Nat), x < 4294967296 → t.foldl addF x < 4294967296
  | [], _, h => h
  | y :: t, x, _ => by rw [List.foldl_cons]; exact foldl_lt t _ (addF_lt _ _)
theorem rows_lt : ∀ l : List Nat, (∀ x ∈ l, x < 4294967296) → rowsF l < 4294967296
  | [], _ => by show 0 < 4294967296; omega
  | x :: t, h => foldl_lt t x (h x (List.mem_cons_self ..))
theorem pairs_lt : ∀ (k : Nat) (l : List Nat), (∀ x ∈ l, x < 4294967296) → pairsF k l < 4294967296
  | 0, l, h => by
    unfold pairsF
    cases l with
    | nil => simp
    | cons x t => simpa using h x (List.mem_cons_self ..)
  | k + 1, l, h => by
    unfold pairsF
    split
    · cases l with
      | nil => simp
      | cons x t => simpa using h x (List.mem_cons_self ..)
    · exact addF_lt _ _
theorem kept_lt (l : List Nat) : (keptF l).1 < 4294967296 := by
  rcases List.eq_nil_or_concat l with rfl | ⟨t, x, rfl⟩
  · unfold keptF; simp
  · rw [List.concat_eq_append, Ieee.Format.keptF_snoc]; exact addF_lt _ _
theorem Hn.bd30 {n x : Nat} (h : Hn n x) (hn : n ≤ 256) : Bd 30 x := by
  obtain ⟨f, a, b⟩ := h
  have c : (n : Rat) ≤ 256 := by exact_mod_cast hn
  have d := Rat.mul_le_mul_of_nonneg_right c (Rat.le_of_lt (Ieee.P2_pos 20))
  have e := P2_20
  have g := P2_30
  have h30 : Ieee.P2 ((30 : Nat) : Int) = 1073741824 := g
  exact ⟨f, by rw [h30]; grind, by rw [h30]; grind⟩
theorem bd30_exp {x : Nat} (h : Bd 30 x) (hx : x < 4294967296) : x / 8388608 % 256 ≤ 180 := by
  have c := Ieee.Format.const_40
  have b := h.mono (show 30 ≤ 40 by omega)
  have r := (Ieee.Format.V_rung_iff (x := x) c.2.2).1 ⟨by rw [c.2.1]; exact b.2.1, by rw [c.2.1]; exact b.2.2⟩
  rw [Ieee.Format.rung_lit, Ieee.Format.rung_lit] at r
  omega
theorem out_one1 (W : World) (g x : Nat) (hx : x < 4294967296) (h0 : W.cell? ⟨g, 0, none⟩ = some (.float .f32 x)) :
    Calls Try.prog 20 #[.slice (some ⟨g, 0, none⟩) 1 1] W fun e w' => e = .returned (.int .i64 (outE [x])) ∧ W = w' := by
  refine out_any (some ⟨g, 0, none⟩) 1 [x] W ⟨⟨by simp, by simp; exact hx⟩, .inr ⟨g, 0, rfl, ?_⟩⟩
  intro i hi
  obtain rfl : i = 0 := by simp at hi; omega
  simpa using h0
/-- what a call of Within gives -/
def WQ (v g cap : Nat) (l : List Nat) (n : Int) : Prop := ∀ W, SRow W (some ⟨g, 0, none⟩) l → Calls Try.prog 21 #[.float .f32 v, .slice (some ⟨g, 0, none⟩) l.length cap, .int .i64 n, .int .i64 23] W fun e w' => e = .returned (.bool true) ∧ Below W.heap.size W w'
theorem wq_of {v g cap n : Nat} {l : List Nat} (hv : v < 4294967296) (hb : Bd 30 v) (hh : ∀ x ∈ l, Ht x) (hl : l.length ≤ 256) (hn : n ≤ 300) (ho : Off n v l) : WQ v g cap l (n : Int) := by
  intro W hW
  have z := zi_bd hb (by omega)
  have m := magZ_bd l hh
  have e : ((2 ^ (30 + 160) : Nat) : Int) = 1569275433846670190958947355801916604025588861116008628224 := by simp
  rw [e] at z
  exact within_any v g 0 cap n l W hW hh hv (bd30_exp hb hv) (by omega) (by omega) (by omega) hn (within_of ho)
theorem sums_all (g cap kk : Nat) (how : Int) (l : List Nat) (hw : ∀ x ∈ l, x < 4294967296) (hh : ∀ x ∈ l, Ht x) (h1 : 1 ≤ l.length) (h2 : l.length ≤ 256) (hk : kk ≤ 8) (hk2 : l.length ≤ 2 ^ kk) :
    (how = 1 ∧ sumC how = 0 ∧ WQ (sumF kk how l) g cap l ((l.length : Int) - 1)) ∨ (how = 2 ∧ sumC how = 0 ∧ WQ (sumF kk how l) g cap l (kk : Int)) ∨ (how = 3 ∧ sumC how = 0 ∧ WQ (sumF kk how l) g cap l 3) ∨ (sumC how = 1 ∧ sumF kk how l = 0) := by
  by_cases e1 : how = 1
  · subst e1
    refine .inl ⟨rfl, rfl, ?_⟩
    have h := rows_ok l hh h2 (l.length - 1) (by omega)
    rw [show l.length - 1 + 1 = l.length from by omega, List.take_length] at h
    have := wq_of (g := g) (cap := cap) (n := l.length - 1) (rows_lt l hw) (Hn.bd30 h.1 h2) hh h2 (by omega) h.2
    rw [show ((l.length - 1 : Nat) : Int) = (l.length : Int) - 1 from by omega] at this
    exact this
  · by_cases e2 : how = 2
    · subst e2
      refine .inr (.inl ⟨rfl, rfl, ?_⟩)
      have h := pairs_ok kk l (by omega) hh h1 hk2 (by omega)
      exact wq_of (pairs_lt kk l hw) (Hn.bd30 h.1 h2) hh h2 (by omega) h.2
    · by_cases e3 : how = 3
      · subst e3
        refine .inr (.inr (.inl ⟨rfl, rfl, ?_⟩))
        have h := kept_off l hh h2
        exact wq_of (n := 3) (kept_lt l) h.1 hh h2 (show (3 : Nat) ≤ 300 by decide) h.2
      · refine .inr (.inr (.inr ⟨?_, ?_⟩))
        · unfold sumC; rw [if_neg e1, if_neg e2, if_neg e3]
        · unfold sumF; rw [if_neg e1, if_neg e2, if_neg e3]
set_option maxRecDepth 100000 in
set_option maxHeartbeats 4000000 in
theorem sums_law (X Y A B : Int) (a : Option Addr) (l : List Nat) (cap : Nat) (how : Int) (w : World) (hl : Row63 w a l) :
    Calls Try.prog 3 #[fldV X Y A B a l.length cap, .int .i64 how] w fun e w' => e = .returned (.bool true) ∧ Below w.heap.size w w' := by
  have HL := Lib.hid hl
  clear hl
  go_enter Try.func3, Try.ntmps3
  go_wp2_with fail
  generalize hW0 : w.alloc (.cells #[.int .i64 X, .int .i64 Y, .int .i64 A, .int .i64 B, .slice a l.length cap] 26) = W0 at *
  have F0 : Fld W0 w.heap.size X Y A B (.slice a l.length cap) := by subst hW0; exact Fld.new _ _ _ _ _ _
  have B0 : Below w.heap.size w W0 := by subst hW0; exact (by repeat (first | with_reducible exact Below.refl _ _ | with_reducible apply Below.drew | with_reducible refine below_drewN ?_ _ | (with_reducible refine Below.setCell ?_ ?_ _; rotate_left; focus (first | omega | (simp <;> omega))) | (with_reducible refine Below.alloc ?_ ?_ _; rotate_left; focus (first | omega | (simp <;> omega)))))
  clear hW0
  refine (landed_bel _).mono ?_
  rintro e w1 ⟨rfl, b1⟩
  have F1 := F0.below b1 F0.lt
  have B1 := Lib.hid (B0.trans (b1.mono B0.size))
  clear b1 F0 B0
  obtain ⟨c0, c1, c2, c3, c4⟩ := F1.cells
  have HF1 := Lib.hid F1
  clear F1
  go_wp2_with fail
  refine (fit_any X Y A B a cap l w1 (HL.out.below B1.out)).mono ?_
  rintro e w2 ⟨X', Y', Wn, Hn, g, cap', l', rfl, hr, hsm, ho, b2⟩
  have F2 := HF1.out.below b2 HF1.out.lt
  have B2 := Lib.hid (B1.out.trans (b2.mono B1.out.size))
  have HG : Hid (g ≠ w.heap.size) := by have := ho.lt.1; have := HF1.out.lt; unfold Hid; omega
  have HO := Lib.hid ho
  have HML : Hid (l'.length ≤ 1099511627776) := by
    have h1 := Nat.mul_le_mul hr.h2 hr.w2
    rw [← hr.len] at h1
    unfold Hid; omega
  have hcap : l'.length ≤ cap' := by
    rcases HO.out.1.2 with ⟨h0, _⟩ | ⟨g2, cap2, cur, he, _, _, h3, _⟩
    · cases h0
    · injection he with e1 e2 e3
      omega
  have h256 : l'.length ≤ 256 := by
    have := Nat.mul_le_mul hsm.2.2.2.2.2 hsm.2.2.2.2.1
    rw [← hr.len] at this
    omega
  have hone : 1 ≤ l'.length := by
    have := Nat.mul_le_mul hr.h1 hr.w1
    rw [← hr.len] at this
    omega
  obtain ⟨kk, hk8, hkk, hmin⟩ := least_pow l'.length 8 (by omega)
  have hh : ∀ x ∈ l', Ht x := hr.ht
  have hw : ∀ x ∈ l', x < 4294967296 := HO.out.2
  have HA := Lib.hid (sums_all g cap' kk how l' hw hh hone h256 hk8 hkk)
  have K1 := Lib.hid (fun w hl => sum_any X' Y' Wn Hn g 0 cap' l' how w hl hr hcap h256 kk (by omega) hkk)
  have K2 := Lib.hid (fun w hl => refsum_any X' Y' Wn Hn g 0 cap' l' how w hl hr hcap h256 kk (by omega) hkk)
  have K3 := Lib.hid (fun w hl => mean_any X' Y' Wn Hn g 0 cap' l' w hl hr hcap h256 kk (by omega) hkk)
  have K4 := Lib.hid (fun w hl => refmean_any X' Y' Wn Hn g 0 cap' l' w hl hr hcap h256 kk (by omega) hkk)
  have hme := (mean_ok (k := kk) (by omega) hh hone hkk h256).2.2.2.2
  have hml : meanF kk l' < 4294967296 := Ieee.Format.divF_lt _ _
  have K5 := Lib.hid (fun W g2 h => out_one1 W g2 (meanF kk l') hml h)
  have e5 : outE [meanF kk l'] = 0 := by
    unfold outE
    rw [if_pos (Ieee.Format.htE_of_ht (Ieee.Format.allHt_iff.2 (by simpa using hme)))]
  rw [e5] at K5
  have KO := Lib.hid (fun w => one_same (sumF kk how l') (sumC how) (fun h => by
    rcases HA.out with h1 | h1 | h1 | h1
    · exact absurd h1.2.1 h
    · exact absurd h1.2.1 h
    · exact absurd h1.2.1 h
    · exact h1.2) w)
  have KP := Lib.hid (fun w => one_same (meanF kk l') 0 (fun h => absurd rfl h) w)
  have HMIN := Lib.hid hmin
  have HKK := Lib.hid hkk
  clear hmin hh hw hme hml e5 hcap hkk
  generalize hsv : sumF kk how l' = v at *
  generalize hsc : sumC how = cc at *
  generalize meanF kk l' = m at *
  clear hsv hsc
  clear b2 hr ho c0 c1 c2 c3 c4 hsm
  obtain ⟨c0, c1, c2, c3, c4⟩ := F2.cells
  have qf0 := F2.frozen 0
  have qf1 := F2.frozen 1
  have qf2 := F2.frozen 2
  have qf3 := F2.frozen 3
  have qf4 := F2.frozen 4
  have HF2 := Lib.hid F2
  clear F2
  go_wp2_with fail
  generalize hW3 : ((((w2.setCell ⟨w.heap.size, 0, none⟩ (.int .i64 X')).setCell ⟨w.heap.size, 1, none⟩ (.int .i64 Y')).setCell ⟨w.heap.size, 2, none⟩ (.int .i64 (Wn : Int))).setCell ⟨w.heap.size, 3, none⟩ (.int .i64 (Hn : Int))).setCell ⟨w.heap.size, 4, none⟩ (.slice (some ⟨g, 0, none⟩) l'.length cap') = W3 at *
  obtain ⟨f3, bb3, oo3, _, z3⟩ := fld_store w2 w.heap.size X Y A B _ X' Y' Wn Hn (.slice (some ⟨g, 0, none⟩) l'.length cap') HF2.out W3 hW3.symm
  have HF3 := Lib.hid f3
  have HB3 := Lib.hid (B2.out.trans bb3)
  have HO3 := Lib.hid (oo3 _ _ _ _ HO.out HG.out)
  have HQ3 := Lib.hid (HO3.out.row HML.out)
  clear hW3 f3 bb3 oo3 z3 HO HF2 HF1 B1 B2 c0 c1 c2 c3 c4 qf0 qf1 qf2 qf3 qf4 HL HG
  refine (K1.out _ HQ3.out).mono ?_
  rintro e w4 ⟨rfl, b4⟩
  have HF4 := Lib.hid (HF3.out.below b4 HF3.out.lt)
  have HB4 := Lib.hid (HB3.out.trans (b4.mono HB3.out.size))
  have HQ4 := Lib.hid (HQ3.out.below b4)
  clear b4 HF3 HB3 HQ3
  obtain ⟨c0, c1, c2, c3, c4⟩ := HF4.out.cells
  have lz := HF4.out.lt
  go_wp2_with fail
  refine (K2.out _ HQ4.out).mono ?_
  rintro e w5 ⟨rfl, b5⟩
  have HF5 := Lib.hid (HF4.out.below b5 HF4.out.lt)
  have HB5 := Lib.hid (HB4.out.trans (b5.mono HB4.out.size))
  have HQ5 := Lib.hid (HQ4.out.below b5)
  clear b5 HF4 HB4 HQ4
  clear c0 c1 c2 c3 c4 lz
  obtain ⟨c0, c1, c2, c3, c4⟩ := HF5.out.cells
  have lz := HF5.out.lt
  go_wp2_with fail
  refine (KO.out _).mono ?_
  rintro e w6 ⟨rfl, rfl⟩
  go_wp2_with fail
  refine (K3.out _ HQ5.out).mono ?_
  rintro e w7 ⟨rfl, b7⟩
  have HF7 := Lib.hid (HF5.out.below b7 HF5.out.lt)
  have HB7 := Lib.hid (HB5.out.trans (b7.mono HB5.out.size))
  have HQ7 := Lib.hid (HQ5.out.below b7)
  clear b7 HF5 HB5 HQ5
  clear c0 c1 c2 c3 c4 lz
  obtain ⟨c0, c1, c2, c3, c4⟩ := HF7.out.cells
  have lz := HF7.out.lt
  go_wp2_with fail
  refine (K4.out _ HQ7.out).mono ?_
  rintro e w8 ⟨rfl, b8⟩
  have HF8 := Lib.hid (HF7.out.below b8 HF7.out.lt)
  have HB8 := Lib.hid (HB7.out.trans (b8.mono HB7.out.size))
  have HQ8 := Lib.hid (HQ7.out.below b8)
  clear b8 HF7 HB7 HQ7
  clear c0 c1 c2 c3 c4 lz
  go_wp2_with fail
  refine (K5.out _ _ (by simp [go_sem])).mono ?_
  rintro e w9 ⟨rfl, rfl⟩
  go_wp2_with fail
  refine (KP.out _).mono ?_
  rintro e w10 ⟨rfl, rfl⟩
  have BA : Below w8.heap.size w8 (w8.alloc (.cells #[.float .f32 m] 29)) := (by repeat (first | with_reducible exact Below.refl _ _ | with_reducible apply Below.drew | with_reducible refine below_drewN ?_ _ | (with_reducible refine Below.setCell ?_ ?_ _; rotate_left; focus (first | omega | (simp <;> omega))) | (with_reducible refine Below.alloc ?_ ?_ _; rotate_left; focus (first | omega | (simp <;> omega)))))
  have HF9 := Lib.hid (HF8.out.below BA HF8.out.lt)
  have HB9 := Lib.hid (HB8.out.trans (BA.mono HB8.out.size))
  have HQ9 := Lib.hid (HQ8.out.below BA)
  clear BA HF8 HB8 HQ8
  generalize w8.alloc (.cells #[.float .f32 m] 29) = w9 at *
  obtain ⟨c0, c1, c2, c3, c4⟩ := HF9.out.cells
  have lz := HF9.out.lt
  clear K1 K2 K3 K4 K5 KO KP
  rcases HA.out with ⟨rfl, rfl, hW⟩ | ⟨rfl, rfl, hW⟩ | ⟨rfl, rfl, hW⟩ | ⟨rfl, _⟩
  · have KW := Lib.hid hW
    clear hW HA
    go_wp2_with fail
    refine (KW.out _ HQ9.out).mono ?_
    rintro e wf ⟨rfl, bf⟩
    have HBf := Lib.hid (HB9.out.trans (bf.mono HB9.out.size))
    clear bf
    go_wp2_with fail
    go_ret
    exact ⟨rfl, HBf.out⟩
  · have KW := Lib.hid hW
    clear hW HA
    go_wp2_with fail
    go_loop [12] (fun i => ∃ j : Nat, j ≤ kk ∧ i = .int .i64 j) (fun i => kk - (intOf i).toNat)
    case atStart => exact ⟨0, by omega, rfl⟩
    case round =>
      obtain ⟨j, hj, rfl⟩ := hrel
      by_cases hlt : j < kk
      · have hm := HMIN.out j hlt
        rcases (show j = 0 ∨ j = 1 ∨ j = 2 ∨ j = 3 ∨ j = 4 ∨ j = 5 ∨ j = 6 ∨ j = 7 by omega) with rfl | rfl | rfl | rfl | rfl | rfl | rfl | rfl
        all_goals
          simp only [Nat.reducePow] at hm
          have hm2 : ¬ l'.length ≤ _ := Nat.not_le_of_lt hm
          go_wp2_with fail
          go_round
          case rel => exact ⟨_, hlt, by go_num⟩
          case measure => simp [intOf]; omega
      · obtain rfl : j = kk := by omega
        have hm := HKK.out
        clear hlt
        have hkw := KW.out
        rcases (show j = 0 ∨ j = 1 ∨ j = 2 ∨ j = 3 ∨ j = 4 ∨ j = 5 ∨ j = 6 ∨ j = 7 ∨ j = 8 by omega) with rfl | rfl | rfl | rfl | rfl | rfl | rfl | rfl | rfl
        all_goals
          simp only [Nat.reducePow] at hm
          have KX := Lib.hid hkw
          clear hkw KW
          go_wp2_with fail
          refine (KX.out _ HQ9.out).mono ?_
          rintro e wf ⟨rfl, bf⟩
          have HBf := Lib.hid (HB9.out.trans (bf.mono HB9.out.size))
          clear bf
          go_wp2_with fail
          go_ret
          exact ⟨rfl, HBf.out⟩
  · have KW := Lib.hid hW
    clear hW HA
    go_wp2_with fail
    refine (KW.out _ HQ9.out).mono ?_
    rintro e wf ⟨rfl, bf⟩
    have HBf := Lib.hid (HB9.out.trans (bf.mono HB9.out.size))
    clear bf
    go_wp2_with fail
    go_ret
    exact ⟨rfl, HBf.out⟩
  · clear HA
    go_wp2_with fail
    go_ret
    exact ⟨rfl, HB9.out⟩
end Go.Proofs.Ytkmcinibaffpmaa
