import Derived.Test.YtkmcinibaffpmaaSumOp
import Derived.Test.YtkmcinibaffpmaaInner
import Derived.BigQuiet
import Derived.Deep.QuietTactic
namespace Go.Proofs.Ytkmcinibaffpmaa
open Go.ChangeShapes Go.WideShapes Go.ChangeAt Go.RowKit
open Ieee.Format (fin finE htE allFin allHt all_true all_false mulF subF addF Ht Bd divF rootF floorF easeF mixF)
set_option linter.unusedVariables false
open Ieee.Format (rowsF rowsF_one rowsF_snoc rows_ok pairsF pairs_one pairs_ok keptStep keptF keptF_snoc kept_ok kept_off Kept KeptFin kept_fin Hn Off bits_add bits_sub addF_lt subF_lt)

/-- the mean of a field -/
def meanF (k : Nat) (l : List Nat) : Nat := divF (pairsF k l) (floatOfInt .f32 (l.length : Int))
theorem mean_ok {k : Nat} {l : List Nat} (hk : k ≤ 200) (hh : ∀ x ∈ l, Ht x) (h1 : 1 ≤ l.length) (h2 : l.length ≤ 2 ^ k) (h3 : l.length ≤ 256) :
    fin Ieee.single (pairsF k l) ∧ fin Ieee.single (floatOfInt .f32 (l.length : Int)) ∧ Ieee.single.V (floatOfInt .f32 (l.length : Int)) ≠ 0 ∧ fin Ieee.single (meanF k l) ∧ Ht (meanF k l) := by
  obtain ⟨f, a, b⟩ := (pairs_ok k l hk hh h1 h2 (by omega)).1
  obtain ⟨d1, d2, d3⟩ := Ieee.Format.conv_24 (n := (l.length : Int)) (by omega) (by omega)
  have e : ((l.length : Int) : Rat) = (l.length : Rat) := Rat.intCast_natCast _
  rw [e] at d2
  have one : (1 : Rat) ≤ (l.length : Rat) := by exact_mod_cast h1
  have c := Ieee.Format.const_20
  have := Ieee.Format.div_bound f d1 (by rw [d2]; grind) c.1 c.2.2 (by rw [c.2.1, d2]; grind) (by rw [c.2.1, d2]; grind)
  rw [c.2.1] at this
  exact ⟨f, d1, by rw [d2]; grind, this.1, Ht.of ⟨this.2.2, this.2.1⟩⟩
set_option maxRecDepth 100000 in
set_option maxHeartbeats 1000000 in
theorem mean_any (X Y : Int) (Wn Hn : Nat) (b o c : Nat) (l : List Nat) (w : World) (hl : SRow w (some ⟨b, o, none⟩) l) (hr : Right X Y Wn Hn l) (hc : l.length ≤ c) (h2 : l.length ≤ 256) (k : Nat) (hk : k ≤ 200) (hk2 : l.length ≤ 2 ^ k) :
    Calls Try.prog 18 #[fldV X Y Wn Hn (some ⟨b, o, none⟩) l.length c] w fun e w' => e = .returned (.tuple #[.float .f32 (meanF k l), .int .i64 0]) ∧ Below w.heap.size w w' := by
  have K := Lib.hid (fun w h => check_field X Y Wn Hn (some ⟨b, o, none⟩) c l w h)
  rw [hr.chk] at K
  have HL := Lib.hid hl
  have h1 : 1 ≤ l.length := by
    have := Nat.mul_le_mul hr.h1 hr.w1
    rw [← hr.len] at this
    omega
  have hh : ∀ x ∈ l, Ht x := hr.ht
  obtain ⟨f1, f2, f3, f4, f5⟩ := mean_ok hk hh h1 hk2 h2
  have hml : (l.length : Int) ≤ 256 := by omega
  have KP := Lib.hid (fun w hl => sumpairs_any k hk b o c l w hl hh h1 hk2 (by omega) hc)
  have KV := Lib.hid (fun w => value_any (meanF k l) w f5)
  have kd := fun w' => run_float_arith (P := Try.prog) w' .quo 29 .f32 _ _ _ (Ieee.Format.bits_div f1 f2 f3)
  unfold meanF at KV ⊢
  clear hr hh hl h1 hc f1 f2 f3 f4 f5 h2 hk2
  generalize divF (pairsF k l) (floatOfInt .f32 (l.length : Int)) = m at *
  generalize pairsF k l = s at *
  generalize hcv : floatOfInt .f32 (l.length : Int) = cv at *
  go_enter Try.func18, Try.ntmps18
  go_wp2_with fail
  generalize hW0 : w.alloc (.cells #[.int .i64 X, .int .i64 Y, .int .i64 Wn, .int .i64 Hn, .slice (some ⟨b, o, none⟩) l.length c] 26) = W0 at *
  have E0 : Fld W0 w.heap.size X Y Wn Hn (.slice (some ⟨b, o, none⟩) l.length c) := by subst hW0; exact Fld.new _ _ _ _ _ _
  have B0 : Below w.heap.size w W0 := by subst hW0; exact (by repeat (first | with_reducible exact Below.refl _ _ | with_reducible apply Below.drew | with_reducible refine below_drewN ?_ _ | (with_reducible refine Below.setCell ?_ ?_ _; rotate_left; focus (first | omega | (simp <;> omega))) | (with_reducible refine Below.alloc ?_ ?_ _; rotate_left; focus (first | omega | (simp <;> omega)))))
  clear hW0
  refine (K.out _ (HL.out.below B0)).mono ?_
  rintro e w1 ⟨rfl, b1⟩
  have E1 := E0.below b1 E0.lt
  have HL1 := Lib.hid ((HL.out.below B0).below b1)
  have B1 := Lib.hid (B0.trans (b1.mono B0.size))
  clear b1 B0 E0 K HL
  obtain ⟨c0, c1, c2, c3, c4⟩ := E1.cells
  have l1 := E1.lt
  clear E1
  go_wp2_with fail
  go_quiet (first
    | (go_at_call 92; with_reducible exact Calls.quiet_of (KP.out _ (HL1.out.drewN _)))
    | (go_at_call 97; with_reducible exact Calls.quiet_of_same ((KV.out _).mono fun _ _ h => ⟨h.1, h.2.symm⟩)))
  go_wp2_with fail
  go_ret2
  exact ⟨rfl, below_drewN B1.out _⟩
set_option maxRecDepth 100000 in
set_option maxHeartbeats 1000000 in
theorem refmean_any (X Y : Int) (Wn Hn : Nat) (b o c : Nat) (l : List Nat) (w : World) (hl : SRow w (some ⟨b, o, none⟩) l) (hr : Right X Y Wn Hn l) (hc : l.length ≤ c) (h2 : l.length ≤ 256) (k : Nat) (hk : k ≤ 200) (hk2 : l.length ≤ 2 ^ k) :
    Calls Try.prog 19 #[fldV X Y Wn Hn (some ⟨b, o, none⟩) l.length c] w fun e w' => e = .returned (.float .f32 (meanF k l)) ∧ Below w.heap.size w w' := by
  have HL := Lib.hid hl
  have h1 : 1 ≤ l.length := by
    have := Nat.mul_le_mul hr.h1 hr.w1
    rw [← hr.len] at this
    omega
  have hh : ∀ x ∈ l, Ht x := hr.ht
  obtain ⟨f1, f2, f3, f4, f5⟩ := mean_ok hk hh h1 hk2 h2
  have hml : (l.length : Int) ≤ 256 := by omega
  have KP := Lib.hid (fun w hl => refpairs_any k hk b o c l w hl hh h1 hk2 (by omega) hc)
  have KC := Lib.hid (fun w => ref_conv_ok (l.length : Int) w)
  have KD := Lib.hid (fun w => ref_div_ok _ _ w f1 f2 f3 f4)
  unfold meanF
  clear hr hh hl h1 hc f1 f2 f3 f4 f5 h2 hk2
  generalize divF (pairsF k l) (floatOfInt .f32 (l.length : Int)) = m at *
  generalize pairsF k l = s at *
  generalize floatOfInt .f32 (l.length : Int) = cv at *
  go_enter Try.func19, Try.ntmps19
  go_wp2_with fail
  generalize hW0 : w.alloc (.cells #[.int .i64 X, .int .i64 Y, .int .i64 Wn, .int .i64 Hn, .slice (some ⟨b, o, none⟩) l.length c] 26) = W0 at *
  have E0 : Fld W0 w.heap.size X Y Wn Hn (.slice (some ⟨b, o, none⟩) l.length c) := by subst hW0; exact Fld.new _ _ _ _ _ _
  have B0 : Below w.heap.size w W0 := by subst hW0; exact (by repeat (first | with_reducible exact Below.refl _ _ | with_reducible apply Below.drew | with_reducible refine below_drewN ?_ _ | (with_reducible refine Below.setCell ?_ ?_ _; rotate_left; focus (first | omega | (simp <;> omega))) | (with_reducible refine Below.alloc ?_ ?_ _; rotate_left; focus (first | omega | (simp <;> omega)))))
  clear hW0
  obtain ⟨c0, c1, c2, c3, c4⟩ := E0.cells
  have l1 := E0.lt
  have HL1 := Lib.hid (HL.out.below B0)
  have HB := Lib.hid B0
  clear E0 B0
  go_quiet (first
    | (go_at_call 95; with_reducible exact Calls.quiet_of (KP.out _ (HL1.out.drewN _)))
    | (go_at_call 99; with_reducible exact Calls.quiet_of_same ((KC.out _).mono fun _ _ h => ⟨h.1, h.2.symm⟩))
    | (go_at_call 98; with_reducible exact Calls.quiet_of_same ((KD.out _).mono fun _ _ h => ⟨h.1, h.2.symm⟩)))
  go_wp2_with fail
  go_ret
  exact ⟨rfl, below_drewN HB.out _⟩
set_option maxRecDepth 100000 in
set_option maxHeartbeats 2000000 in
theorem refsum_any (X Y : Int) (Wn Hn : Nat) (b o c : Nat) (l : List Nat) (how : Int) (w : World) (hl : SRow w (some ⟨b, o, none⟩) l) (hr : Right X Y Wn Hn l) (hc : l.length ≤ c) (h2 : l.length ≤ 256) (k : Nat) (hk : k ≤ 200) (hk2 : l.length ≤ 2 ^ k) :
    Calls Try.prog 16 #[fldV X Y Wn Hn (some ⟨b, o, none⟩) l.length c, .int .i64 how] w fun e w' => e = .returned (.tuple #[.float .f32 (sumF k how l), .int .i64 (sumC how)]) ∧ Below w.heap.size w w' := by
  have HL := Lib.hid hl
  have h1 : 1 ≤ l.length := by
    have := Nat.mul_le_mul hr.h1 hr.w1
    rw [← hr.len] at this
    omega
  have hh : ∀ x ∈ l, Ht x := hr.ht
  by_cases e1 : how = 1
  · have KS := Lib.hid (rows_step l hh h2)
    have h0 := SRow.at_ hl (show 0 < l.length by omega)
    rw [Nat.add_zero] at h0
    have HT : Hid (rowsF (l.take (0 + 1)) = l.getD 0 0) := by
      unfold Hid; rw [take_snoc_d l 0 (by omega)]; rfl
    have HE : Hid (l.take l.length = l) := List.take_length
    have hb : b < w.heap.size := World.block_lt_of_cell? w _ h0
    have q1 : sumF k how l = rowsF l := by unfold sumF; rw [if_pos e1]
    have q2 : sumC how = 0 := by unfold sumC; rw [if_pos e1]
    rw [q1, q2]
    generalize hv : l.getD 0 0 = v0 at *
    have HV := Lib.hid hv
    clear q1 q2 hr hh hl hv
    subst e1
    by_cases hc1 : c = 1
    · obtain rfl : c = 1 := hc1
      have hlen : l.length = 1 := by omega
      have HLEN := Lib.hid hlen
      rw [hlen] at HE
      have HF : Hid (rowsF l = v0) := by
        have h5 := HT.out
        rw [Nat.zero_add, HE.out] at h5
        exact h5
      rw [HF.out, hlen]
      clear hlen h1 h2 hc hk2
      go_enter Try.func16, Try.ntmps16
      go_wp2_with fail
      generalize hW0 : w.alloc (.cells #[.int .i64 X, .int .i64 Y, .int .i64 Wn, .int .i64 Hn, .slice (some ⟨b, o, none⟩) 1 1] 26) = W0 at *
      have E0 : Fld W0 w.heap.size X Y Wn Hn (.slice (some ⟨b, o, none⟩) 1 1) := by subst hW0; exact Fld.new _ _ _ _ _ _
      have B0 : Below w.heap.size w W0 := by subst hW0; exact (by repeat (first | with_reducible exact Below.refl _ _ | with_reducible apply Below.drew | with_reducible refine below_drewN ?_ _ | (with_reducible refine Below.setCell ?_ ?_ _; rotate_left; focus (first | omega | (simp <;> omega))) | (with_reducible refine Below.alloc ?_ ?_ _; rotate_left; focus (first | omega | (simp <;> omega)))))
      clear hW0
      obtain ⟨c0, c1, c2, c3, c4⟩ := E0.cells
      have l1 := E0.lt
      have h0' : W0.cell? ⟨b, o, none⟩ = some (.float .f32 v0) := (B0.cell (p := ⟨b, o, none⟩) hb).trans h0
      have HB := Lib.hid B0
      clear E0 B0 h0 HL
      go_wp2_with fail
      refine wp_loop_rounds 1 ?_
      rw [rounds_succ]
      go_wp2_with fail
      go_ret2
      exact ⟨rfl, HB.out⟩
    · have hne : ¬ 1 = c := by omega
      go_enter Try.func16, Try.ntmps16
      go_wp2_with fail
      generalize hW0 : w.alloc (.cells #[.int .i64 X, .int .i64 Y, .int .i64 Wn, .int .i64 Hn, .slice (some ⟨b, o, none⟩) l.length c] 26) = W0 at *
      have E0 : Fld W0 w.heap.size X Y Wn Hn (.slice (some ⟨b, o, none⟩) l.length c) := by subst hW0; exact Fld.new _ _ _ _ _ _
      have B0 : Below w.heap.size w W0 := by subst hW0; exact (by repeat (first | with_reducible exact Below.refl _ _ | with_reducible apply Below.drew | with_reducible refine below_drewN ?_ _ | (with_reducible refine Below.setCell ?_ ?_ _; rotate_left; focus (first | omega | (simp <;> omega))) | (with_reducible refine Below.alloc ?_ ?_ _; rotate_left; focus (first | omega | (simp <;> omega)))))
      clear hW0
      obtain ⟨c0, c1, c2, c3, c4⟩ := E0.cells
      have l1 := E0.lt
      have h0' : W0.cell? ⟨b, o, none⟩ = some (.float .f32 v0) := (B0.cell (p := ⟨b, o, none⟩) hb).trans h0
      have HL1 := Lib.hid (HL.out.below B0)
      have HB := Lib.hid B0
      clear E0 B0 h0 HL
      go_wp2_with fail
      go_loop [6, 8, 26] (fun s _ i => ∃ k : Nat, k + 1 ≤ l.length ∧ i = .int .i64 k ∧ s = .float .f32 (rowsF (l.take (k + 1)))) (fun _ _ i => l.length - (intOf i).toNat)
      case atStart => exact ⟨0, by omega, rfl, by rw [HT.out]⟩
      case round =>
        obtain ⟨j, hj, rfl, rfl⟩ := hrel
        by_cases hlt : j + 1 < l.length
        · obtain ⟨f1, f2, f3, e4⟩ := KS.out j hlt
          have hcell := SRow.at_ HL1.out hlt
          rw [show o + (j + 1) = o + 1 + j from by omega] at hcell
          have KA := Lib.hid (fun w => ref_add_ok _ _ w f1 f2 f3)
          rw [e4] at KA
          clear e4 f1 f2 f3
          generalize l.getD (j + 1) 0 = v at *
          generalize hs : rowsF (l.take (j + 1)) = s at *
          generalize hr : rowsF (l.take (j + 1 + 1)) = r at *
          have HR := Lib.hid hr
          clear hs hr
          have hlt2 : j < l.length - 1 := by omega
          go_wp2_with fail
          refine (KA.out _).mono ?_
          rintro e wz ⟨rfl, rfl⟩
          go_wp2_with fail
          go_round
          case rel => exact ⟨j + 1, by omega, by go_num, by rw [HR.out]⟩
          case measure => simp [intOf]; omega
        · have hke : j + 1 = l.length := by omega
          have hge : ¬ j < l.length - 1 := by omega
          rw [hke, HE.out]
          clear hke
          go_wp2_with fail
          go_ret2
          exact ⟨rfl, HB.out⟩
  · by_cases e2 : how = 2
    · have KF := Lib.hid (fun w hl => refpairs_any k hk b o c l w hl hh h1 hk2 (by omega) hc)
      have q1 : sumF k how l = pairsF k l := by unfold sumF; rw [if_neg e1, if_pos e2]
      have q2 : sumC how = 0 := by unfold sumC; rw [if_neg e1, if_pos e2]
      rw [q1, q2]
      clear q1 q2 hr hh hl h1 h2 hc e1
      subst e2
      go_enter Try.func16, Try.ntmps16
      go_wp2_with fail
      generalize hW0 : w.alloc (.cells #[.int .i64 X, .int .i64 Y, .int .i64 Wn, .int .i64 Hn, .slice (some ⟨b, o, none⟩) l.length c] 26) = W0 at *
      have E0 : Fld W0 w.heap.size X Y Wn Hn (.slice (some ⟨b, o, none⟩) l.length c) := by subst hW0; exact Fld.new _ _ _ _ _ _
      have B0 : Below w.heap.size w W0 := by subst hW0; exact (by repeat (first | with_reducible exact Below.refl _ _ | with_reducible apply Below.drew | with_reducible refine below_drewN ?_ _ | (with_reducible refine Below.setCell ?_ ?_ _; rotate_left; focus (first | omega | (simp <;> omega))) | (with_reducible refine Below.alloc ?_ ?_ _; rotate_left; focus (first | omega | (simp <;> omega)))))
      clear hW0
      obtain ⟨c0, c1, c2, c3, c4⟩ := E0.cells
      have l1 := E0.lt
      have HL1 := Lib.hid (HL.out.below B0)
      have HB := Lib.hid B0
      clear E0 B0 HL
      go_wp2_with fail
      refine (KF.out _ HL1.out).mono ?_
      rintro e w2 ⟨rfl, nq, rfl⟩
      go_wp2_with fail
      go_ret2
      exact ⟨rfl, below_drewN HB.out _⟩
    · by_cases e3 : how = 3
      · have KS := Lib.hid (kept_round l hh h2)
        have HE : Hid (l.take l.length = l) := List.take_length
        have H0 : Hid (keptF (l.take 0) = (0, 0)) := Lib.hid rfl
        have q1 : sumF k how l = (keptF l).1 := by unfold sumF; rw [if_neg e1, if_neg e2, if_pos e3]
        have q2 : sumC how = 0 := by unfold sumC; rw [if_neg e1, if_neg e2, if_pos e3]
        rw [q1, q2]
        clear q1 q2 hr hh hl h1 hc e1 e2
        subst e3
        go_enter Try.func16, Try.ntmps16
        go_wp2_with fail
        generalize hW0 : w.alloc (.cells #[.int .i64 X, .int .i64 Y, .int .i64 Wn, .int .i64 Hn, .slice (some ⟨b, o, none⟩) l.length c] 26) = W0 at *
        have E0 : Fld W0 w.heap.size X Y Wn Hn (.slice (some ⟨b, o, none⟩) l.length c) := by subst hW0; exact Fld.new _ _ _ _ _ _
        have B0 : Below w.heap.size w W0 := by subst hW0; exact (by repeat (first | with_reducible exact Below.refl _ _ | with_reducible apply Below.drew | with_reducible refine below_drewN ?_ _ | (with_reducible refine Below.setCell ?_ ?_ _; rotate_left; focus (first | omega | (simp <;> omega))) | (with_reducible refine Below.alloc ?_ ?_ _; rotate_left; focus (first | omega | (simp <;> omega)))))
        clear hW0
        obtain ⟨c0, c1, c2, c3, c4⟩ := E0.cells
        have l1 := E0.lt
        have HL1 := Lib.hid (HL.out.below B0)
        have HB := Lib.hid B0
        clear E0 B0 HL
        go_wp2_with fail
        go_loop [9, 10, 12, 13, 14, 45] (fun s c' _ _ _ i => ∃ k : Nat, k ≤ l.length ∧ i = .int .i64 k ∧ s = .float .f32 (keptF (l.take k)).1 ∧ c' = .float .f32 (keptF (l.take k)).2) (fun _ _ _ _ _ i => l.length - (intOf i).toNat)
        case atStart => exact ⟨0, by omega, rfl, by rw [H0.out], by rw [H0.out]⟩
        case round =>
          obtain ⟨j, hj, rfl, rfl, rfl⟩ := hrel
          by_cases hlt : j < l.length
          · obtain ⟨⟨ft, fu, fd, fc⟩, f1, f2, f3, e4⟩ := KS.out j hlt
            have hcell := SRow.at_ HL1.out hlt
            have HS : Hid ((keptF (l.take (j + 1))).1 = addF (keptF (l.take j)).1 (subF (l.getD j 0) (keptF (l.take j)).2) ∧ (keptF (l.take (j + 1))).2 = subF (subF (addF (keptF (l.take j)).1 (subF (l.getD j 0) (keptF (l.take j)).2)) (keptF (l.take j)).1) (subF (l.getD j 0) (keptF (l.take j)).2)) := by
              rw [e4]; exact ⟨rfl, rfl⟩
            have k1 := Lib.hid (fun w => ref_sub_ok _ _ w f3 f2 ft)
            have k2 := Lib.hid (fun w => ref_add_ok _ _ w f1 ft fu)
            have k3 := Lib.hid (fun w => ref_sub_ok _ _ w fu f1 fd)
            have k4 := Lib.hid (fun w => ref_sub_ok _ _ w fd ft fc)
            clear ft fu fd fc f1 f2 f3 e4
            generalize subF (subF (addF (keptF (l.take j)).1 (subF (l.getD j 0) (keptF (l.take j)).2)) (keptF (l.take j)).1) (subF (l.getD j 0) (keptF (l.take j)).2) = r4 at *
            generalize subF (addF (keptF (l.take j)).1 (subF (l.getD j 0) (keptF (l.take j)).2)) (keptF (l.take j)).1 = r3 at *
            generalize addF (keptF (l.take j)).1 (subF (l.getD j 0) (keptF (l.take j)).2) = r2 at *
            generalize subF (l.getD j 0) (keptF (l.take j)).2 = r1 at *
            generalize l.getD j 0 = v at *
            generalize (keptF (l.take j)).1 = s at *
            generalize (keptF (l.take j)).2 = c' at *
            go_wp2_with fail
            refine (k1.out _).mono ?_
            rintro e wz ⟨rfl, rfl⟩
            go_wp2_with fail
            refine (k2.out _).mono ?_
            rintro e wz ⟨rfl, rfl⟩
            go_wp2_with fail
            refine (k3.out _).mono ?_
            rintro e wz ⟨rfl, rfl⟩
            go_wp2_with fail
            refine (k4.out _).mono ?_
            rintro e wz ⟨rfl, rfl⟩
            go_wp2_with fail
            go_round
            case rel => exact ⟨j + 1, by omega, by go_num, by rw [HS.out.1], by rw [HS.out.2]⟩
            case measure => simp [intOf]; omega
          · have hke : j = l.length := by omega
            rw [hke, HE.out]
            go_wp2_with fail
            go_ret2
            exact ⟨rfl, HB.out⟩
      · have q1 : sumF k how l = 0 := by unfold sumF; rw [if_neg e1, if_neg e2, if_neg e3]
        have q2 : sumC how = 1 := by unfold sumC; rw [if_neg e1, if_neg e2, if_neg e3]
        rw [q1, q2]
        clear q1 q2 hr hh hl h1 h2 hc
        go_enter Try.func16, Try.ntmps16
        go_wp2_with fail
        generalize hW0 : w.alloc (.cells #[.int .i64 X, .int .i64 Y, .int .i64 Wn, .int .i64 Hn, .slice (some ⟨b, o, none⟩) l.length c] 26) = W0 at *
        have E0 : Fld W0 w.heap.size X Y Wn Hn (.slice (some ⟨b, o, none⟩) l.length c) := by subst hW0; exact Fld.new _ _ _ _ _ _
        have B0 : Below w.heap.size w W0 := by subst hW0; exact (by repeat (first | with_reducible exact Below.refl _ _ | with_reducible apply Below.drew | with_reducible refine below_drewN ?_ _ | (with_reducible refine Below.setCell ?_ ?_ _; rotate_left; focus (first | omega | (simp <;> omega))) | (with_reducible refine Below.alloc ?_ ?_ _; rotate_left; focus (first | omega | (simp <;> omega)))))
        clear hW0
        go_ret2
        exact ⟨rfl, B0⟩
end Go.Proofs.Ytkmcinibaffpmaa
