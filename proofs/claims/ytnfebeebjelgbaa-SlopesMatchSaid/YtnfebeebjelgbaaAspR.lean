import Derived.Test.YtnfebeebjelgbaaAspA
namespace Go.Proofs.Ytnfebeebjelgbaa
open Go.ChangeShapes Go.WideShapes Go.ChangeAt Go.RowKit
open Ieee.Format (fin finE htE allFin allHt all_true all_false mulF subF addF Ht Bd divF rootF floorF easeF mixF)
set_option linter.unusedVariables false
open Ieee.Format (negF gradF)

theorem Reg.frozen {w : World} {k : Nat} {X Y W H : Int} (h : Reg w k X Y W H) (i : Nat) : w.frozen? ⟨k, i, none⟩ = false := frozen_of_row w k i _ _ h

theorem refaspect_no (X Y : Int) (Wn Hn : Nat) (b o c : Nat) (l : List Nat) (w : World) (hl : SRow w (some ⟨b, o, none⟩) l) (hr : Right X Y Wn Hn l) (hx : -1000000 ≤ X ∧ X ≤ 1000000 ∧ -1000000 ≤ Y ∧ Y ≤ 1000000) (h : Wn < 3 ∨ Hn < 3) :
    Calls Try.prog 84 #[fldV X Y Wn Hn (some ⟨b, o, none⟩) l.length c] w fun e w' => DirP 10 0 0 0 0 [] w e w' := by
  have KI := Lib.hid (fun w => refinner_rno X Y Wn Hn (some ⟨b, o, none⟩) l.length c l w hr hx h)
  clear hl hr h hx
  go_enter Try.func84, Try.ntmps84
  go_wp2_with fail
  generalize hW0 : (w.alloc (.cells #[.int .i64 X, .int .i64 Y, .int .i64 Wn, .int .i64 Hn, .slice (some ⟨b, o, none⟩) l.length c] 36)).alloc (.cells #[.int .i64 0, .int .i64 0, .int .i64 0, .int .i64 0] 23) = W0 at *
  obtain ⟨E0, R0, B0⟩ := inner_world w X Y Wn Hn (.slice (some ⟨b, o, none⟩) l.length c) W0 hW0.symm
  clear hW0
  refine (KI.out _ ).mono ?_
  rintro e w1 ⟨rfl, b1⟩
  have E1 := E0.below b1 E0.lt
  have R1 := R0.below b1 R0.lt
  have B1 := B0.trans (b1.mono B0.size)
  clear b1 B0 R0 E0 KI
  have l1 := R1.lt
  obtain ⟨d0, d1, d2, d3⟩ := R1.cells
  have q0 := R1.frozen 0
  have q1 := R1.frozen 1
  have q2 := R1.frozen 2
  have q3 := R1.frozen 3
  clear R1 E1
  go_wp2_with fail
  exact bodyPost_ret (v := .tuple #[.slice none 0 0, reg 0 0 0 0, .int .i64 10]) (by simp [results, Try.results84, go_sem, *]) rfl ⟨⟨none, 0, rfl, IRow.nil _ _⟩, (by have hszz := B1.size; repeat (first | with_reducible exact B1 | with_reducible apply Below.drew | with_reducible refine below_drewN ?_ _ | (with_reducible refine Below.setCell ?_ ?_ _; rotate_left; focus (first | omega | (simp <;> omega))) | (with_reducible refine Below.alloc ?_ ?_ _; rotate_left; focus (first | omega | (simp <;> omega)))))⟩

set_option maxRecDepth 100000 in
set_option maxHeartbeats 4000000 in
theorem refaspect_ok (X Y : Int) (Wn Hn : Nat) (b o c : Nat) (l : List Nat) (w : World) (hl : SRow w (some ⟨b, o, none⟩) l) (hr : Right X Y Wn Hn l) (h3 : 3 ≤ Wn) (h4 : 3 ≤ Hn) :
    Calls Try.prog 84 #[fldV X Y Wn Hn (some ⟨b, o, none⟩) l.length c] w fun e w' => DirP 0 (X + 1) (Y + 1) ((Wn - 2 : Nat) : Int) ((Hn - 2 : Nat) : Int) (madeZ (fun x y => aspZ l Wn (cellNo X Y Wn x y).toNat) (X + 1) (Y + 1) (Wn - 2) ((Hn - 2) * (Wn - 2))) w e w' := by
  have KI := Lib.hid (fun w => refinner_ryes X Y Wn Hn (some ⟨b, o, none⟩) l.length c l w hr h3 h4)
  obtain ⟨W2, hW2⟩ : ∃ W2, W2 = Wn - 2 := ⟨_, rfl⟩
  obtain ⟨H2, hH2⟩ : ∃ H2, H2 = Hn - 2 := ⟨_, rfl⟩
  rw [← hW2, ← hH2] at KI ⊢
  have KG := Lib.hid (fun (i j : Nat) (hi : i < W2) (hj : j < H2) w (hl : SRow w (some ⟨b, o, none⟩) l) => inclines_at X Y Wn Hn (X + 1 + (i : Int)) (Y + 1 + (j : Int)) b o c (cellNo X Y Wn (X + 1 + (i : Int)) (Y + 1 + (j : Int))).toNat l w hl hr (InnerAt.of (by omega) (by omega) (by omega) (by omega)))
  have KD := Lib.hid (fun (k : Nat) w => refdirection_any (negF (gradF (l.getD (k + 1) 0) (l.getD (k - 1) 0))) (negF (gradF (l.getD (k + Wn) 0) (l.getD (k - Wn) 0))) w (neg_bds hr _ _).1 (neg_bds hr _ _).1 (neg_bds hr _ _).2 (neg_bds hr _ _).2)
  change Hid (∀ (k : Nat) w, Calls Try.prog 191 #[.float .f32 (negF (gradF (l.getD (k + 1) 0) (l.getD (k - 1) 0))), .float .f32 (negF (gradF (l.getD (k + Wn) 0) (l.getD (k - Wn) 0)))] w fun e w' => e = .returned (.int .i64 (aspZ l Wn k)) ∧ w = w') at KD
  have g1 : -4194304 ≤ X := hr.x1
  have g2 : X ≤ 4194304 := by have := hr.x2; omega
  have g3 : -4194304 ≤ Y := hr.y1
  have g4 : Y ≤ 4194304 := by have := hr.y2; omega
  have g5 : W2 ≤ 512 := by have := hr.w2; omega
  have g6 : H2 ≤ 512 := by have := hr.h2; omega
  have g7 : 1 ≤ W2 := by omega
  have g8 : 1 ≤ H2 := by omega
  have HL := Lib.hid hl
  generalize hψ : (fun x y => aspZ l Wn (cellNo X Y Wn x y).toNat) = ψ
  have Hψ : Hid (∀ x y, ψ x y = aspZ l Wn (cellNo X Y Wn x y).toNat) := by subst hψ; intro x y; rfl
  clear hl hr h3 h4 hW2 hH2 hψ
  obtain ⟨i0, hi, hz0, hz1, hz2⟩ := info_parts Try.infoInt
  go_enter Try.func84, Try.ntmps84
  go_wp2_with fail
  generalize hW0 : (w.alloc (.cells #[.int .i64 X, .int .i64 Y, .int .i64 Wn, .int .i64 Hn, .slice (some ⟨b, o, none⟩) l.length c] 36)).alloc (.cells #[.int .i64 0, .int .i64 0, .int .i64 0, .int .i64 0] 23) = W0 at *
  obtain ⟨E0, R0, B0⟩ := inner_world w X Y Wn Hn (.slice (some ⟨b, o, none⟩) l.length c) W0 hW0.symm
  clear hW0
  refine (KI.out _ ).mono ?_
  rintro e w1 ⟨rfl, b1⟩
  have E1 := E0.below b1 E0.lt
  have R1 := R0.below b1 R0.lt
  have B1 := B0.trans (b1.mono B0.size)
  clear b1 B0 R0 E0 KI
  have I0 := asp_start w X Y Wn Hn (X + 1) (Y + 1) W2 H2 (.slice (some ⟨b, o, none⟩) l.length c) w1 E1 R1 B1
  have hr1 : Hid (w.heap.size + 1 < w1.heap.size) := R1.lt
  clear E1 R1 B1
  go_wp2_with fail
  generalize hW2 : w1.alloc (.cells #[.int .i64 (X + 1), .int .i64 (Y + 1), .int .i64 (W2 : Int), .int .i64 (H2 : Int)] 23) = w2 at *
  have IW := I0 _ rfl
  clear I0
  clear hW2
  generalize w1.heap.size = r at *
  obtain ⟨r0, r1, r2, r3⟩ := IW.rg.cells
  have rl := IW.rg.lt
  clear r0 r1 r2 r3 rl
  go_loopw [7, 8, 9, 10, 11] (fun v vy _ _ _ wr => ∃ j : Nat, j ≤ H2 ∧ vy = .int .i64 (Y + 1 + j) ∧ AspInv w wr r X Y Wn Hn (X + 1) (Y + 1) W2 H2 (.slice (some ⟨b, o, none⟩) l.length c) v (madeZ ψ (X + 1) (Y + 1) W2 (j * W2))) (fun _ vy _ _ _ _ => (Y + 1 + H2 - intOf vy).toNat)
  case atStart => exact ⟨0, by omega, by simp, by rw [Nat.zero_mul]; exact IW⟩
  case round =>
    clear IW
    obtain ⟨j, hj, rfl, I⟩ := hrel
    have IH := Lib.hid I
    obtain ⟨r0, r1, r2, r3⟩ := I.rg.cells
    have rl := I.rg.lt
    clear I
    by_cases hlt : j < H2
    · have b1 : (Y + 1 + j : Int) < Y + 1 + H2 := by omega
      go_wp2_with fail
      obtain ⟨wo, rfl⟩ : ∃ wo : World, wo = wr := ⟨_, rfl⟩
      clear r0 r1 r2 r3 hj rl
      go_loopw [7, 9, 10, 11] (fun v vx _ _ wi => ∃ i : Nat, i ≤ W2 ∧ vx = .int .i64 (X + 1 + i) ∧ AspInv w wi r X Y Wn Hn (X + 1) (Y + 1) W2 H2 (.slice (some ⟨b, o, none⟩) l.length c) v (madeZ ψ (X + 1) (Y + 1) W2 (j * W2 + i))) (fun _ vx _ _ _ => (X + 1 + W2 - intOf vx).toNat)
      case atStart => exact ⟨0, by omega, by simp, by rw [Nat.add_zero]; exact IH.out⟩
      case round =>
        clear IH
        obtain ⟨i, hi', rfl, I⟩ := hrel
        have IH := Lib.hid I
        obtain ⟨r0, r1, r2, r3⟩ := I.rg.cells
        have rl := I.rg.lt
        by_cases hlt2 : i < W2
        · have b2 : (X + 1 + i : Int) < X + 1 + W2 := by omega
          have c0 := I.fo.cells.1
          have c1 := I.fo.cells.2.1
          have c2 := I.fo.cells.2.2.1
          have c3 := I.fo.cells.2.2.2.1
          have c4 := I.fo.cells.2.2.2.2
          have l0 := I.fo.lt
          have HC := Lib.hid (KG.out i j hlt2 hlt)
          have HM : Hid (madeZ ψ (X + 1) (Y + 1) W2 (j * W2 + i) ++ [ψ (X + 1 + (i : Int)) (Y + 1 + (j : Int))] = madeZ ψ (X + 1) (Y + 1) W2 (j * W2 + (i + 1))) := (madeZ_succ ψ (X + 1) (Y + 1) W2 i j hlt2).symm
          rw [Hψ.out] at HM
          have hml : (madeZ ψ (X + 1) (Y + 1) W2 (j * W2 + i)).length ≤ 262656 := by
            rw [madeZ_len]
            have := Nat.mul_le_mul (show j ≤ 512 by omega) g5
            omega
          have HLi := Lib.hid (HL.out.below I.below)
          clear I
          generalize (cellNo X Y Wn (X + 1 + (i : Int)) (Y + 1 + (j : Int))).toNat = k at *
          have HD := Lib.hid (KD.out k)
          generalize madeZ ψ (X + 1) (Y + 1) W2 (j * W2 + i) = m at *
          generalize aspZ l Wn k = y0 at *
          generalize gradF (l.getD (k + 1) 0) (l.getD (k - 1) 0) = gx at *
          generalize gradF (l.getD (k + Wn) 0) (l.getD (k - Wn) 0) = gy at *
          have n1 := fun w' => run_neg Try.prog gx w'
          have n2 := fun w' => run_neg Try.prog gy w'
          generalize negF gx = hx at *
          generalize negF gy = hy at *
          have G1 : Hid (m.length + 1 ≤ maxLen) := by unfold maxLen Hid; omega
          have G2 : Hid ((m.length + 1) * 8 ≤ 140737488355328) := by unfold Hid; omega
          go_wp2_with fail
          refine (HC.out _ HLi.out).mono ?_
          rintro e2 w2 ⟨rfl, hb⟩
          have I2 := Lib.hid (IH.out.call hb)
          clear hb
          go_wp2_with fail
          refine (HD.out _).mono ?_
          rintro e3 w3 ⟨rfl, rfl⟩
          have G3 : Hid (r + 1 ≤ (w2.alloc (.cells #[.int .i64 y0] 3)).heap.size) := (by have := I2.out.rg.lt; unfold Hid; simp; omega)
          clear c0 c1 c2 c3 c4 l0 r0 r1 r2 r3 rl hml
          go_wp2_with (at_builtin; refine wpList_append_own _ rfl _ _ 100 rfl (r + 1) 3 i0 (.int .i64 0) 1 8 Try.underlying100 hi hz0 hz1 hz2 rfl (by decide) _ m.length (m.map (Value.int .i64)) rfl (I2.out.own.alloc _) ⟨w2.heap.size, 0, none⟩ 1 1 [.int .i64 y0] rfl rfl (World.news_of_block (cs := #[.int .i64 y0]) (t := 3) (fr := (0, 0)) (heap_alloc_new w2 _)) (by simp [Value.oneCell']) G1.out G2.out G3.out ?_; intro v' w4 hown' hgrow hnil)
          have M3 := Lib.hid (I2.out.app hown' hgrow)
          clear hown' hgrow hnil
          go_wp2_with fail
          go_roundw
          case rel => exact ⟨i + 1, by omega, by go_num, HM.out ▸ M3.out⟩
          case measure => simp [intOf]; omega
        · clear I
          have HE : Hid (j * W2 + i = (j + 1) * W2) := by
            have : i = W2 := by omega
            unfold Hid; rw [this, Nat.add_mul, Nat.one_mul]
          have IH1 := IH.out
          rw [HE.out] at IH1
          have IH2 := Lib.hid IH1
          clear IH IH1
          go_wp2_with fail
          go_roundw
          case rel => exact ⟨j + 1, by omega, by go_num, IH2.out⟩
          case measure => simp [intOf]; omega
    · have hje : j = H2 := by omega
      subst hje
      obtain ⟨g, cap, rfl, hg⟩ : ∃ g cap, u7 = .slice (some ⟨g, 0, none⟩) (madeZ ψ (X + 1) (Y + 1) W2 (j * W2)).length cap ∧ r + 1 ≤ g := by
        have ho := IH.out.own
        rcases ho.2 with ⟨_, h0⟩ | ⟨g, cap, cur, rfl, hB, hh, _⟩
        · exfalso
          rw [madeZ_len] at h0
          have := Nat.mul_le_mul g8 g7
          omega
        · exact ⟨g, cap, rfl, hB⟩
      have hlen : (madeZ ψ (X + 1) (Y + 1) W2 (j * W2)).length ≤ 262656 := by
        rw [madeZ_len]
        have := Nat.mul_le_mul g6 g5
        omega
      generalize hmq : madeZ ψ (X + 1) (Y + 1) W2 (j * W2) = m at *
      have HMQ := Lib.hid hmq
      clear hmq
      have HR : Hid (IRow wr (some ⟨g, 0, none⟩) m) := irow_of IH.out.own (by omega)
      have hlr : w.heap.size + 1 < r := IH.out.lr
      have RZ := IH.out.rz
      have l1 : w.heap.size + 1 < wr.heap.size := RZ.lt
      obtain ⟨d0, d1, d2, d3⟩ := RZ.cells
      have q0 := RZ.frozen 0
      have q1 := RZ.frozen 1
      have q2 := RZ.frozen 2
      have q3 := RZ.frozen 3
      have HB := Lib.hid IH.out.below
      have HGL := Lib.hid hg
      clear RZ IH hg
      go_wp2_with fail
      go_region
      all_goals
        go_wp2_with fail
        have B2 := HB.out
        have R2 := HR.out
        have hgl := HGL.out
        obtain rfl := HMQ.out
        refine bodyPost_ret (v := .tuple #[.slice (some ⟨g, 0, none⟩) (madeZ ψ (X + 1) (Y + 1) W2 (j * W2)).length cap, reg (X + 1) (Y + 1) (W2 : Int) (j : Int), .int .i64 0]) (by simp [results, Try.results84, go_sem, *]) rfl ⟨⟨_, cap, rfl, ?_⟩, (by have hszz := B2.size; repeat (first | with_reducible exact B2 | with_reducible apply Below.drew | with_reducible refine below_drewN ?_ _ | (with_reducible refine Below.setCell ?_ ?_ _; rotate_left; focus (first | omega | (simp <;> omega))) | (with_reducible refine Below.alloc ?_ ?_ _; rotate_left; focus (first | omega | (simp <;> omega)))))⟩
        repeat (first | with_reducible exact R2 | with_reducible refine IRow.drew ?_ | with_reducible refine IRow.drewN ?_ _ | with_reducible refine IRow.setCell ?_ (by simp; omega) _)
end Go.Proofs.Ytnfebeebjelgbaa
