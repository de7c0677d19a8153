import Derived.Test.YtnfebeebjelgbaaTileOp
namespace Go.Proofs.Ytnfebeebjelgbaa
open Go.ChangeShapes Go.WideShapes Go.ChangeAt Go.RowKit
open Ieee.Format (fin finE htE allFin allHt all_true all_false mulF subF addF Ht Bd divF rootF floorF easeF mixF)
set_option linter.unusedVariables false

structure RTiles (w wr : World) (B : Nat) (X Y W H : Int) (v : Value) (m : List Rg) : Prop where
  rg : Reg wr w.heap.size X Y W H
  l0 : w.heap.size < B
  bz : B ≤ wr.heap.size
  own : wr.ownsRow B 23 4 v m.length (rgs m)
  below : Below w.heap.size w wr

section
variable {w wr w2 w3 : World} {B : Nat} {X Y W H : Int} {v v' : Value} {m : List Rg}
theorem RTiles.call (h : RTiles w wr B X Y W H v m) (hb : Below wr.heap.size wr w2) : RTiles w w2 B X Y W H v m :=
  ⟨h.rg.below hb h.rg.lt, h.l0, Nat.le_trans h.bz hb.size, ownsRow_below h.own hb (fun k hk => (h.own.lt k hk).2), h.below.trans (hb.mono h.below.size)⟩
theorem RTiles.alloc (h : RTiles w wr B X Y W H v m) (o : Obj) : RTiles w (wr.alloc o) B X Y W H v m :=
  h.call ((Below.refl _ _).alloc (Nat.le_refl _) _)
theorem RTiles.app {r : Rg} {o : Obj} (h : RTiles w w2 B X Y W H v m)
    (hown : w3.ownsRow B 23 4 v' (m.length + 1) (rgs m ++ rgV r)) (hg : (w2.alloc o).grownBy w3 v.ownBlock) : RTiles w w3 B X Y W H v' (m ++ [r]) := by
  have hne : ∀ k, k < B → some k ≠ v.ownBlock := fun k hk e => by
    have := (h.own.lt k e.symm).1; omega
  have hA := h.alloc o
  refine ⟨hA.rg.grown hg (hne _ h.l0), h.l0, Nat.le_trans hA.bz hg.size, ?_, ?_⟩
  · rw [rgs_append, rgs_one]; simpa using hown
  · refine hA.below.grown hg (by have := hA.below.size; exact this) (fun k hk => ?_)
    have := (h.own.lt k hk).1
    have := h.l0
    omega
end

theorem reftiles_bad (X Y W H s C : Int) (w : World) (h : chk X Y W H = C ∧ C ≠ 0 ∨ chk X Y W H = 0 ∧ (s < 1 ∨ 256 < s) ∧ C = 3) :
    Calls Try.prog 19 #[reg X Y W H, .int .i64 s] w fun e w' => TilesP C [] w e w' := by
  have KC := Lib.hid (fun w => check2 X Y W H w)
  rcases h with ⟨h1, h2⟩ | ⟨h1, h2, rfl⟩
  · rw [h1] at KC
    clear h1
    go_enter Try.func19, Try.ntmps19
    go_wp2_with fail
    refine (KC.out _).mono ?_
    rintro e w1 ⟨rfl, b1⟩
    have B1 : Below w.heap.size w w1 := (show Below w.heap.size w (w.alloc (.cells #[.int .i64 X, .int .i64 Y, .int .i64 W, .int .i64 H] 23)) from (by repeat (first | with_reducible exact Below.refl _ _ | with_reducible apply Below.drew | with_reducible refine below_drewN ?_ _ | (with_reducible refine Below.setCell ?_ ?_ _; rotate_left; focus (first | omega | (simp <;> omega))) | (with_reducible refine Below.alloc ?_ ?_ _; rotate_left; focus (first | omega | (simp <;> omega)))))).trans (b1.mono (by simp))
    clear b1
    go_wp2_with fail
    go_ret2
    exact ⟨⟨none, 0, rfl, RgRow.nil _ _⟩, B1⟩
  · rw [h1] at KC
    clear h1
    have t : s < 1 ∨ ¬ s < 1 ∧ 256 < s := by omega
    clear h2
    rcases t with t | ⟨t1, t2⟩
    all_goals
      go_enter Try.func19, Try.ntmps19
      go_wp2_with fail
      refine (KC.out _).mono ?_
      rintro e w1 ⟨rfl, b1⟩
      have B1 : Below w.heap.size w w1 := (show Below w.heap.size w (w.alloc (.cells #[.int .i64 X, .int .i64 Y, .int .i64 W, .int .i64 H] 23)) from (by repeat (first | with_reducible exact Below.refl _ _ | with_reducible apply Below.drew | with_reducible refine below_drewN ?_ _ | (with_reducible refine Below.setCell ?_ ?_ _; rotate_left; focus (first | omega | (simp <;> omega))) | (with_reducible refine Below.alloc ?_ ?_ _; rotate_left; focus (first | omega | (simp <;> omega)))))).trans (b1.mono (by simp))
      clear b1
      go_wp2_with fail
      go_ret2
      exact ⟨⟨none, 0, rfl, RgRow.nil _ _⟩, B1⟩

/-- the numbers of the tiles of a side -/
structure SideN (X W s f l : Int) (n : Nat) : Prop where
  nn : l - f + 1 = n
  f1 : -8388864 ≤ f
  f2 : f ≤ 8388608
  nl : n ≤ 512
  mul : ∀ i : Nat, (f + (i : Int)) * s = tq X s + (i : Int) * s
theorem siden_of (X W s : Int) (hs : 1 ≤ s) (hs2 : s ≤ 256) (hw : 1 ≤ W) (hw2 : W ≤ 512) (hx : -4194304 ≤ X) (hx2 : X ≤ 4194304 - W) : SideN X W s (X / s) ((X + W - 1) / s) (tnm X W s) := by
  have h1 := ediv_small X s 8388608 (by omega) (by omega) (by omega) (by omega)
  obtain ⟨h3, h4⟩ := tnm_pos X W s hs hw
  have h5 := tnm_le X W s hs hw
  refine ⟨by omega, by omega, by omega, by omega, fun i => ?_⟩
  unfold tq
  rw [Int.add_mul]

set_option maxRecDepth 100000 in
set_option maxHeartbeats 4000000 in
theorem reftiles_all (X Y W H s : Int) (w : World) (hc : chk X Y W H = 0) (hs : 1 ≤ s) (hs2 : s ≤ 256) (C : Int) (L0 : List Rg) (hO : (tnm X W s : Int) * tnm Y H s ≤ 1024 ∧ C = 0 ∧ L0 = tilesL X Y W H s ∨ 1024 < (tnm X W s : Int) * tnm Y H s ∧ C = 4 ∧ L0 = []) :
    Calls Try.prog 19 #[reg X Y W H, .int .i64 s] w fun e w' => TilesP C L0 w e w' := by
  obtain ⟨c1, c2, c3, c4, c5, c6, c7, c8, _⟩ := chk_zero hc
  have SX := side_of X W s hs hs2 c1 c2 c5 c7
  have SY := side_of Y H s hs hs2 c3 c4 c6 c8
  have hn1 : 1 ≤ tnm X W s := (tnm_pos X W s hs c1).1
  have hm1 : 1 ≤ tnm Y H s := (tnm_pos Y H s hs c3).1
  have hn5 : tnm X W s ≤ 512 := by have := tnm_le X W s hs c1; omega
  have hm5 : tnm Y H s ≤ 512 := by have := tnm_le Y H s hs c3; omega
  have HO := Lib.hid hO
  unfold tilesL at HO
  clear hO
  obtain ⟨i0, hi, hz0, hz1, hz2⟩ := info_parts Try.infoReg
  have KC := Lib.hid (fun w => check2 X Y W H w)
  rw [hc] at KC
  have NX := siden_of X W s hs hs2 c1 c2 c5 c7
  have NY := siden_of Y H s hs hs2 c3 c4 c6 c8
  have KQ1 := Lib.hid (fun w => quo_any X s w (by omega) (by omega) (by omega) (by omega))
  have KQ2 := Lib.hid (fun w => quo_any Y s w (by omega) (by omega) (by omega) (by omega))
  have KQ3 := Lib.hid (fun w => quo_any (X + W - 1) s w (by omega) (by omega) (by omega) (by omega))
  have KQ4 := Lib.hid (fun w => quo_any (Y + H - 1) s w (by omega) (by omega) (by omega) (by omega))
  have KM := Lib.hid (fun (i j : Nat) (hi : i < tnm X W s) (hj : j < tnm Y H s) w => common2 (tq X s + (i : Int) * s) (tq Y s + (j : Int) * s) s s X Y W H w (by have := (side_n SX hs i).1 hi; omega) (by have := (side_n SX hs i).1 hi; omega) (by have := (side_n SY hs j).1 hj; omega) (by have := (side_n SY hs j).1 hj; omega) (by omega) (by omega) (by omega) (by omega) (by omega) (by omega) (by omega) (by omega) (by omega) (by omega) (by omega) (by omega))
  have KT := Lib.hid (fun (i j : Nat) (hi : i < tnm X W s) (hj : j < tnm Y H s) => (common_tile X Y W H s 0 0 i j hc hs hs2 hi hj).2)
  have KA := Lib.hid (fun i j (hi : i < tnm X W s) => tilesN_succ X Y W H s (tnm X W s) i j hi)
  have KX := Lib.hid (fun i => side_n SX hs i)
  have KY := Lib.hid (fun i => side_n SY hs i)
  have KNX := Lib.hid NX.mul
  have KNY := Lib.hid NY.mul
  have ux := NX.nn; have ux1 := NX.f1; have ux2 := NX.f2; have ux3 := NX.nl
  have uy := NY.nn; have uy1 := NY.f1; have uy2 := NY.f2; have uy3 := NY.nl
  generalize tq X s = fx at *
  generalize tq Y s = fy at *
  generalize tq (X + W - 1) s = lx at *
  generalize tq (Y + H - 1) s = ly at *
  generalize tnm X W s = n at *
  generalize tnm Y H s = m at *
  generalize X / s = qx at *
  generalize Y / s = qy at *
  generalize (X + W - 1) / s = qx2 at *
  generalize (Y + H - 1) / s = qy2 at *
  obtain rfl : qx2 = qx + n - 1 := by omega
  obtain rfl : qy2 = qy + m - 1 := by omega
  clear hc SX SY NX NY ux uy
  obtain ⟨P, hP⟩ : ∃ P : Int, (n : Int) * m = P := ⟨_, rfl⟩
  have hP0 : 0 ≤ P := by rw [← hP]; exact Int.mul_nonneg (by omega) (by omega)
  have hP1 : P ≤ 512 * 512 := by rw [← hP]; exact Int.mul_le_mul (by omega) (by omega) (by omega) (by omega)
  go_enter Try.func19, Try.ntmps19
  go_wp2_with fail
  refine (KC.out _).mono ?_
  rintro e w1 ⟨rfl, b1⟩
  have R1 := (Reg.new w X Y W H).below b1 (by simp)
  have B1 : Below w.heap.size w w1 := (show Below w.heap.size w (w.alloc (.cells #[.int .i64 X, .int .i64 Y, .int .i64 W, .int .i64 H] 23)) from (by repeat (first | with_reducible exact Below.refl _ _ | with_reducible apply Below.drew | with_reducible refine below_drewN ?_ _ | (with_reducible refine Below.setCell ?_ ?_ _; rotate_left; focus (first | omega | (simp <;> omega))) | (with_reducible refine Below.alloc ?_ ?_ _; rotate_left; focus (first | omega | (simp <;> omega)))))).trans (b1.mono (by simp))
  clear b1 KC
  obtain ⟨c0, c1, c2, c3⟩ := R1.cells
  have l1 := R1.lt
  go_wp2_with fail
  clear c0 c1 c2 c3 l1
  refine (KQ1.out _).mono ?_
  rintro e w2 ⟨rfl, b1⟩
  have R2 := R1.below b1 R1.lt
  have B2 := B1.trans (b1.mono B1.size)
  clear b1 R1 B1
  have R1 := R2
  have B1 := B2
  clear R2 B2
  obtain ⟨c0, c1, c2, c3⟩ := R1.cells
  have l1 := R1.lt
  go_wp2_with fail
  clear c0 c1 c2 c3 l1
  refine (KQ2.out _).mono ?_
  rintro e w2 ⟨rfl, b1⟩
  have R2 := R1.below b1 R1.lt
  have B2 := B1.trans (b1.mono B1.size)
  clear b1 R1 B1
  have R1 := R2
  have B1 := B2
  clear R2 B2
  obtain ⟨c0, c1, c2, c3⟩ := R1.cells
  have l1 := R1.lt
  go_wp2_with fail
  clear c0 c1 c2 c3 l1
  refine (KQ3.out _).mono ?_
  rintro e w2 ⟨rfl, b1⟩
  have R2 := R1.below b1 R1.lt
  have B2 := B1.trans (b1.mono B1.size)
  clear b1 R1 B1
  have R1 := R2
  have B1 := B2
  clear R2 B2
  obtain ⟨c0, c1, c2, c3⟩ := R1.cells
  have l1 := R1.lt
  go_wp2_with fail
  clear c0 c1 c2 c3 l1
  refine (KQ4.out _).mono ?_
  rintro e w2 ⟨rfl, b1⟩
  have R2 := R1.below b1 R1.lt
  have B2 := B1.trans (b1.mono B1.size)
  clear b1 R1 B1
  have R1 := R2
  have B1 := B2
  clear R2 B2
  obtain ⟨c0, c1, c2, c3⟩ := R1.cells
  have l1 := R1.lt
  go_upto_region 10 with fail
  have e1 : qx + n - 1 - qx = n - 1 := by omega
  have e2 : qy + m - 1 - qy = m - 1 := by omega
  have e3 : (n : Int) - 1 + 1 = n := by omega
  have e4 : (m : Int) - 1 + 1 = m := by omega
  rcases HO.out with ⟨hN, rfl, rfl⟩ | ⟨hN, rfl, rfl⟩
  · clear HO
    have hNM : m * n ≤ 1024 := by
      have : ((m * n : Nat) : Int) = (n : Int) * m := by rw [Int.natCast_mul, Int.mul_comm]
      omega
    have hN2 : P ≤ 1024 := by omega
    clear hN
    go_wp2_with fail
    have I0 : Hid (RTiles w w2 w2.heap.size X Y W H (.slice none 0 0) []) := ⟨R1, R1.lt, Nat.le_refl _, World.ownsRow_nil _ _ _ _, B1⟩
    clear R1 B1 c0 c1 c2 c3 l1 e1 e2 e3 e4 KQ1 KQ2 KQ3 KQ4
    generalize hBB : w2.heap.size = B at *
    clear hBB
    go_loopw [15, 16, 17, 18, 19] (fun v vy _ _ _ wr => ∃ j : Nat, j ≤ m ∧ vy = .int .i64 (qy + (j : Int)) ∧ RTiles w wr B X Y W H v (tilesN X Y W H s n (j * n))) (fun _ vy _ _ _ _ => (qy + m - intOf vy).toNat)
    case atStart => exact ⟨0, by omega, by simp, by rw [Nat.zero_mul]; exact I0.out⟩
    case round =>
      clear I0
      obtain ⟨j, hj, rfl, I⟩ := hrel
      have IH := Lib.hid I
      clear I
      by_cases hlt : j < m
      · have b1 : qy + (j : Int) ≤ qy + (m : Int) - 1 := by omega
        go_wp2_with fail
        obtain ⟨wo, rfl⟩ : ∃ wo : World, wo = wr := ⟨_, rfl⟩
        clear hj
        go_loopw [15, 17, 18, 19] (fun v vx _ _ wi => ∃ i : Nat, i ≤ n ∧ vx = .int .i64 (qx + (i : Int)) ∧ RTiles w wi B X Y W H v (tilesN X Y W H s n (j * n + i))) (fun _ vx _ _ _ => (qx + n - intOf vx).toNat)
        case atStart => exact ⟨0, by omega, by simp, by rw [Nat.add_zero]; exact IH.out⟩
        case round =>
          clear IH
          obtain ⟨i, hi', rfl, I⟩ := hrel
          have IH := Lib.hid I
          obtain ⟨c0, c1, c2, c3⟩ := I.rg.cells
          have l0 := I.rg.lt
          clear I
          by_cases hlt2 : i < n
          · obtain ⟨x1, x2, x3, _⟩ := (KX.out i).1 hlt2
            have b2 : qx + (i : Int) ≤ qx + (n : Int) - 1 := by omega
            have hxi := KNX.out i
            have HC := Lib.hid (KM.out i j hlt2 hlt)
            have HT := Lib.hid (KT.out i j hlt2 hlt)
            have HM : Hid (tilesN X Y W H s n (j * n + i) ++ [(tlo X s i, tlo Y s j, twd X W s i, twd Y H s j)] = tilesN X Y W H s n (j * n + (i + 1))) := (KA.out i j hlt2).symm
            have hml : (tilesN X Y W H s n (j * n + i)).length ≤ 1024 := by
              rw [tilesN_len]
              have := Nat.mul_le_mul_right n (show j + 1 ≤ m by omega)
              rw [Nat.add_mul, Nat.one_mul] at this
              omega
            obtain ⟨y1, y2, y3, _⟩ := (KY.out j).1 hlt
            have hyj := KNY.out j
            rw [HT.out] at HC
            clear HT
            generalize fx + (i : Int) * s = xi at *
            generalize fy + (j : Int) * s = yj at *
            generalize tlo X s i = ta at *
            generalize tlo Y s j = tb at *
            generalize twd X W s i = tc at *
            generalize twd Y H s j = td at *
            generalize tilesN X Y W H s n (j * n + i) = L at *
            have G1 : Hid (L.length + 1 ≤ maxLen) := by unfold maxLen Hid; omega
            have G2 : Hid ((L.length + 1) * 32 ≤ 140737488355328) := by unfold Hid; omega
            go_wp2_with fail
            refine (HC.out _).mono ?_
            rintro e w2 ⟨rfl, hb⟩
            have I2 := Lib.hid ((IH.out.call hb).alloc (.cells #[.int .i64 ta, .int .i64 tb, .int .i64 tc, .int .i64 td] 23))
            clear hb c0 c1 c2 c3 l0
            go_upto_region 20 with fail
            have hr := Reg.new w2 ta tb tc td
            generalize w2.alloc (.cells #[.int .i64 ta, .int .i64 tb, .int .i64 tc, .int .i64 td] 23) = w3 at *
            obtain ⟨n0, n1, n2, n3⟩ := hr.cells
            have ln := hr.lt
            generalize w2.heap.size = kn at *
            clear hr
            have G3 : Hid (B ≤ (w3.alloc (.cells #[.int .i64 ta, .int .i64 tb, .int .i64 tc, .int .i64 td] 23)).heap.size) := by have := I2.out.bz; unfold Hid; simp; omega
            go_wp2_with (at_builtin; refine wpList_append_own _ rfl _ _ 29 rfl B 23 i0 (.agg #[.int .i64 0, .int .i64 0, .int .i64 0, .int .i64 0]) 4 32 Try.underlying29 hi hz0 hz1 hz2 rfl (by decide) _ L.length (rgs L) rfl (I2.out.own.alloc _) ⟨w3.heap.size, 0, none⟩ 1 1 [.int .i64 ta, .int .i64 tb, .int .i64 tc, .int .i64 td] rfl rfl (World.news_of_block (cs := #[.int .i64 ta, .int .i64 tb, .int .i64 tc, .int .i64 td]) (t := 23) (fr := (0, 0)) (heap_alloc_new w3 _)) (by simp [Value.oneCell']) G1.out G2.out G3.out ?_; intro v' w4 hown' hgrow hnil)
            have M3 := Lib.hid (I2.out.app (r := (ta, tb, tc, td)) hown' hgrow)
            clear hown' hgrow hnil n0 n1 n2 n3 ln
            go_wp2_with fail
            go_roundw
            case rel => exact ⟨i + 1, by omega, by go_num, HM.out ▸ M3.out⟩
            case measure => simp [intOf]; omega
          · have hin : i = n := by omega
            subst hin
            have HE : Hid (j * i + i = (j + 1) * i) := by unfold Hid; rw [Nat.add_mul, Nat.one_mul]
            have IH1 := IH.out
            rw [HE.out] at IH1
            have IH2 := Lib.hid IH1
            clear IH IH1
            go_wp2_with fail
            go_roundw
            case rel => exact ⟨j + 1, by omega, by go_num, IH2.out⟩
            case measure => simp [intOf]; omega
      · have hjm : j = m := by omega
        subst hjm
        have hlen : Hid ((tilesN X Y W H s n (j * n)).length ≤ 1024) := by unfold Hid; rw [tilesN_len]; exact hNM
        obtain ⟨g, cap, rfl⟩ : ∃ g cap, u15 = .slice (some ⟨g, 0, none⟩) (tilesN X Y W H s n (j * n)).length cap := by
          have ho := IH.out.own
          rcases ho.2 with ⟨_, h0⟩ | ⟨g, cap, cur, rfl, hB, hh, _⟩
          · exfalso
            rw [tilesN_len] at h0
            have := Nat.mul_le_mul hm1 hn1
            omega
          · exact ⟨g, cap, rfl⟩
        go_wp2_with fail
        go_ret2
        exact ⟨⟨_, cap, rfl, rgrow_of IH.out.own hlen.out⟩, IH.out.below⟩
  · clear HO
    have hN2 : ¬ P ≤ 1024 := by omega
    have B2 := Lib.hid B1
    clear hN R1 B1
    go_wp2_with fail
    go_ret2
    exact ⟨⟨none, 0, rfl, RgRow.nil _ _⟩, B2.out⟩
end Go.Proofs.Ytnfebeebjelgbaa
