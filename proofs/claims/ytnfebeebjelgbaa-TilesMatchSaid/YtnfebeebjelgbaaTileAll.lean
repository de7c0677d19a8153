import Derived.Test.YtnfebeebjelgbaaTileOp
import Derived.Deep.DeepCutAuto
namespace Go.Proofs.Ytnfebeebjelgbaa
open Go.ChangeShapes Go.WideShapes Go.ChangeAt Go.RowKit
open Ieee.Format (fin finE htE allFin allHt all_true all_false mulF subF addF Ht Bd divF rootF floorF easeF mixF)
set_option linter.unusedVariables false

theorem bel_stp {w1 W w2 : World} (h : Below w1.heap.size w1 W) (b : Below W.heap.size W w2) : Below w1.heap.size w1 w2 := h.trans (b.mono h.size)
theorem new_reg1 {W w2 : World} {a b c d : Int} (hb : Below (W.alloc (.cells #[.int .i64 a, .int .i64 b, .int .i64 c, .int .i64 d] 23)).heap.size (W.alloc (.cells #[.int .i64 a, .int .i64 b, .int .i64 c, .int .i64 d] 23)) w2) : Reg w2 W.heap.size a b c d :=
  (Reg.new W a b c d).below hb (by simp)
theorem new_reg2 {W w2 : World} {a b c d a' b' c' d' : Int} (hb : Below ((W.alloc (.cells #[.int .i64 a, .int .i64 b, .int .i64 c, .int .i64 d] 23)).alloc (.cells #[.int .i64 a', .int .i64 b', .int .i64 c', .int .i64 d'] 23)).heap.size ((W.alloc (.cells #[.int .i64 a, .int .i64 b, .int .i64 c, .int .i64 d] 23)).alloc (.cells #[.int .i64 a', .int .i64 b', .int .i64 c', .int .i64 d'] 23)) w2) : Reg w2 W.heap.size a b c d ∧ Reg w2 (W.heap.size + 1) a' b' c' d' :=
  ⟨((Reg.new W a b c d).alloc _).below hb (by simp; omega), by
    have := (Reg.new (W.alloc (.cells #[.int .i64 a, .int .i64 b, .int .i64 c, .int .i64 d] 23)) a' b' c' d').below hb (by simp)
    simpa using this⟩
theorem reg_new1 (w : World) (o : Obj) (x y p q : Int) : Reg ((w.alloc o).alloc (.cells #[.int .i64 x, .int .i64 y, .int .i64 p, .int .i64 q] 23)) (w.heap.size + 1) x y p q := by
  have := Reg.new (w.alloc o) x y p q
  simpa using this
theorem reg_newE {w : World} {k : Nat} {x y p q : Int} (h : k = w.heap.size) : Reg (w.alloc (.cells #[.int .i64 x, .int .i64 y, .int .i64 p, .int .i64 q] 23)) k x y p q := by subst h; exact Reg.new _ _ _ _ _
theorem reg_carry {W w2 : World} {k : Nat} {a b c d : Int} (h : Reg W k a b c d) (hb : Below W.heap.size W w2) : Reg w2 k a b c d := h.below hb h.lt
theorem reg_carry1 {W w2 : World} {o : Obj} {k : Nat} {a b c d : Int} (h : Reg W k a b c d) (hb : Below (W.alloc o).heap.size (W.alloc o) w2) : Reg w2 k a b c d := (h.alloc o).below hb (h.alloc o).lt
theorem bel_undrew {W w2 : World} (hb : Below W.drew.heap.size W.drew w2) : Below W.heap.size W w2 := ((Below.refl W.heap.size W).drew).trans hb
theorem reg_stored {w : World} {k : Nat} {a b c d x y p q : Int} (h : Reg w k a b c d) :
    Reg ((((w.setCell ⟨k, 0, none⟩ (.int .i64 x)).setCell ⟨k, 1, none⟩ (.int .i64 y)).setCell ⟨k, 2, none⟩ (.int .i64 p)).setCell ⟨k, 3, none⟩ (.int .i64 q)) k x y p q := by
  unfold Reg at *
  exact heap_setCell_same _ k 3 _ _ _ (heap_setCell_same _ k 2 _ _ _ (heap_setCell_same _ k 1 _ _ _ (heap_setCell_same w k 0 _ _ _ h)))
theorem tiles_start {w wr : World} {k7 k8 : Nat} {X Y W H fx fy lx ly s : Int} (rg : Reg wr w.heap.size X Y W H) (r7 : Reg wr k7 fx fy s s) (r8 : Reg wr k8 lx ly s s) (b : Below w.heap.size w wr) : TilesInv w wr wr.heap.size k7 k8 X Y W H fx fy lx ly s (.slice none 0 0) [] :=
  ⟨rg, r7, r8, rg.lt, r7.lt, r8.lt, Nat.le_refl _, World.ownsRow_nil _ _ _ _, b⟩
set_option maxRecDepth 100000 in
set_option maxHeartbeats 40000000 in
theorem tiles_all (X Y W H s : Int) (w : World) (hc : chk X Y W H = 0) (hs : 1 ≤ s) (hs2 : s ≤ 256) (C : Int) (L0 : List Rg) (hO : (tnm X W s : Int) * tnm Y H s ≤ 1024 ∧ C = 0 ∧ L0 = tilesL X Y W H s ∨ 1024 < (tnm X W s : Int) * tnm Y H s ∧ C = 4 ∧ L0 = []) :
    Calls Try.prog 18 #[reg X Y W H, .int .i64 s] w fun e w' => TilesP C L0 w e w' := by
  obtain ⟨c1, c2, c3, c4, c5, c6, c7, c8, _⟩ := chk_zero hc
  have SX := side_of X W s hs hs2 c1 c2 c5 c7
  have SY := side_of Y H s hs hs2 c3 c4 c6 c8
  have hn1 : 1 ≤ tnm X W s := (tnm_pos X W s hs c1).1
  have hm1 : 1 ≤ tnm Y H s := (tnm_pos Y H s hs c3).1
  have hn5 : tnm X W s ≤ 512 := by have := tnm_le X W s hs c1; omega
  have hm5 : tnm Y H s ≤ 512 := by have := tnm_le Y H s hs c3; omega
  have HO := Lib.hid hO
  unfold tilesL at HO
  clear hO
  obtain ⟨i0, hi, hz0, hz1, hz2⟩ := info_parts Try.infoReg
  have KC := Lib.hid (fun w => check1 X Y W H w)
  rw [hc] at KC
  have KS1 := Lib.hid (fun w => square_any s X Y w hs hs2 (by omega) (by omega) (by omega) (by omega))
  have KS2 := Lib.hid (fun w => square_any s (X + W - 1) (Y + H - 1) w hs hs2 (by omega) (by omega) (by omega) (by omega))
  have KM := Lib.hid (fun (i j : Nat) (hi : i < tnm X W s) (hj : j < tnm Y H s) w => common1 X Y W H (tq X s + (i : Int) * s) (tq Y s + (j : Int) * s) s s w (by omega) (by omega) (by omega) (by omega) (by omega) (by omega) (by omega) (by omega) (by have := SX.f1; have := (side_n SX hs i).1 hi; omega) (by have := (side_n SX hs i).1 hi; omega) (by have := (side_n SY hs j).1 hj; omega) (by have := (side_n SY hs j).1 hj; omega) (by omega) (by omega) (by omega) (by omega))
  have KT := Lib.hid (fun (i j : Nat) (hi : i < tnm X W s) (hj : j < tnm Y H s) => (common_tile X Y W H s 0 0 i j hc hs hs2 hi hj).1)
  have KA := Lib.hid (fun i j (hi : i < tnm X W s) => tilesN_succ X Y W H s (tnm X W s) i j hi)
  have KX := Lib.hid (fun i => side_n SX hs i)
  have KY := Lib.hid (fun i => side_n SY hs i)
  have HSX := Lib.hid SX
  have HSY := Lib.hid SY
  have qx := SX.qt
  have qy := SY.qt
  have fx1 := SX.f1; have lx2 := SX.l2; have flx := SX.fl
  have fy1 := SY.f1; have ly2 := SY.l2; have fly := SY.fl
  generalize tq X s = fx at *
  generalize tq Y s = fy at *
  generalize tq (X + W - 1) s = lx at *
  generalize tq (Y + H - 1) s = ly at *
  generalize tnm X W s = n at *
  generalize tnm Y H s = m at *
  clear hc SX SY
  go_enter Try.func18, Try.ntmps18
  go_wp2_with fail
  refine (KC.out _).mono ?_
  rintro e w1 ⟨rfl, b1⟩
  have R1 := (Reg.new w X Y W H).below b1 (by simp)
  have B1 : Below w.heap.size w w1 := (show Below w.heap.size w (w.alloc (.cells #[.int .i64 X, .int .i64 Y, .int .i64 W, .int .i64 H] 23)) from (by repeat (first | with_reducible exact Below.refl _ _ | with_reducible apply Below.drew | with_reducible refine below_drewN ?_ _ | (with_reducible refine Below.setCell ?_ ?_ _; rotate_left; focus (first | omega | (simp <;> omega))) | (with_reducible refine Below.alloc ?_ ?_ _; rotate_left; focus (first | omega | (simp <;> omega)))))).trans (b1.mono (by simp))
  clear b1 KC
  go_upto_region 6 with fail
  go_cut [7, 8] (fun p q wx => ∃ k7 k8 : Nat, p = .pointer (some ⟨k7, 0, none⟩) ∧ q = .pointer (some ⟨k8, 0, none⟩) ∧ TilesInv w wx wx.heap.size k7 k8 X Y W H fx fy lx ly s (.slice none 0 0) [])
  case first =>
    obtain ⟨c0, c1, c2, c3⟩ := R1.cells
    have l1 := R1.lt
    have s1 : IntKind.i64.wrap (X + W) = X + W := IntWalk.i64_in _ (by omega)
    have s2 : IntKind.i64.wrap (X + W - 1) = X + W - 1 := IntWalk.i64_in _ (by omega)
    have s3 : IntKind.i64.wrap (Y + H) = Y + H := IntWalk.i64_in _ (by omega)
    have s4 : IntKind.i64.wrap (Y + H - 1) = Y + H - 1 := IntWalk.i64_in _ (by omega)
    have hk2 : Below w1.heap.size w1 w1 := Below.refl _ _
    clear KM KT KA KX KY HSX HSY qx qy hi hz0 hz1 HO hn1 hm1 hn5 hm5
    go_region_held3 (fun w' => w'.cell? ⟨w.heap.size, 0, none⟩ = some (.int .i64 X) ∧ w'.cell? ⟨w.heap.size, 1, none⟩ = some (.int .i64 Y) ∧ w'.cell? ⟨w.heap.size, 2, none⟩ = some (.int .i64 W) ∧ w'.cell? ⟨w.heap.size, 3, none⟩ = some (.int .i64 H) ∧ Below w1.heap.size w1 w')
      (exact ⟨(Below.cell (by have hszz := hk2.size; repeat (first | with_reducible exact hk2 | with_reducible apply Below.drew | with_reducible refine below_drewN ?_ _ | (with_reducible refine Below.setCell ?_ ?_ _; rotate_left; focus (first | omega | (simp <;> omega))) | (with_reducible refine Below.alloc ?_ ?_ _; rotate_left; focus (first | omega | (simp <;> omega))))) (p := ⟨w.heap.size, 0, none⟩) l1).trans c0, (Below.cell (by have hszz := hk2.size; repeat (first | with_reducible exact hk2 | with_reducible apply Below.drew | with_reducible refine below_drewN ?_ _ | (with_reducible refine Below.setCell ?_ ?_ _; rotate_left; focus (first | omega | (simp <;> omega))) | (with_reducible refine Below.alloc ?_ ?_ _; rotate_left; focus (first | omega | (simp <;> omega))))) (p := ⟨w.heap.size, 1, none⟩) l1).trans c1, (Below.cell (by have hszz := hk2.size; repeat (first | with_reducible exact hk2 | with_reducible apply Below.drew | with_reducible refine below_drewN ?_ _ | (with_reducible refine Below.setCell ?_ ?_ _; rotate_left; focus (first | omega | (simp <;> omega))) | (with_reducible refine Below.alloc ?_ ?_ _; rotate_left; focus (first | omega | (simp <;> omega))))) (p := ⟨w.heap.size, 2, none⟩) l1).trans c2, (Below.cell (by have hszz := hk2.size; repeat (first | with_reducible exact hk2 | with_reducible apply Below.drew | with_reducible refine below_drewN ?_ _ | (with_reducible refine Below.setCell ?_ ?_ _; rotate_left; focus (first | omega | (simp <;> omega))) | (with_reducible refine Below.alloc ?_ ?_ _; rotate_left; focus (first | omega | (simp <;> omega))))) (p := ⟨w.heap.size, 3, none⟩) l1).trans c3, (by have hszz := hk2.size; repeat (first | with_reducible exact hk2 | with_reducible apply Below.drew | with_reducible refine below_drewN ?_ _ | (with_reducible refine Below.setCell ?_ ?_ _; rotate_left; focus (first | omega | (simp <;> omega))) | (with_reducible refine Below.alloc ?_ ?_ _; rotate_left; focus (first | omega | (simp <;> omega)))))⟩)
      (first
        | (go_at_call 90; go_split_ands; with_reducible refine (KS1.out _).mono ?_; rintro e2 w2 ⟨rfl, hb⟩; have hk2 := bel_stp (by assumption) hb; have hz2 := hk2.size; (try have hb := bel_undrew hb); (try (have hn := reg_carry1 hm hb; obtain ⟨n0, n1, n2, n3⟩ := hn.cells; have lt := hn.lt; have f0 := hn.frozen' 0; have f1 := hn.frozen' 1; have f2 := hn.frozen' 2; have f3 := hn.frozen' 3)); (try (have hc := reg_carry hn hb; have hn := hc; obtain ⟨n0, n1, n2, n3⟩ := hn.cells; have lt := hn.lt; have f0 := hn.frozen' 0; have f1 := hn.frozen' 1; have f2 := hn.frozen' 2; have f3 := hn.frozen' 3)); (try (have hc := reg_carry hm hb; have hm := hc; obtain ⟨m0, m1, m2, m3⟩ := hm.cells; have mt := hm.lt; have e0 := hm.frozen' 0; have e1 := hm.frozen' 1; have e2 := hm.frozen' 2; have e3 := hm.frozen' 3)); (first | (obtain ⟨hn, hm⟩ := new_reg2 hb; obtain ⟨n0, n1, n2, n3⟩ := hn.cells; have lt := hn.lt; have f0 := hn.frozen' 0; have f1 := hn.frozen' 1; have f2 := hn.frozen' 2; have f3 := hn.frozen' 3; obtain ⟨m0, m1, m2, m3⟩ := hm.cells; have mt := hm.lt; have e0 := hm.frozen' 0; have e1 := hm.frozen' 1; have e2 := hm.frozen' 2; have e3 := hm.frozen' 3) | (have hm := new_reg1 hb; obtain ⟨m0, m1, m2, m3⟩ := hm.cells; have mt := hm.lt; have e0 := hm.frozen' 0; have e1 := hm.frozen' 1; have e2 := hm.frozen' 2; have e3 := hm.frozen' 3) | skip))
        | (go_at_call 90; go_split_ands; with_reducible refine (KS2.out _).mono ?_; rintro e2 w2 ⟨rfl, hb⟩; have hk2 := bel_stp (by assumption) hb; have hz2 := hk2.size; (try have hb := bel_undrew hb); (try (have hn := reg_carry1 hm hb; obtain ⟨n0, n1, n2, n3⟩ := hn.cells; have lt := hn.lt; have f0 := hn.frozen' 0; have f1 := hn.frozen' 1; have f2 := hn.frozen' 2; have f3 := hn.frozen' 3)); (try (have hc := reg_carry hn hb; have hn := hc; obtain ⟨n0, n1, n2, n3⟩ := hn.cells; have lt := hn.lt; have f0 := hn.frozen' 0; have f1 := hn.frozen' 1; have f2 := hn.frozen' 2; have f3 := hn.frozen' 3)); (try (have hc := reg_carry hm hb; have hm := hc; obtain ⟨m0, m1, m2, m3⟩ := hm.cells; have mt := hm.lt; have e0 := hm.frozen' 0; have e1 := hm.frozen' 1; have e2 := hm.frozen' 2; have e3 := hm.frozen' 3)); (first | (obtain ⟨hn, hm⟩ := new_reg2 hb; obtain ⟨n0, n1, n2, n3⟩ := hn.cells; have lt := hn.lt; have f0 := hn.frozen' 0; have f1 := hn.frozen' 1; have f2 := hn.frozen' 2; have f3 := hn.frozen' 3; obtain ⟨m0, m1, m2, m3⟩ := hm.cells; have mt := hm.lt; have e0 := hm.frozen' 0; have e1 := hm.frozen' 1; have e2 := hm.frozen' 2; have e3 := hm.frozen' 3) | (have hm := new_reg1 hb; obtain ⟨m0, m1, m2, m3⟩ := hm.cells; have mt := hm.lt; have e0 := hm.frozen' 0; have e1 := hm.frozen' 1; have e2 := hm.frozen' 2; have e3 := hm.frozen' 3) | skip)))
    all_goals
      rename_i hHeld
      clear hHeld
      go_wp2_with fail
      go_meet
      refine ⟨_, _, rfl, rfl, tiles_start (R1.below (by have hszz := hk2.size; repeat (first | with_reducible exact hk2 | with_reducible apply Below.drew | with_reducible refine below_drewN ?_ _ | (with_reducible refine Below.setCell ?_ ?_ _; rotate_left; focus (first | omega | (simp <;> omega))) | (with_reducible refine Below.alloc ?_ ?_ _; rotate_left; focus (first | omega | (simp <;> omega))))) l1) ?_ ?_ (B1.trans (Below.mono (by have hszz := hk2.size; repeat (first | with_reducible exact hk2 | with_reducible apply Below.drew | with_reducible refine below_drewN ?_ _ | (with_reducible refine Below.setCell ?_ ?_ _; rotate_left; focus (first | omega | (simp <;> omega))) | (with_reducible refine Below.alloc ?_ ?_ _; rotate_left; focus (first | omega | (simp <;> omega))))) B1.size))⟩
      · repeat (first
          | with_reducible assumption
          | with_reducible exact Reg.new _ _ _ _ _
          | with_reducible exact reg_new1 _ _ _ _ _ _
          | (with_reducible refine reg_newE ?_; focus (simp; done))
          | with_reducible refine Reg.alloc ?_ _
          | with_reducible refine Reg.drew ?_
          | with_reducible refine reg_stored (a := 0) (b := 0) (c := 0) (d := 0) ?_
          | (with_reducible refine Reg.setCell ?_ ?_ _; rotate_left; focus (first | (simp; done) | (simp; omega) | omega)))
      · repeat (first
          | with_reducible assumption
          | with_reducible exact Reg.new _ _ _ _ _
          | with_reducible exact reg_new1 _ _ _ _ _ _
          | (with_reducible refine reg_newE ?_; focus (simp; done))
          | with_reducible refine Reg.alloc ?_ _
          | with_reducible refine Reg.drew ?_
          | with_reducible refine reg_stored (a := 0) (b := 0) (c := 0) (d := 0) ?_
          | (with_reducible refine Reg.setCell ?_ ?_ _; rotate_left; focus (first | (simp; done) | (simp; omega) | omega)))
  case rest =>
    obtain ⟨k7, k8, rfl, rfl, I⟩ := hcut
    obtain ⟨d0, d1, _, _⟩ := I.r7.cells
    obtain ⟨e0, e1, _, _⟩ := I.r8.cells
    have l7 := I.r7.lt
    have l8 := I.r8.lt
    have IH := Lib.hid I
    clear I R1 B1 KS1 KS2
    obtain ⟨Q1, hQ1⟩ : ∃ Q : Int, Q = (lx - fx).tdiv s := ⟨_, rfl⟩
    obtain ⟨Q2, hQ2⟩ : ∃ Q : Int, Q = (ly - fy).tdiv s := ⟨_, rfl⟩
    rw [← Int.tdiv_eq_ediv_of_nonneg (by omega), ← hQ1] at qx
    rw [← Int.tdiv_eq_ediv_of_nonneg (by omega), ← hQ2] at qy
    have s1 : IntKind.i64.wrap (lx - fx) = lx - fx := IntWalk.i64_in _ (by omega)
    have s2 : IntKind.i64.wrap (ly - fy) = ly - fy := IntWalk.i64_in _ (by omega)
    have s3 : IntKind.i64.wrap Q1 = Q1 := IntWalk.i64_in _ (by omega)
    have s4 : IntKind.i64.wrap Q2 = Q2 := IntWalk.i64_in _ (by omega)
    have s5 : IntKind.i64.wrap (Q1 + 1) = n := by rw [IntWalk.i64_in _ (by omega)]; exact qx
    have s6 : IntKind.i64.wrap (Q2 + 1) = m := by rw [IntWalk.i64_in _ (by omega)]; exact qy
    obtain ⟨P, hP⟩ : ∃ P : Int, P = (n : Int) * m := ⟨_, rfl⟩
    rw [← hP] at HO
    have hP1 : P ≤ 512 * 512 := by rw [hP]; exact Int.mul_le_mul (by omega) (by omega) (by omega) (by omega)
    have hP0 : 0 ≤ P := by rw [hP]; exact Int.mul_nonneg (by omega) (by omega)
    have s7 : IntKind.i64.wrap ((n : Int) * m) = P := by rw [← hP]; exact IntWalk.i64_in _ (by omega)
    have s9 := hQ1.symm
    have s10 := hQ2.symm
    clear hQ1 hQ2 qx qy
    rcases HO.out with ⟨hN, rfl, rfl⟩ | ⟨hN, rfl, rfl⟩
    · have s8 : decide (1024 < P) = false := by simp; omega
      clear HO
      rw [hP] at hN
      have hNM : m * n ≤ 1024 := by
        have : ((m * n : Nat) : Int) = (n : Int) * m := by rw [Int.natCast_mul, Int.mul_comm]
        omega
      clear hP hN hP1 hP0
      go_wp2_with fail
      go_quiet (fail)
      go_wp2_with fail
      have I1 : TilesInv w (wc.drewN nq) wc.heap.size k7 k8 X Y W H fx fy lx ly s (.slice none 0 0) [] := IH.out.call (below_drewN (Below.refl _ _) _)
      have HI1 := Lib.hid I1
      clear I1 s1 s2 s3 s4 s5 s6 s7 s8 s9 s10 IH d0 d1 e0 e1 l7 l8 HSX HSY
      generalize hBB : wc.heap.size = B at *
      clear hBB
      go_loopw [9, 10, 11, 12, 13] (fun v vy _ _ _ wr => ∃ j : Nat, j ≤ m ∧ vy = .int .i64 (fy + (j : Int) * s) ∧ TilesInv w wr B k7 k8 X Y W H fx fy lx ly s v (tilesN X Y W H s n (j * n))) (fun _ vy _ _ _ _ => (ly + s - intOf vy).toNat)
      case atStart => exact ⟨0, by omega, by simp, by rw [Nat.zero_mul]; exact HI1.out⟩
      case round =>
        clear HI1
        obtain ⟨j, hj, rfl, I⟩ := hrel
        have IH := Lib.hid I
        obtain ⟨d0, d1, _, _⟩ := I.r7.cells
        obtain ⟨e0, e1, _, _⟩ := I.r8.cells
        have l7 := I.r7.lt
        have l8 := I.r8.lt
        clear I
        by_cases hlt : j < m
        · obtain ⟨y1, y2, y3, y4⟩ := (KY.out j).1 hlt
          have HY4 := Lib.hid y4
          clear y4
          generalize hyj : fy + (j : Int) * s = yj at *
          have HYJ := Lib.hid hyj
          clear hyj
          go_wp2_with fail
          obtain ⟨wo, rfl⟩ : ∃ wo : World, wo = wr := ⟨_, rfl⟩
          clear d0 d1 e0 e1 l7 l8 hj
          go_loopw [9, 11, 12, 13] (fun v vx _ _ wi => ∃ i : Nat, i ≤ n ∧ vx = .int .i64 (fx + (i : Int) * s) ∧ TilesInv w wi B k7 k8 X Y W H fx fy lx ly s v (tilesN X Y W H s n (j * n + i))) (fun _ vx _ _ _ => (lx + s - intOf vx).toNat)
          case atStart => exact ⟨0, by omega, by simp, by rw [Nat.add_zero]; exact IH.out⟩
          case round =>
            clear IH
            obtain ⟨i, hi', rfl, I⟩ := hrel
            have IH := Lib.hid I
            obtain ⟨c0, c1, c2, c3⟩ := I.rg.cells
            obtain ⟨e0, e1, _, _⟩ := I.r8.cells
            have l0 := I.rg.lt
            have l8 := I.r8.lt
            clear I
            by_cases hlt2 : i < n
            · obtain ⟨x1, x2, x3, x4⟩ := (KX.out i).1 hlt2
              have HX4 := Lib.hid x4
              clear x4
              have HC := Lib.hid (KM.out i j hlt2 hlt)
              rw [KT.out i j hlt2 hlt, HYJ.out] at HC
              have HM : Hid (tilesN X Y W H s n (j * n + i) ++ [(tlo X s i, tlo Y s j, twd X W s i, twd Y H s j)] = tilesN X Y W H s n (j * n + (i + 1))) := (KA.out i j hlt2).symm
              have hml : (tilesN X Y W H s n (j * n + i)).length ≤ 1024 := by
                rw [tilesN_len]
                have := Nat.mul_le_mul_right n (show j + 1 ≤ m by omega)
                rw [Nat.add_mul, Nat.one_mul] at this
                omega
              generalize fx + (i : Int) * s = xi at *
              generalize tlo X s i = ta at *
              generalize tlo Y s j = tb at *
              generalize twd X W s i = tc at *
              generalize twd Y H s j = td at *
              generalize tilesN X Y W H s n (j * n + i) = L at *
              have G1 : Hid (L.length + 1 ≤ maxLen) := by unfold maxLen Hid; omega
              have G2 : Hid ((L.length + 1) * 32 ≤ 140737488355328) := by unfold Hid; omega
              go_wp2_with fail
              refine (HC.out _).mono ?_
              rintro e w2 ⟨rfl, hb⟩
              have I2 := Lib.hid ((IH.out.call hb).alloc (.cells #[.int .i64 ta, .int .i64 tb, .int .i64 tc, .int .i64 td] 23))
              clear hb c0 c1 c2 c3 e0 e1 l0 l8
              go_upto_region 17 with fail
              have hr := Reg.new w2 ta tb tc td
              generalize w2.alloc (.cells #[.int .i64 ta, .int .i64 tb, .int .i64 tc, .int .i64 td] 23) = w3 at *
              obtain ⟨n0, n1, n2, n3⟩ := hr.cells
              have ln := hr.lt
              generalize w2.heap.size = kn at *
              clear hr
              have G3 : Hid (B ≤ (w3.alloc (.cells #[.int .i64 ta, .int .i64 tb, .int .i64 tc, .int .i64 td] 23)).heap.size) := by have := I2.out.bz; unfold Hid; simp; omega
              go_wp2_with (at_builtin; refine wpList_append_own _ rfl _ _ 29 rfl B 23 i0 (.agg #[.int .i64 0, .int .i64 0, .int .i64 0, .int .i64 0]) 4 32 Try.underlying29 hi hz0 hz1 hz2 rfl (by decide) _ L.length (rgs L) rfl (I2.out.own.alloc _) ⟨w3.heap.size, 0, none⟩ 1 1 [.int .i64 ta, .int .i64 tb, .int .i64 tc, .int .i64 td] rfl rfl (World.news_of_block (cs := #[.int .i64 ta, .int .i64 tb, .int .i64 tc, .int .i64 td]) (t := 23) (fr := (0, 0)) (heap_alloc_new w3 _)) (by simp [Value.oneCell']) G1.out G2.out G3.out ?_; intro v' w4 hown' hgrow hnil)
              have M3 := Lib.hid (I2.out.app (r := (ta, tb, tc, td)) hown' hgrow)
              clear hown' hgrow hnil n0 n1 n2 n3 ln
              go_wp2_with fail
              go_roundw
              case rel => exact ⟨i + 1, by omega, by rw [HX4.out], HM.out ▸ M3.out⟩
              case measure => simp [intOf]; omega
            · have hin : i = n := by omega
              subst hin
              have x1 := (KX.out i).2 rfl
              have HE : Hid (j * i + i = (j + 1) * i) := by unfold Hid; rw [Nat.add_mul, Nat.one_mul]
              have IH1 := IH.out
              rw [HE.out] at IH1
              have IH2 := Lib.hid IH1
              clear IH IH1
              generalize fx + (i : Int) * s = xi at *
              go_wp2_with fail
              go_roundw
              case rel => exact ⟨j + 1, by omega, by rw [HY4.out], IH2.out⟩
              case measure => simp [intOf]; omega
        · have hjm : j = m := by omega
          subst hjm
          have y1 := (KY.out j).2 rfl
          generalize fy + (j : Int) * s = yj at *
          have hlen : Hid ((tilesN X Y W H s n (j * n)).length ≤ 1024) := by unfold Hid; rw [tilesN_len]; exact hNM
          obtain ⟨g, cap, rfl⟩ : ∃ g cap, u9 = .slice (some ⟨g, 0, none⟩) (tilesN X Y W H s n (j * n)).length cap := by
            have ho := IH.out.own
            rcases ho.2 with ⟨_, h0⟩ | ⟨g, cap, cur, rfl, hB, hh, _⟩
            · exfalso
              rw [tilesN_len] at h0
              have := Nat.mul_le_mul hm1 hn1
              omega
            · exact ⟨g, cap, rfl⟩
          go_wp2_with fail
          go_ret2
          exact ⟨⟨_, cap, rfl, rgrow_of IH.out.own hlen.out⟩, IH.out.below⟩
    · have s8 : decide (1024 < P) = true := by simp; omega
      clear HO hP hP1 hP0
      have B2 := Lib.hid IH.out.below
      clear IH
      go_wp2_with fail
      go_quiet (fail)
      go_wp2_with fail
      go_ret2
      exact ⟨⟨none, 0, rfl, RgRow.nil _ _⟩, by have h := B2.out; exact (by have hszz := h.size; repeat (first | with_reducible exact h | with_reducible apply Below.drew | with_reducible refine below_drewN ?_ _ | (with_reducible refine Below.setCell ?_ ?_ _; rotate_left; focus (first | omega | (simp <;> omega))) | (with_reducible refine Below.alloc ?_ ?_ _; rotate_left; focus (first | omega | (simp <;> omega)))))⟩
end Go.Proofs.Ytnfebeebjelgbaa
