import Derived.Test.YtnfebeebjelgbaaKernF
import Derived.Test.YtnfebeebjelgbaaInner
import Derived.BigQuiet
import Derived.Deep.RegionHeld3
namespace Go.Proofs.Ytnfebeebjelgbaa
open Go.ChangeShapes Go.WideShapes Go.ChangeAt Go.RowKit
open Ieee.Format (fin finE htE allFin allHt all_true all_false mulF subF addF Ht Bd divF rootF floorF easeF mixF)
set_option linter.unusedVariables false
open Ieee.Format (He const_1)

theorem srow_blt {w : World} {b o : Nat} {l : List Nat} (h : SRow w (some ⟨b, o, none⟩) l) (hn : 0 < l.length) : b < w.heap.size := by
  have := h.at_ hn
  rcases Nat.lt_or_ge b w.heap.size with hlt | hge
  · exact hlt
  · simp [World.cell?, Array.getElem?_eq_none hge] at this
theorem right_pos {X Y : Int} {Wn Hn : Nat} {l : List Nat} (h : Right X Y Wn Hn l) : 0 < l.length := by
  have := Nat.mul_le_mul h.h1 h.w1
  rw [← h.len] at this; omega
/-- the i-th cell of the n by n cells from the cell F on -/
def patch (Wn F n i : Nat) : Nat := F + i / n * Wn + i % n
theorem patch_lt {Wn Hn F n N i : Nat} {x y : Int} {X Y : Int} (hn : n = 2 * N + 1) (hi : i < n * n) (hx : X + N ≤ x) (hx' : x + N < X + Wn) (hy : Y + N ≤ y) (hy' : y + N < Y + Hn) (hF : (F : Int) = (y - (Y + N)) * Wn + (x - (X + N))) : patch Wn F n i < Hn * Wn := by
  unfold patch
  have h1 : i / n < n := Nat.div_lt_of_lt_mul hi
  have h2 : i % n < n := Nat.mod_lt _ (by omega)
  obtain ⟨p, hp⟩ : ∃ p : Nat, (p : Int) = y - (Y + N) := ⟨(y - (Y + N)).toNat, by omega⟩
  obtain ⟨r, hr⟩ : ∃ r : Nat, (r : Int) = x - (X + N) := ⟨(x - (X + N)).toNat, by omega⟩
  rw [← hp, ← hr, ← Int.natCast_mul] at hF
  have e : F = p * Wn + r := by omega
  have h3 : (p + i / n + 1) * Wn ≤ Hn * Wn := Nat.mul_le_mul_right _ (by omega)
  rw [Nat.add_mul, Nat.add_mul, Nat.one_mul] at h3
  omega

set_option maxRecDepth 100000 in
set_option maxHeartbeats 1000000 in
theorem blurfn_any (l : List Nat) (X Y : Int) (Wn Hn N n : Nat) (x y : Int) (b o c q pr pn F : Nat) (w : World) (hl : SRow w (some ⟨b, o, none⟩) l) (hr : Right X Y Wn Hn l) (hn : n = 2 * N + 1) (hN : N ≤ 16) (hx : X + N ≤ x) (hx' : x + N < X + Wn) (hy : Y + N ≤ y) (hy' : y + N < Y + Hn)
    (hq : Fld w q X Y Wn Hn (.slice (some ⟨b, o, none⟩) l.length c)) (hg : Reg w pr (X + N) (Y + N) ((Wn - 2 * N : Nat) : Int) ((Hn - 2 * N : Nat) : Int)) (hpn : Blk w pn #[.int .i64 (n : Int)] 3) (hF : (F : Int) = (y - (Y + N)) * Wn + (x - (X + N))) :
    Calls Try.prog 137 #[.int .i64 x, .int .i64 y, .pointer (some ⟨pr, 0, none⟩), .pointer (some ⟨q, 0, none⟩), .pointer (some ⟨pn, 0, none⟩)] w fun e w' => e = .returned (.float .f32 (blurF (fun i => l.getD (patch Wn F n i) 0) n)) ∧ Below w.heap.size w w' := by
  have HP := Lib.hid (fun i (hi : i < n * n) => patch_lt (Wn := Wn) (Hn := Hn) (F := F) (N := N) (x := x) (y := y) (X := X) (Y := Y) hn hi hx hx' hy hy' hF)
  have hlen := hr.len
  have HR := Lib.hid (fun i (hi : i < n * n) => SRow.at_ hl (show patch Wn F n i < l.length by rw [hlen]; exact HP.out i hi))
  obtain ⟨g, hgd⟩ : ∃ g : Nat → Nat, g = fun i => l.getD (patch Wn F n i) 0 := ⟨_, rfl⟩
  have hgb : ∀ i, Bd 20 (g i) := by intro i; rw [hgd]; exact hr.bd _
  rw [← hgd]
  have KS := Lib.hid (fun m hm => blur_step hgb m hm)
  obtain ⟨e1, e2, e3, e4⟩ := blur_end hgb (n := n) (by omega) (by omega)
  have kd := fun w' => run_float_arith (P := Try.prog) w' .quo 37 .f32 _ _ _ (Ieee.Format.bits_div e1 e2 e3)
  have hw2 := hr.w2
  have hh2 := hr.h2
  have g1 := hr.x1; have g2 := hr.x2; have g3 := hr.y1; have g4 := hr.y2
  have bl : b < w.heap.size := srow_blt hl (right_pos hr)
  obtain ⟨c0, c1, c2, c3, c4⟩ := hq.cells
  obtain ⟨d0, d1, d2, d3⟩ := hg.cells
  have dn : w.cell? ⟨pn, 0, none⟩ = some (.int .i64 (n : Int)) := hpn.cell 0
  have l1 := hq.lt
  have l2 := hg.lt
  have l3 := hpn.lt
  have nn1 := Nat.mul_le_mul (show n ≤ 33 by omega) (show n ≤ 33 by omega)
  have nn0 := Nat.mul_le_mul (show 1 ≤ n by omega) (show 1 ≤ n by omega)
  have n1 : (1 : Int) ≤ n := by omega
  have n33 : (n : Int) ≤ 33 := by omega
  have lenI : (l.length : Int) ≤ 262144 := by
    have := Nat.mul_le_mul hh2 hw2
    rw [hlen]; omega
  have hA : 0 ≤ (y - (Y + N)) * Wn ∧ (y - (Y + N)) * Wn ≤ 262144 := by
    have a := Int.mul_nonneg (show 0 ≤ y - (Y + N) by omega) (show (0 : Int) ≤ Wn by omega)
    have b := Int.mul_le_mul (show y - (Y + N) ≤ 512 by omega) (show (Wn : Int) ≤ 512 by omega) (by omega) (by omega)
    omega
  have HLE := Lib.hid hlen
  have bx : X + N ≤ x := hx
  have by_ : Y + N ≤ y := hy
  have xx : -16777216 ≤ x ∧ x ≤ 16777216 := by omega
  have yy : -16777216 ≤ y ∧ y ≤ 16777216 := by omega
  have rr : (-16777216 ≤ X + N ∧ X + N ≤ 16777216) ∧ (-16777216 ≤ Y + N ∧ Y + N ≤ 16777216) := by omega
  clear hl hr hq hg hpn hx hx' hy hy' g1 g2 g3 g4 hlen e1 e2 e3 e4 hn hN
  have hFe : (y - (Y + N)) * Wn + x - (X + N) = F := by omega
  clear hF
  generalize hRX : X + (N : Int) = RX at *
  generalize hRY : Y + (N : Int) = RY at *
  clear hRX hRY
  obtain ⟨A1, A2⟩ := hA
  obtain ⟨x1, x2⟩ := xx
  obtain ⟨y1, y2⟩ := yy
  obtain ⟨⟨rx1, rx2⟩, ry1, ry2⟩ := rr
  generalize hAe : (y - RY) * Wn = A at *
  have HGE := Lib.hid hgd.symm
  clear hgd hgb
  have hnn : (n : Int) * (n : Int) = ((n * n : Nat) : Int) := (Int.natCast_mul n n).symm
  have hn2 : ((n * n : Nat) : Int) ≤ 1089 := by omega
  have hn0 : (1 : Int) ≤ ((n * n : Nat) : Int) := by omega
  have N0 : Hid (1 ≤ n) := by unfold Hid; omega
  have NN : Hid (1 ≤ n * n ∧ n * n ≤ 1089) := by unfold Hid; omega
  clear nn0 nn1
  unfold blurF at *
  generalize hN2 : n * n = nn at *
  clear hN2
  generalize hE : divF (blurS g (nn - 1)) (cv (nn : Int)) = zE at *
  clear hE
  generalize hcv : cv (nn : Int) = zc at *
  change floatOfInt .f32 (nn : Int) = zc at hcv
  have R0 : w.cell? ⟨b, o + F, none⟩ = some (.float .f32 (blurS g 0)) := by
    have := HR.out 0 (by have := NN.out; omega)
    have e0 : patch Wn F n 0 = F := by unfold patch; simp
    rw [e0] at this
    have e9 : g 0 = l.getD F 0 := by rw [← HGE.out]; show l.getD (patch Wn F n 0) 0 = _; rw [e0]
    show w.cell? ⟨b, o + F, none⟩ = some (.float .f32 (g 0))
    rw [e9]; exact this
  have F0 : (F : Int) < l.length := by
    have := HP.out 0 (by have := NN.out; omega)
    have e0 : patch Wn F n 0 = F := by unfold patch; simp
    rw [e0] at this
    have := HLE.out
    omega
  go_enter Try.func137, Try.ntmps137
  go_wp2_with fail
  go_loopw [9, 10] (fun s v wr => ∃ m i : Nat, m + 1 = i ∧ i ≤ nn ∧ v = .int .i64 (i : Int) ∧ s = .float .f32 (blurS g m) ∧ Below w.heap.size w wr) (fun _ v _ => nn - (intOf v).toNat)
  case atStart => exact ⟨0, 1, rfl, NN.out.1, rfl, rfl, (by repeat (first | with_reducible exact Below.refl _ _ | with_reducible apply Below.drew | with_reducible refine below_drewN ?_ _ | (with_reducible refine Below.setCell ?_ ?_ _; rotate_left; focus (first | omega | (simp <;> omega))) | (with_reducible refine Below.alloc ?_ ?_ _; rotate_left; focus (first | omega | (simp <;> omega)))))⟩
  case round =>
    clear R0 F0
    obtain ⟨m, i, hmi, hm, rfl, rfl, B⟩ := hrel
    have HB := Lib.hid B
    have HMI := Lib.hid hmi
    have z := B.size
    have c0' := (B.cell (p := ⟨q, 0, none⟩) (by simpa using l1)).trans c0
    have c1' := (B.cell (p := ⟨q, 1, none⟩) (by simpa using l1)).trans c1
    have c2' := (B.cell (p := ⟨q, 2, none⟩) (by simpa using l1)).trans c2
    have c3' := (B.cell (p := ⟨q, 3, none⟩) (by simpa using l1)).trans c3
    have c4' := (B.cell (p := ⟨q, 4, none⟩) (by simpa using l1)).trans c4
    have dn' := (B.cell (p := ⟨pn, 0, none⟩) (by simpa using l3)).trans dn
    have l1' : q < wr.heap.size := by omega
    have l3' : pn < wr.heap.size := by omega
    have l4' : b < wr.heap.size := by omega
    by_cases hlt : i < nn
    · have hlI : (i : Int) < (nn : Int) := by omega
      obtain ⟨s1, s2, s3⟩ := KS.out m (by have := NN.out.2; omega)
      have k1 := fun w' => run_float_arith (P := Try.prog) w' .add 37 .f32 (blurS g m) (g (m + 1)) (blurS g (m + 1)) (Ieee.Format.bits_add s1 s2)
      rw [hmi] at k1
      have hc := (B.cell (p := ⟨b, o + patch Wn F n i, none⟩) (by simpa using bl)).trans (HR.out i hlt)
      have e9 : g i = l.getD (patch Wn F n i) 0 := by rw [← HGE.out]
      rw [← e9] at hc
      have pl : ((patch Wn F n i : Nat) : Int) < l.length := by
        have := HP.out i hlt
        have := HLE.out
        omega
      have q1 : (i : Int).tdiv (n : Int) = ((i / n : Nat) : Int) := by rw [Int.ofNat_tdiv]
      have q2 : (i : Int).tmod (n : Int) = ((i % n : Nat) : Int) := by rw [Int.ofNat_tmod]
      have q3 : ((i / n : Nat) : Int) * (Wn : Int) = ((i / n * Wn : Nat) : Int) := (Int.natCast_mul _ _).symm
      have q4 : (F : Int) + ((i / n * Wn : Nat) : Int) + ((i % n : Nat) : Int) = ((patch Wn F n i : Nat) : Int) := by unfold patch; omega
      have hp := HP.out i hlt
      have q5 : ((i / n * Wn : Nat) : Int) ≤ 262144 := by have := HLE.out; unfold patch at hp; omega
      have q6 : (F : Int) ≤ 262144 := by have := HLE.out; unfold patch at hp; omega
      have q7 : ((i % n : Nat) : Int) ≤ 33 := by have := Nat.mod_lt i (show 0 < n by omega); omega
      have q8 : ((i / n : Nat) : Int) ≤ 1089 := by have := Nat.div_le_self i n; have := NN.out.2; omega
      have nz : (n : Int) ≠ 0 := by omega
      clear s1 s2 s3 e9 hp hmi
      generalize patch Wn F n i = pp at *
      generalize i / n * Wn = dw at *
      generalize i / n = dq at *
      generalize i % n = dm at *
      have p0 : (0 : Int) ≤ (pp : Int) := by omega
      generalize hz1 : blurS g i = z1 at *
      have HZ1 := Lib.hid hz1
      clear hz1
      generalize g i = z2 at *
      generalize blurS g m = z0 at *
      go_wp2_with fail
      go_quiet (fail)
      go_wp2_with fail
      go_roundw
      case rel => exact ⟨i, i + 1, rfl, by omega, by go_num, by rw [HZ1.out], (by have h := HB.out; exact (by have hszz := h.size; repeat (first | with_reducible exact h | with_reducible apply Below.drew | with_reducible refine below_drewN ?_ _ | (with_reducible refine Below.setCell ?_ ?_ _; rotate_left; focus (first | omega | (simp <;> omega))) | (with_reducible refine Below.alloc ?_ ?_ _; rotate_left; focus (first | omega | (simp <;> omega))))))⟩
      case measure => simp [intOf]; omega
    · have hnn' : i = nn := by omega
      subst hnn'
      have hm1 : m = i - 1 := by omega
      subst hm1
      clear hmi HMI
      go_wp2_with fail
      go_ret
      exact ⟨rfl, HB.out⟩

set_option maxRecDepth 100000 in
set_option maxHeartbeats 1000000 in
theorem refblurfn_any (l : List Nat) (X Y : Int) (Wn Hn N n : Nat) (x y : Int) (b o c q pr pn F : Nat) (w : World) (hl : SRow w (some ⟨b, o, none⟩) l) (hr : Right X Y Wn Hn l) (hn : n = 2 * N + 1) (hN : N ≤ 16) (hx : X + N ≤ x) (hx' : x + N < X + Wn) (hy : Y + N ≤ y) (hy' : y + N < Y + Hn)
    (hq : Fld w q X Y Wn Hn (.slice (some ⟨b, o, none⟩) l.length c)) (hg : Blk w pr #[.int .i64 (N : Int)] 3) (hpn : Blk w pn #[.int .i64 (n : Int)] 3) (hF : (F : Int) = (y - (Y + N)) * Wn + (x - (X + N))) :
    Calls Try.prog 138 #[.int .i64 x, .int .i64 y, .pointer (some ⟨q, 0, none⟩), .pointer (some ⟨pr, 0, none⟩), .pointer (some ⟨pn, 0, none⟩)] w fun e w' => e = .returned (.float .f32 (blurF (fun i => l.getD (patch Wn F n i) 0) n)) ∧ Below w.heap.size w w' := by
  obtain ⟨g, hgd⟩ : ∃ g : Nat → Nat, g = fun i => l.getD (patch Wn F n i) 0 := ⟨_, rfl⟩
  have hgb : ∀ i, Bd 20 (g i) := by intro i; rw [hgd]; exact hr.bd _
  rw [← hgd]
  have hw2 := hr.w2
  have hh2 := hr.h2
  have g1 := hr.x1; have g2 := hr.x2; have g3 := hr.y1; have g4 := hr.y2
  have hlen := hr.len
  have KA := Lib.hid (fun i (hi : i < n * n) (w' : World) (hl' : SRow w' (some ⟨b, o, none⟩) l) => show Calls Try.prog 107 #[fldV X Y Wn Hn (some ⟨b, o, none⟩) l.length c, .int .i64 (x - (N : Int) + ((i % n : Nat) : Int)), .int .i64 (y - (N : Int) + ((i / n : Nat) : Int))] w' fun e w2 => e = .returned (.float .f32 (g i)) ∧ Below w'.heap.size w' w2 from by
    have h1 : i / n < n := Nat.div_lt_of_lt_mul hi
    have h2 : i % n < n := Nat.mod_lt _ (by omega)
    have ep : patch Wn F n i = F + i / n * Wn + i % n := rfl
    rw [hgd]
    show Calls Try.prog _ _ w' fun e w2 => e = .returned (.float .f32 (l.getD (patch Wn F n i) 0)) ∧ _
    rw [ep]
    generalize i / n = dq at *
    generalize i % n = dm at *
    have := at_right X Y Wn Hn (x - (N : Int) + (dm : Int)) (y - (N : Int) + (dq : Int)) b o c l w' hl' hr (by omega) (by omega) (by omega) (by omega)
    have e : (cellNo X Y Wn (x - (N : Int) + (dm : Int)) (y - (N : Int) + (dq : Int))).toNat = F + dq * Wn + dm := by
      unfold cellNo
      have e1 : (y - (N : Int) + (dq : Int) - Y) * (Wn : Int) = (y - (Y + N)) * Wn + ((dq * Wn : Nat) : Int) := by
        rw [Int.natCast_mul, ← Int.add_mul]
        congr 1
        omega
      rw [e1]
      omega
    rw [e] at this
    exact this)
  have KS := Lib.hid (fun m hm => blur_step hgb m hm)
  obtain ⟨e1, e2, e3, e4⟩ := blur_end hgb (n := n) (by omega) (by omega)
  have kd := Lib.hid (fun w' => ref_div_ok _ _ w' e1 e2 e3 e4)
  have kc := Lib.hid (fun w' => ref_conv_ok ((n * n : Nat) : Int) w')
  change Hid (∀ w', Calls Try.prog 140 #[.int .i64 ((n * n : Nat) : Int)] w' fun en w2 => en = .returned (.float .f32 (cv ((n * n : Nat) : Int))) ∧ w' = w2) at kc
  have bl : b < w.heap.size := srow_blt hl (right_pos hr)
  obtain ⟨c0, c1, c2, c3, c4⟩ := hq.cells
  have dr : w.cell? ⟨pr, 0, none⟩ = some (.int .i64 (N : Int)) := hg.cell 0
  have dn : w.cell? ⟨pn, 0, none⟩ = some (.int .i64 (n : Int)) := hpn.cell 0
  have l1 := hq.lt
  have l2 := hg.lt
  have l3 := hpn.lt
  have nn1 := Nat.mul_le_mul (show n ≤ 33 by omega) (show n ≤ 33 by omega)
  have nn0 := Nat.mul_le_mul (show 1 ≤ n by omega) (show 1 ≤ n by omega)
  have n1 : (1 : Int) ≤ n := by omega
  have n33 : (n : Int) ≤ 33 := by omega
  have N0 : (0 : Int) ≤ N := by omega
  have N16 : (N : Int) ≤ 16 := by omega
  obtain ⟨x1, x2⟩ : -16777216 ≤ x ∧ x ≤ 16777216 := by omega
  obtain ⟨y1, y2⟩ : -16777216 ≤ y ∧ y ≤ 16777216 := by omega
  have HLS := Lib.hid hl
  have HGE := Lib.hid hgd.symm
  have hnn : (n : Int) * (n : Int) = ((n * n : Nat) : Int) := (Int.natCast_mul n n).symm
  have hn2 : ((n * n : Nat) : Int) ≤ 1089 := by omega
  have hn0 : (1 : Int) ≤ ((n * n : Nat) : Int) := by omega
  have NN : Hid (1 ≤ n * n ∧ n * n ≤ 1089) := by unfold Hid; omega
  have K0 : Hid (∀ w', SRow w' (some ⟨b, o, none⟩) l → Calls Try.prog 107 #[fldV X Y Wn Hn (some ⟨b, o, none⟩) l.length c, .int .i64 (x - (N : Int)), .int .i64 (y - (N : Int))] w' fun e w2 => e = .returned (.float .f32 (blurS g 0)) ∧ Below w'.heap.size w' w2) := by
    intro w' hl'
    have := KA.out 0 (by have := NN.out.1; omega) w' hl'
    simp only [Nat.zero_mod, Nat.zero_div, Int.natCast_zero, Int.add_zero] at this
    exact this
  clear hl hr hq hg hpn hx hx' hy hy' g1 g2 g3 g4 hlen e1 e2 e3 e4 hn hN hgd hgb hF nn0 nn1 hw2 hh2
  unfold blurF at *
  generalize hN2 : n * n = nn at *
  clear hN2
  generalize hE : divF (blurS g (nn - 1)) (cv (nn : Int)) = zE at *
  clear hE
  generalize cv (nn : Int) = zc at *
  go_enter Try.func138, Try.ntmps138
  go_wp2_with fail
  refine (K0.out _ HLS.out).mono ?_
  rintro e w1 ⟨rfl, b1⟩
  have HB1 := Lib.hid b1
  have q0 := (b1.cell (p := ⟨pn, 0, none⟩) (by simpa using l3)).trans dn
  have l8 : pn < w1.heap.size := Nat.lt_of_lt_of_le l3 b1.size
  clear b1
  go_wp2_with fail
  clear q0 l8
  go_loopw [8, 9] (fun s v wr => ∃ m i : Nat, m + 1 = i ∧ i ≤ nn ∧ v = .int .i64 (i : Int) ∧ s = .float .f32 (blurS g m) ∧ Below w.heap.size w wr) (fun _ v _ => nn - (intOf v).toNat)
  case atStart => exact ⟨0, 1, rfl, NN.out.1, rfl, rfl, HB1.out⟩
  case round =>
    clear HB1 K0
    obtain ⟨m, i, hmi, hm, rfl, rfl, B⟩ := hrel
    have HB := Lib.hid B
    have HMI := Lib.hid hmi
    have z := B.size
    have c0' := (B.cell (p := ⟨q, 0, none⟩) (by simpa using l1)).trans c0
    have c1' := (B.cell (p := ⟨q, 1, none⟩) (by simpa using l1)).trans c1
    have c2' := (B.cell (p := ⟨q, 2, none⟩) (by simpa using l1)).trans c2
    have c3' := (B.cell (p := ⟨q, 3, none⟩) (by simpa using l1)).trans c3
    have c4' := (B.cell (p := ⟨q, 4, none⟩) (by simpa using l1)).trans c4
    have dr' := (B.cell (p := ⟨pr, 0, none⟩) (by simpa using l2)).trans dr
    have dn' := (B.cell (p := ⟨pn, 0, none⟩) (by simpa using l3)).trans dn
    have l1' : q < wr.heap.size := by omega
    have l2' : pr < wr.heap.size := by omega
    have l3' : pn < wr.heap.size := by omega
    have HLW := Lib.hid (SRow.below HLS.out B)
    by_cases hlt : i < nn
    · have hlI : (i : Int) < (nn : Int) := by omega
      obtain ⟨s1, s2, s3⟩ := KS.out m (by have := NN.out.2; omega)
      have k1 := Lib.hid (fun w' => ref_add_ok (blurS g m) (g (m + 1)) w' s1 s2 s3)
      change Hid (∀ w', Calls Try.prog 131 #[.float .f32 (blurS g m), .float .f32 (g (m + 1))] w' fun en w2 => en = .returned (.float .f32 (blurS g (m + 1))) ∧ w' = w2) at k1
      rw [hmi] at k1
      have KI := Lib.hid (KA.out i hlt)
      have q1 : (i : Int).tdiv (n : Int) = ((i / n : Nat) : Int) := by rw [Int.ofNat_tdiv]
      have q2 : (i : Int).tmod (n : Int) = ((i % n : Nat) : Int) := by rw [Int.ofNat_tmod]
      have q7 : ((i % n : Nat) : Int) ≤ 33 := by have := Nat.mod_lt i (show 0 < n by omega); omega
      have q8 : ((i / n : Nat) : Int) ≤ 1089 := by have := Nat.div_le_self i n; have := NN.out.2; omega
      have nz : ¬ (n : Int) = 0 := by omega
      have nz2 : ¬ n = 0 := by omega
      clear s1 s2 s3 hmi
      generalize i / n = dq at *
      generalize i % n = dm at *
      have p1 : (0 : Int) ≤ dq := by omega
      have p2 : (0 : Int) ≤ dm := by omega
      have r1 : IntKind.i64.wrap (x - (N : Int)) = x - (N : Int) := by rw [IntKind.wrap_i64]; omega
      have r2 : IntKind.i64.wrap (y - (N : Int)) = y - (N : Int) := by rw [IntKind.wrap_i64]; omega
      have r3 : IntKind.i64.wrap (x - (N : Int) + (dm : Int)) = x - (N : Int) + (dm : Int) := by rw [IntKind.wrap_i64]; omega
      have r4 : IntKind.i64.wrap (y - (N : Int) + (dq : Int)) = y - (N : Int) + (dq : Int) := by rw [IntKind.wrap_i64]; omega
      have r5 : IntKind.i64.wrap (dq : Int) = (dq : Int) := by rw [IntKind.wrap_i64]; omega
      have r6 : IntKind.i64.wrap (dm : Int) = (dm : Int) := by rw [IntKind.wrap_i64]; omega
      generalize hz1 : blurS g i = z1 at *
      have HZ1 := Lib.hid hz1
      clear hz1
      generalize g i = z2 at *
      generalize blurS g m = z0 at *
      clear z B
      go_wp2_with fail
      go_region_held3 (fun w' => w'.cell? ⟨q, 0, none⟩ = some (.int .i64 X) ∧ w'.cell? ⟨q, 1, none⟩ = some (.int .i64 Y) ∧ w'.cell? ⟨q, 2, none⟩ = some (.int .i64 Wn) ∧ w'.cell? ⟨q, 3, none⟩ = some (.int .i64 Hn) ∧ w'.cell? ⟨q, 4, none⟩ = some (.slice (some ⟨b, o, none⟩) l.length c) ∧ w'.cell? ⟨pr, 0, none⟩ = some (.int .i64 (N : Int)) ∧ w'.cell? ⟨pn, 0, none⟩ = some (.int .i64 (n : Int)) ∧ Below wr.heap.size wr w')
        (first
          | exact ⟨c0', c1', c2', c3', c4', dr', dn', (Below.refl _ _).drew⟩
          | (go_split_ands
             have hs := hb.size
             have hs2 := (show Below wr.heap.size wr _ by assumption).size
             refine ⟨?_, ?_, ?_, ?_, ?_, ?_, ?_, ?_⟩
             all_goals first
               | (rw [hb.cell (by simp; omega)]; assumption)
               | exact Below.trans (by assumption) (hb.mono (by omega)))
          | (go_split_ands; refine ⟨?_, ?_, ?_, ?_, ?_, ?_, ?_, ?_⟩ <;> assumption))
        (first
          | (go_at_call 107; go_split_ands; refine (KI.out _ (HLW.out.below (by assumption))).mono ?_; rintro e2 w2 ⟨rfl, hb⟩)
          | (go_at_call 131; go_split_ands; refine (k1.out _).mono ?_; rintro e2 w2 ⟨rfl, rfl⟩))
      rename_i hHeld
      have HBH := Lib.hid (HB.out.trans (hHeld.2.2.2.2.2.2.2.mono HB.out.size))
      clear hHeld
      go_wp2_with fail
      go_roundw
      case rel => exact ⟨i, i + 1, rfl, by omega, by go_num, by rw [HZ1.out], HBH.out⟩
      case measure => simp [intOf]; omega
    · have hnn' : i = nn := by omega
      subst hnn'
      have hm1 : m = i - 1 := by omega
      subst hm1
      clear hmi HMI
      go_wp2_with fail
      refine (kc.out _).mono ?_
      rintro en wz ⟨rfl, rfl⟩
      go_wp2_with fail
      refine (kd.out _).mono ?_
      rintro en wz ⟨rfl, rfl⟩
      go_wp2_with fail
      go_ret
      exact ⟨rfl, HB.out⟩
end Go.Proofs.Ytnfebeebjelgbaa
