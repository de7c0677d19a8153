import Derived.Test.YtnfebeebjelgbaaBlurFn
import Derived.BigQuiet
import Derived.Deep.RegionHeld3
namespace Go.Proofs.Ytnfebeebjelgbaa
open Go.ChangeShapes Go.WideShapes Go.ChangeAt Go.RowKit
open Ieee.Format (fin finE htE allFin allHt all_true all_false mulF subF addF Ht Bd divF rootF floorF easeF mixF)
set_option linter.unusedVariables false
open Ieee.Format (He const_1)

set_option maxRecDepth 100000 in
set_option maxHeartbeats 1000000 in
theorem kernfn_any (l K : List Nat) (X Y : Int) (Wn Hn N n : Nat) (x y : Int) (b o c kb ko kc q pr pk pn F : Nat) (w : World) (hl : SRow w (some ⟨b, o, none⟩) l) (hr : Right X Y Wn Hn l) (hn : n = 2 * N + 1) (hN : N ≤ 7) (hK : SRow w (some ⟨kb, ko, none⟩) K) (hKn : K.length = n * n) (hKb : ∀ i, Bd 20 (K.getD i 0)) (hpk : Blk w pk #[.slice (some ⟨kb, ko, none⟩) K.length kc] 34) (hx : X + N ≤ x) (hx' : x + N < X + Wn) (hy : Y + N ≤ y) (hy' : y + N < Y + Hn)
    (hq : Fld w q X Y Wn Hn (.slice (some ⟨b, o, none⟩) l.length c)) (hg : Reg w pr (X + N) (Y + N) ((Wn - 2 * N : Nat) : Int) ((Hn - 2 * N : Nat) : Int)) (hpn : Blk w pn #[.int .i64 (n : Int)] 3) (hF : (F : Int) = (y - (Y + N)) * Wn + (x - (X + N))) :
    Calls Try.prog 133 #[.int .i64 x, .int .i64 y, .pointer (some ⟨pr, 0, none⟩), .pointer (some ⟨q, 0, none⟩), .pointer (some ⟨pk, 0, none⟩), .pointer (some ⟨pn, 0, none⟩)] w fun e w' => e = .returned (.float .f32 (kerF (fun i => K.getD i 0) (fun i => l.getD (patch Wn F n i) 0) (n * n - 1))) ∧ Below w.heap.size w w' := by
  have HP := Lib.hid (fun i (hi : i < n * n) => patch_lt (Wn := Wn) (Hn := Hn) (F := F) (N := N) (x := x) (y := y) (X := X) (Y := Y) hn hi hx hx' hy hy' hF)
  have hlen := hr.len
  have HR := Lib.hid (fun i (hi : i < n * n) => SRow.at_ hl (show patch Wn F n i < l.length by rw [hlen]; exact HP.out i hi))
  obtain ⟨g, hgd⟩ : ∃ g : Nat → Nat, g = fun i => l.getD (patch Wn F n i) 0 := ⟨_, rfl⟩
  have hgb : ∀ i, Bd 20 (g i) := by intro i; rw [hgd]; exact hr.bd _
  rw [← hgd]
  obtain ⟨κ, hkd⟩ : ∃ κ : Nat → Nat, κ = fun i => K.getD i 0 := ⟨_, rfl⟩
  have hkb : ∀ i, Bd 20 (κ i) := by intro i; rw [hkd]; exact hKb i
  rw [← hkd]
  have hkb0 := hkb
  have KS := Lib.hid (fun m hm => ker_step hkb hgb m hm)
  have K0 := fun w' => run_float_arith (P := Try.prog) w' .mul 37 .f32 (κ 0) (g 0) (kerF κ g 0) (Ieee.Format.bits_mul (hkb 0).1 (hgb 0).1)
  have HKR := Lib.hid (fun i (hi : i < n * n) => SRow.at_ hK (show i < K.length by rw [hKn]; exact hi))
  have HKG := Lib.hid hkd.symm
  have dk : w.cell? ⟨pk, 0, none⟩ = some (.slice (some ⟨kb, ko, none⟩) K.length kc) := hpk.cell 0
  have l6 := hpk.lt
  have kbl : kb < w.heap.size := srow_blt hK (by rw [hKn]; have := Nat.mul_le_mul (show 1 ≤ n by omega) (show 1 ≤ n by omega); omega)
  have hw2 := hr.w2
  have hh2 := hr.h2
  have g1 := hr.x1; have g2 := hr.x2; have g3 := hr.y1; have g4 := hr.y2
  have bl : b < w.heap.size := srow_blt hl (right_pos hr)
  obtain ⟨c0, c1, c2, c3, c4⟩ := hq.cells
  obtain ⟨d0, d1, d2, d3⟩ := hg.cells
  have dn : w.cell? ⟨pn, 0, none⟩ = some (.int .i64 (n : Int)) := hpn.cell 0
  have l1 := hq.lt
  have l2 := hg.lt
  have l3 := hpn.lt
  have nn1 := Nat.mul_le_mul (show n ≤ 33 by omega) (show n ≤ 33 by omega)
  have nn0 := Nat.mul_le_mul (show 1 ≤ n by omega) (show 1 ≤ n by omega)
  have n1 : (1 : Int) ≤ n := by omega
  have n33 : (n : Int) ≤ 33 := by omega
  have lenI : (l.length : Int) ≤ 262144 := by
    have := Nat.mul_le_mul hh2 hw2
    rw [hlen]; omega
  have hA : 0 ≤ (y - (Y + N)) * Wn ∧ (y - (Y + N)) * Wn ≤ 262144 := by
    have a := Int.mul_nonneg (show 0 ≤ y - (Y + N) by omega) (show (0 : Int) ≤ Wn by omega)
    have b := Int.mul_le_mul (show y - (Y + N) ≤ 512 by omega) (show (Wn : Int) ≤ 512 by omega) (by omega) (by omega)
    omega
  have HLE := Lib.hid hlen
  have bx : X + N ≤ x := hx
  have by_ : Y + N ≤ y := hy
  have xx : -16777216 ≤ x ∧ x ≤ 16777216 := by omega
  have yy : -16777216 ≤ y ∧ y ≤ 16777216 := by omega
  have rr : (-16777216 ≤ X + N ∧ X + N ≤ 16777216) ∧ (-16777216 ≤ Y + N ∧ Y + N ≤ 16777216) := by omega
  clear hl hr hq hg hpn hx hx' hy hy' g1 g2 g3 g4 hlen hn hN hK hKb hpk hkb hkd
  have hFe : (y - (Y + N)) * Wn + x - (X + N) = F := by omega
  clear hF
  generalize hRX : X + (N : Int) = RX at *
  generalize hRY : Y + (N : Int) = RY at *
  clear hRX hRY
  obtain ⟨A1, A2⟩ := hA
  obtain ⟨x1, x2⟩ := xx
  obtain ⟨y1, y2⟩ := yy
  obtain ⟨⟨rx1, rx2⟩, ry1, ry2⟩ := rr
  generalize hAe : (y - RY) * Wn = A at *
  have HGE := Lib.hid hgd.symm
  have HGB := Lib.hid hgb
  have HKB := Lib.hid hkb0
  clear hgd hgb hkb0
  have hnn : (n : Int) * (n : Int) = ((n * n : Nat) : Int) := (Int.natCast_mul n n).symm
  have hn2 : ((n * n : Nat) : Int) ≤ 1089 := by omega
  have hn0 : (1 : Int) ≤ ((n * n : Nat) : Int) := by omega
  have N0 : Hid (1 ≤ n) := by unfold Hid; omega
  have NN : Hid (1 ≤ n * n ∧ n * n ≤ 1089) := by unfold Hid; omega
  clear nn0 nn1
  generalize hN2 : n * n = nn at *
  clear hN2
  have HKN := Lib.hid hKn
  have hKI : (K.length : Int) = (nn : Int) := by omega
  clear hKn
  have R0 : w.cell? ⟨b, o + F, none⟩ = some (.float .f32 (g 0)) := by
    have := HR.out 0 (by have := NN.out; omega)
    have e0 : patch Wn F n 0 = F := by unfold patch; simp
    rw [e0] at this
    have e9 : g 0 = l.getD F 0 := by rw [← HGE.out]; show l.getD (patch Wn F n 0) 0 = _; rw [e0]
    rw [e9]; exact this
  have RK : w.cell? ⟨kb, ko, none⟩ = some (.float .f32 (κ 0)) := by
    have := HKR.out 0 (by have := NN.out; omega)
    rw [← HKG.out]
    exact this
  have F0 : (F : Int) < l.length := by
    have := HP.out 0 (by have := NN.out; omega)
    have e0 : patch Wn F n 0 = F := by unfold patch; simp
    rw [e0] at this
    have := HLE.out
    omega
  have k0 : (0 : Int) < K.length := by have := NN.out.1; omega
  have hK0 : 0 < K.length := by omega
  generalize hkz : kerF κ g 0 = z0 at *
  have HKZ := Lib.hid hkz
  clear hkz
  generalize κ 0 = k00 at *
  generalize g 0 = g00 at *
  have HKI := Lib.hid hKI
  clear hKI
  go_enter Try.func133, Try.ntmps133
  go_wp2_with fail
  go_quiet (fail)
  go_wp2_with fail
  clear R0 F0 RK k0 K0
  go_loopw [10, 11] (fun s v wr => ∃ m i : Nat, m + 1 = i ∧ i ≤ nn ∧ v = .int .i64 (i : Int) ∧ s = .float .f32 (kerF κ g m) ∧ Below w.heap.size w wr) (fun _ v _ => nn - (intOf v).toNat)
  case atStart => exact ⟨0, 1, rfl, NN.out.1, rfl, by rw [HKZ.out], (by repeat (first | with_reducible exact Below.refl _ _ | with_reducible apply Below.drew | with_reducible refine below_drewN ?_ _ | (with_reducible refine Below.setCell ?_ ?_ _; rotate_left; focus (first | omega | (simp <;> omega))) | (with_reducible refine Below.alloc ?_ ?_ _; rotate_left; focus (first | omega | (simp <;> omega)))))⟩
  case round =>
    clear HKZ
    obtain ⟨m, i, hmi, hm, rfl, rfl, B⟩ := hrel
    have HB := Lib.hid B
    have HMI := Lib.hid hmi
    have z := B.size
    have c0' := (B.cell (p := ⟨q, 0, none⟩) (by simpa using l1)).trans c0
    have c1' := (B.cell (p := ⟨q, 1, none⟩) (by simpa using l1)).trans c1
    have c2' := (B.cell (p := ⟨q, 2, none⟩) (by simpa using l1)).trans c2
    have c3' := (B.cell (p := ⟨q, 3, none⟩) (by simpa using l1)).trans c3
    have c4' := (B.cell (p := ⟨q, 4, none⟩) (by simpa using l1)).trans c4
    have dn' := (B.cell (p := ⟨pn, 0, none⟩) (by simpa using l3)).trans dn
    have dk' := (B.cell (p := ⟨pk, 0, none⟩) (by simpa using l6)).trans dk
    have l1' : q < wr.heap.size := by omega
    have l3' : pn < wr.heap.size := by omega
    have l4' : b < wr.heap.size := by omega
    have l5' : kb < wr.heap.size := by omega
    have l6' : pk < wr.heap.size := by omega
    by_cases hlt : i < nn
    · have hlI : (i : Int) < (K.length : Int) := by have := HKI.out; omega
      have hlN : i < K.length := by omega
      obtain ⟨s1, s2, s3⟩ := KS.out m (by have := NN.out.2; omega)
      have k1 := fun w' => run_float_arith (P := Try.prog) w' .add 37 .f32 (kerF κ g m) (mulF (κ (m + 1)) (g (m + 1))) (kerF κ g (m + 1)) (Ieee.Format.bits_add s1 s2)
      have km := fun w' => run_float_arith (P := Try.prog) w' .mul 37 .f32 (κ (m + 1)) (g (m + 1)) (mulF (κ (m + 1)) (g (m + 1))) (Ieee.Format.bits_mul (HKB.out _).1 (HGB.out _).1)
      rw [hmi] at k1 km
      have hc := (B.cell (p := ⟨b, o + patch Wn F n i, none⟩) (by simpa using bl)).trans (HR.out i hlt)
      have e9 : g i = l.getD (patch Wn F n i) 0 := by rw [← HGE.out]
      rw [← e9] at hc
      have hkc := (B.cell (p := ⟨kb, ko + i, none⟩) (by simpa using kbl)).trans (HKR.out i hlt)
      have e8 : κ i = K.getD i 0 := by rw [← HKG.out]
      rw [← e8] at hkc
      have pl : ((patch Wn F n i : Nat) : Int) < l.length := by
        have := HP.out i hlt
        have := HLE.out
        omega
      have q1 : (i : Int).tdiv (n : Int) = ((i / n : Nat) : Int) := by rw [Int.ofNat_tdiv]
      have q2 : (i : Int).tmod (n : Int) = ((i % n : Nat) : Int) := by rw [Int.ofNat_tmod]
      have q3 : ((i / n : Nat) : Int) * (Wn : Int) = ((i / n * Wn : Nat) : Int) := (Int.natCast_mul _ _).symm
      have q4 : (F : Int) + ((i / n * Wn : Nat) : Int) + ((i % n : Nat) : Int) = ((patch Wn F n i : Nat) : Int) := by unfold patch; omega
      have hp := HP.out i hlt
      have q5 : ((i / n * Wn : Nat) : Int) ≤ 262144 := by have := HLE.out; unfold patch at hp; omega
      have q6 : (F : Int) ≤ 262144 := by have := HLE.out; unfold patch at hp; omega
      have q7 : ((i % n : Nat) : Int) ≤ 33 := by have := Nat.mod_lt i (show 0 < n by omega); omega
      have q8 : ((i / n : Nat) : Int) ≤ 1089 := by have := Nat.div_le_self i n; have := NN.out.2; omega
      have nz : ¬ (n : Int) = 0 := by omega
      have nz2 : ¬ n = 0 := by omega
      clear s1 s2 s3 e9 e8 hp hmi
      generalize patch Wn F n i = pp at *
      generalize i / n * Wn = dw at *
      generalize i / n = dq at *
      generalize i % n = dm at *
      have p0 : (0 : Int) ≤ (pp : Int) := by omega
      generalize hz1 : kerF κ g i = z1 at *
      have HZ1 := Lib.hid hz1
      clear hz1
      generalize mulF (κ i) (g i) = z3 at *
      generalize g i = z2 at *
      generalize κ i = k2 at *
      generalize kerF κ g m = zm at *
      go_wp2_with fail
      go_quiet (fail)
      go_wp2_with fail
      go_roundw
      case rel => exact ⟨i, i + 1, rfl, by omega, by go_num, by rw [HZ1.out], (by have h := HB.out; exact (by have hszz := h.size; repeat (first | with_reducible exact h | with_reducible apply Below.drew | with_reducible refine below_drewN ?_ _ | (with_reducible refine Below.setCell ?_ ?_ _; rotate_left; focus (first | omega | (simp <;> omega))) | (with_reducible refine Below.alloc ?_ ?_ _; rotate_left; focus (first | omega | (simp <;> omega))))))⟩
      case measure => simp [intOf]; omega
    · have hnn' : i = nn := by omega
      have hlI : ¬ (i : Int) < (K.length : Int) := by have := HKI.out; omega
      subst hnn'
      have hm1 : m = i - 1 := by omega
      subst hm1
      clear hmi HMI
      go_wp2_with fail
      go_ret
      exact ⟨rfl, HB.out⟩
end Go.Proofs.Ytnfebeebjelgbaa
