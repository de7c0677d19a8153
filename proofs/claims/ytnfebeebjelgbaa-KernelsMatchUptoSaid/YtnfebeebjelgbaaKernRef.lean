import Derived.Test.YtnfebeebjelgbaaKernFn
import Derived.BigQuiet
import Derived.Deep.RegionHeld3
namespace Go.Proofs.Ytnfebeebjelgbaa
open Go.ChangeShapes Go.WideShapes Go.ChangeAt Go.RowKit
open Ieee.Format (fin finE htE allFin allHt all_true all_false mulF subF addF Ht Bd divF rootF floorF easeF mixF)
set_option linter.unusedVariables false
open Ieee.Format (He const_1)

set_option maxRecDepth 100000 in
set_option maxHeartbeats 1000000 in
theorem refkernfn_any (l K : List Nat) (X Y : Int) (Wn Hn N n : Nat) (x y : Int) (b o c kb ko kc q pr pk pn F : Nat) (w : World) (hl : SRow w (some ⟨b, o, none⟩) l) (hr : Right X Y Wn Hn l) (hn : n = 2 * N + 1) (hN : N ≤ 7) (hK : SRow w (some ⟨kb, ko, none⟩) K) (hKn : K.length = n * n) (hKb : ∀ i, Bd 20 (K.getD i 0)) (hpk : Blk w pk #[.slice (some ⟨kb, ko, none⟩) K.length kc] 34) (hx : X + N ≤ x) (hx' : x + N < X + Wn) (hy : Y + N ≤ y) (hy' : y + N < Y + Hn)
    (hq : Fld w q X Y Wn Hn (.slice (some ⟨b, o, none⟩) l.length c)) (hg : Blk w pr #[.int .i64 (N : Int)] 3) (hpn : Blk w pn #[.int .i64 (n : Int)] 3) (hF : (F : Int) = (y - (Y + N)) * Wn + (x - (X + N))) :
    Calls Try.prog 135 #[.int .i64 x, .int .i64 y, .pointer (some ⟨pk, 0, none⟩), .pointer (some ⟨q, 0, none⟩), .pointer (some ⟨pr, 0, none⟩), .pointer (some ⟨pn, 0, none⟩)] w fun e w' => e = .returned (.float .f32 (kerF (fun i => K.getD i 0) (fun i => l.getD (patch Wn F n i) 0) (n * n - 1))) ∧ Below w.heap.size w w' := by
  obtain ⟨g, hgd⟩ : ∃ g : Nat → Nat, g = fun i => l.getD (patch Wn F n i) 0 := ⟨_, rfl⟩
  have hgb : ∀ i, Bd 20 (g i) := by intro i; rw [hgd]; exact hr.bd _
  rw [← hgd]
  obtain ⟨κ, hkd⟩ : ∃ κ : Nat → Nat, κ = fun i => K.getD i 0 := ⟨_, rfl⟩
  have hkb : ∀ i, Bd 20 (κ i) := by intro i; rw [hkd]; exact hKb i
  rw [← hkd]
  have HKR := Lib.hid (fun i (hi : i < n * n) => SRow.at_ hK (show i < K.length by rw [hKn]; exact hi))
  have HKG := Lib.hid hkd.symm
  have dk : w.cell? ⟨pk, 0, none⟩ = some (.slice (some ⟨kb, ko, none⟩) K.length kc) := hpk.cell 0
  have l6 := hpk.lt
  have kbl : kb < w.heap.size := srow_blt hK (by rw [hKn]; have := Nat.mul_le_mul (show 1 ≤ n by omega) (show 1 ≤ n by omega); omega)
  have hw2 := hr.w2
  have hh2 := hr.h2
  have g1 := hr.x1; have g2 := hr.x2; have g3 := hr.y1; have g4 := hr.y2
  have hlen := hr.len
  have KA := Lib.hid (fun i (hi : i < n * n) (w' : World) (hl' : SRow w' (some ⟨b, o, none⟩) l) => show Calls Try.prog 107 #[fldV X Y Wn Hn (some ⟨b, o, none⟩) l.length c, .int .i64 (x - (N : Int) + ((i % n : Nat) : Int)), .int .i64 (y - (N : Int) + ((i / n : Nat) : Int))] w' fun e w2 => e = .returned (.float .f32 (g i)) ∧ Below w'.heap.size w' w2 from by
    have h1 : i / n < n := Nat.div_lt_of_lt_mul hi
    have h2 : i % n < n := Nat.mod_lt _ (by omega)
    have ep : patch Wn F n i = F + i / n * Wn + i % n := rfl
    rw [hgd]
    show Calls Try.prog _ _ w' fun e w2 => e = .returned (.float .f32 (l.getD (patch Wn F n i) 0)) ∧ _
    rw [ep]
    generalize i / n = dq at *
    generalize i % n = dm at *
    have := at_right X Y Wn Hn (x - (N : Int) + (dm : Int)) (y - (N : Int) + (dq : Int)) b o c l w' hl' hr (by omega) (by omega) (by omega) (by omega)
    have e : (cellNo X Y Wn (x - (N : Int) + (dm : Int)) (y - (N : Int) + (dq : Int))).toNat = F + dq * Wn + dm := by
      unfold cellNo
      have e1 : (y - (N : Int) + (dq : Int) - Y) * (Wn : Int) = (y - (Y + N)) * Wn + ((dq * Wn : Nat) : Int) := by
        rw [Int.natCast_mul, ← Int.add_mul]
        congr 1
        omega
      rw [e1]
      omega
    rw [e] at this
    exact this)
  have KS := Lib.hid (fun m hm => ker_step hkb hgb m hm)
  have KM := Lib.hid (fun i w' => ref_mul_ok (κ i) (g i) w' (hkb i).1 (hgb i).1 ((hkb i).mul (hgb i) (by omega)).1)
  change Hid (∀ i w', Calls Try.prog 136 #[.float .f32 (κ i), .float .f32 (g i)] w' fun en w2 => en = .returned (.float .f32 (mulF (κ i) (g i))) ∧ w' = w2) at KM
  have bl : b < w.heap.size := srow_blt hl (right_pos hr)
  obtain ⟨c0, c1, c2, c3, c4⟩ := hq.cells
  have dr : w.cell? ⟨pr, 0, none⟩ = some (.int .i64 (N : Int)) := hg.cell 0
  have dn : w.cell? ⟨pn, 0, none⟩ = some (.int .i64 (n : Int)) := hpn.cell 0
  have l1 := hq.lt
  have l2 := hg.lt
  have l3 := hpn.lt
  have nn1 := Nat.mul_le_mul (show n ≤ 33 by omega) (show n ≤ 33 by omega)
  have nn0 := Nat.mul_le_mul (show 1 ≤ n by omega) (show 1 ≤ n by omega)
  have n1 : (1 : Int) ≤ n := by omega
  have n33 : (n : Int) ≤ 33 := by omega
  have N0 : (0 : Int) ≤ N := by omega
  have N16 : (N : Int) ≤ 16 := by omega
  obtain ⟨x1, x2⟩ : -16777216 ≤ x ∧ x ≤ 16777216 := by omega
  obtain ⟨y1, y2⟩ : -16777216 ≤ y ∧ y ≤ 16777216 := by omega
  have HLS := Lib.hid hl
  have HGE := Lib.hid hgd.symm
  have hnn : (n : Int) * (n : Int) = ((n * n : Nat) : Int) := (Int.natCast_mul n n).symm
  have hn2 : ((n * n : Nat) : Int) ≤ 1089 := by omega
  have hn0 : (1 : Int) ≤ ((n * n : Nat) : Int) := by omega
  have NN : Hid (1 ≤ n * n ∧ n * n ≤ 1089) := by unfold Hid; omega
  clear hl hr hq hg hpn hx hx' hy hy' g1 g2 g3 g4 hlen hn hN hgd hgb hF nn0 nn1 hw2 hh2 hK hKb hpk hkb hkd
  generalize hN2 : n * n = nn at *
  clear hN2
  have HKN := Lib.hid hKn
  have HKI : Hid ((K.length : Int) = (nn : Int)) := by unfold Hid; omega
  clear hKn
  generalize hzE : kerF κ g (nn - 1) = zE at *
  have HZE := Lib.hid hzE
  clear hzE
  go_enter Try.func135, Try.ntmps135
  go_wp2_with fail
  go_loopw [9, 14] (fun s v wr => ∃ i z : Nat, i ≤ nn ∧ v = .int .i64 (i : Int) ∧ s = .float .f32 z ∧ (0 < i → z = kerF κ g (i - 1)) ∧ Below w.heap.size w wr) (fun _ v _ => nn - (intOf v).toNat)
  case atStart => exact ⟨0, 0, by omega, rfl, rfl, fun h => absurd h (by omega), (by repeat (first | with_reducible exact Below.refl _ _ | with_reducible apply Below.drew | with_reducible refine below_drewN ?_ _ | (with_reducible refine Below.setCell ?_ ?_ _; rotate_left; focus (first | omega | (simp <;> omega))) | (with_reducible refine Below.alloc ?_ ?_ _; rotate_left; focus (first | omega | (simp <;> omega)))))⟩
  case round =>
    obtain ⟨i, zm, hm, rfl, rfl, hzm, B⟩ := hrel
    have HZM := Lib.hid hzm
    clear hzm
    have HB := Lib.hid B
    have z := B.size
    have c0' := (B.cell (p := ⟨q, 0, none⟩) (by simpa using l1)).trans c0
    have c1' := (B.cell (p := ⟨q, 1, none⟩) (by simpa using l1)).trans c1
    have c2' := (B.cell (p := ⟨q, 2, none⟩) (by simpa using l1)).trans c2
    have c3' := (B.cell (p := ⟨q, 3, none⟩) (by simpa using l1)).trans c3
    have c4' := (B.cell (p := ⟨q, 4, none⟩) (by simpa using l1)).trans c4
    have dr' := (B.cell (p := ⟨pr, 0, none⟩) (by simpa using l2)).trans dr
    have dn' := (B.cell (p := ⟨pn, 0, none⟩) (by simpa using l3)).trans dn
    have dk' := (B.cell (p := ⟨pk, 0, none⟩) (by simpa using l6)).trans dk
    have l5' : kb < wr.heap.size := by omega
    have l6' : pk < wr.heap.size := by omega
    have l1' : q < wr.heap.size := by omega
    have l2' : pr < wr.heap.size := by omega
    have l3' : pn < wr.heap.size := by omega
    have HLW := Lib.hid (SRow.below HLS.out B)
    by_cases hlt : i < nn
    · have hlI : (i : Int) < (K.length : Int) := by have := HKI.out; omega
      have hlN : i < K.length := by omega
      have km := Lib.hid (fun w' => KM.out i w')
      have hkc := (B.cell (p := ⟨kb, ko + i, none⟩) (by simpa using kbl)).trans (HKR.out i hlt)
      have e8 : κ i = K.getD i 0 := by rw [← HKG.out]
      rw [← e8] at hkc
      have KT := Lib.hid (fun m (hmi : m + 1 = i) w' => show Calls Try.prog 131 #[.float .f32 (kerF κ g m), .float .f32 (mulF (κ i) (g i))] w' fun en w2 => en = .returned (.float .f32 (kerF κ g i)) ∧ w' = w2 from by
        subst hmi
        obtain ⟨s1, s2, s3⟩ := KS.out m (by have := NN.out.2; omega)
        exact ref_add_ok (kerF κ g m) (mulF (κ (m + 1)) (g (m + 1))) w' s1 s2 s3)
      have HZ0 : Hid (i = 0 → mulF (κ i) (g i) = kerF κ g i) := by intro h; subst h; rfl
      clear e8
      have KI := Lib.hid (KA.out i hlt)
      have q1 : (i : Int).tdiv (n : Int) = ((i / n : Nat) : Int) := by rw [Int.ofNat_tdiv]
      have q2 : (i : Int).tmod (n : Int) = ((i % n : Nat) : Int) := by rw [Int.ofNat_tmod]
      have q7 : ((i % n : Nat) : Int) ≤ 33 := by have := Nat.mod_lt i (show 0 < n by omega); omega
      have q8 : ((i / n : Nat) : Int) ≤ 1089 := by have := Nat.div_le_self i n; have := NN.out.2; omega
      have nz : ¬ (n : Int) = 0 := by omega
      have nz2 : ¬ n = 0 := by omega
      generalize i / n = dq at *
      generalize i % n = dm at *
      have p1 : (0 : Int) ≤ dq := by omega
      have p2 : (0 : Int) ≤ dm := by omega
      have r1 : IntKind.i64.wrap (x - (N : Int)) = x - (N : Int) := by rw [IntKind.wrap_i64]; omega
      have r2 : IntKind.i64.wrap (y - (N : Int)) = y - (N : Int) := by rw [IntKind.wrap_i64]; omega
      have r3 : IntKind.i64.wrap (x - (N : Int) + (dm : Int)) = x - (N : Int) + (dm : Int) := by rw [IntKind.wrap_i64]; omega
      have r4 : IntKind.i64.wrap (y - (N : Int) + (dq : Int)) = y - (N : Int) + (dq : Int) := by rw [IntKind.wrap_i64]; omega
      have r5 : IntKind.i64.wrap (dq : Int) = (dq : Int) := by rw [IntKind.wrap_i64]; omega
      have r6 : IntKind.i64.wrap (dm : Int) = (dm : Int) := by rw [IntKind.wrap_i64]; omega
      generalize hz1 : kerF κ g i = z1 at *
      have HZ1 := Lib.hid hz1
      clear hz1
      generalize mulF (κ i) (g i) = z3 at *
      generalize g i = z2 at *
      generalize κ i = k2 at *
      clear z B
      go_wp2_with fail
      go_region_held3 (fun w' => w'.cell? ⟨q, 0, none⟩ = some (.int .i64 X) ∧ w'.cell? ⟨q, 1, none⟩ = some (.int .i64 Y) ∧ w'.cell? ⟨q, 2, none⟩ = some (.int .i64 Wn) ∧ w'.cell? ⟨q, 3, none⟩ = some (.int .i64 Hn) ∧ w'.cell? ⟨q, 4, none⟩ = some (.slice (some ⟨b, o, none⟩) l.length c) ∧ w'.cell? ⟨pr, 0, none⟩ = some (.int .i64 (N : Int)) ∧ w'.cell? ⟨pn, 0, none⟩ = some (.int .i64 (n : Int)) ∧ w'.cell? ⟨pk, 0, none⟩ = some (.slice (some ⟨kb, ko, none⟩) K.length kc) ∧ w'.cell? ⟨kb, ko + i, none⟩ = some (.float .f32 k2) ∧ Below wr.heap.size wr w')
        (first
          | exact ⟨c0', c1', c2', c3', c4', dr', dn', dk', hkc, (Below.refl _ _).drew⟩
          | (go_split_ands
             have hs := hb.size
             have hs2 := (show Below wr.heap.size wr _ by assumption).size
             refine ⟨?_, ?_, ?_, ?_, ?_, ?_, ?_, ?_, ?_, ?_⟩
             all_goals first
               | (rw [hb.cell (by simp; omega)]; assumption)
               | exact Below.trans (by assumption) (hb.mono (by omega)))
          | (go_split_ands; refine ⟨?_, ?_, ?_, ?_, ?_, ?_, ?_, ?_, ?_, ?_⟩ <;> assumption))
        (first
          | (go_at_call 107; go_split_ands; refine (KI.out _ (HLW.out.below (by assumption))).mono ?_; rintro e2 w2 ⟨rfl, hb⟩)
          | (go_at_call 136; go_split_ands; refine (km.out _).mono ?_; rintro e2 w2 ⟨rfl, rfl⟩))
      rename_i hHeld
      have HBH := Lib.hid (HB.out.trans (hHeld.2.2.2.2.2.2.2.2.2.mono HB.out.size))
      clear hHeld
      by_cases hi0 : i = 0
      · subst hi0
        go_wp2_with fail
        go_roundw
        case rel => exact ⟨1, z3, by omega, rfl, rfl, fun _ => by rw [HZ0.out rfl, ← HZ1.out], HBH.out⟩
        case measure => simp [intOf]; omega
      · have hi1 : ¬ (i : Int) = 0 := by omega
        have hadd := Lib.hid (KT.out (i - 1) (by omega))
        rw [← HZM.out (by omega)] at hadd
        go_wp2_with fail
        refine (hadd.out _).mono ?_
        rintro en wz ⟨rfl, rfl⟩
        go_wp2_with fail
        go_roundw
        case rel => exact ⟨i + 1, z1, by omega, by go_num, rfl, fun _ => by rw [Nat.add_sub_cancel]; exact HZ1.out.symm, HBH.out⟩
        case measure => simp [intOf]; omega
    · have hnn' : i = nn := by omega
      have hlI : ¬ (i : Int) < (K.length : Int) := by have := HKI.out; omega
      subst hnn'
      have ez : zm = zE := by rw [HZM.out (by have := NN.out.1; omega)]; exact HZE.out
      subst ez
      go_wp2_with fail
      go_ret
      exact ⟨rfl, HB.out⟩
end Go.Proofs.Ytnfebeebjelgbaa
