import Derived.Test.YtkmcinibaffpmaaWideFn3
import Derived.RegionTactic
import Derived.ChangeAlike
import Derived.Deep.QuietTactic
namespace Go.Proofs.Ytkmcinibaffpmaa
open Go.ChangeShapes Go.WideShapes Go.ChangeAt Go.RowKit
open Ieee.Format (fin finE htE allFin allHt all_true all_false mulF subF addF Ht Bd divF rootF floorF easeF mixF)
set_option linter.unusedVariables false
open Wide

set_option maxRecDepth 100000 in
set_option maxHeartbeats 2000000 in
theorem size_any (z : Int) (w : World) (h0 : -1067993517960455041197510853084776057301352261178326384973520803911109862890320275011481043468288 ≤ z) (h1 : z < 1067993517960455041197510853084776057301352261178326384973520803911109862890320275011481043468288) :
    Calls Try.prog 104 #[wideV z] w fun e w' => e = .returned (wideV (zabs z)) ∧ Below w.heap.size w w' := by
  have ht := top_digit h0 h1
  clear h0 h1
  have KM := Lib.hid (fun w => minus_any z w)
  have P0 := one_at w (wideC z)
  unfold wideC at P0
  unfold wideV at KM
  unfold wideV zabs
  have HP := Lib.hid P0
  clear P0
  by_cases hz : z < 0
  · rw [if_pos hz] at ht ⊢
    clear hz
    generalize dig (-z) = s at *
    generalize dig z = p at *
    go_enter Try.func104, Try.ntmps104
    go_wp2_with fail
    generalize (w.alloc (.cells #[.int .u64 (p 0), .int .u64 (p 1), .int .u64 (p 2), .int .u64 (p 3), .int .u64 (p 4)] 144)).alloc (.cells #[.int .u64 0, .int .u64 0, .int .u64 0, .int .u64 0, .int .u64 0] 144) = W0 at *
    have I := HP.out
    have xc0 := I.x.cell 0
    have xc1 := I.x.cell 1
    have xc2 := I.x.cell 2
    have xc3 := I.x.cell 3
    have xc4 := I.x.cell 4
    simp at xc0 xc1 xc2 xc3 xc4
    have l0 := I.x.lt
    clear I
    go_wp2_with fail
    refine (KM.out _).mono ?_
    rintro e w2 ⟨rfl, hb⟩
    have I2 := HP.out.call hb
    clear xc0 xc1 xc2 xc3 xc4 l0 hb
    have zc0 := I2.z.cell 0
    have zc1 := I2.z.cell 1
    have zc2 := I2.z.cell 2
    have zc3 := I2.z.cell 3
    have zc4 := I2.z.cell 4
    simp at zc0 zc1 zc2 zc3 zc4
    have zf0 := I2.z.frozen 0
    have zf1 := I2.z.frozen 1
    have zf2 := I2.z.frozen 2
    have zf3 := I2.z.frozen 3
    have zf4 := I2.z.frozen 4
    have l1 := I2.z.lt
    have HB := Lib.hid I2.b
    clear I2 HP
    go_wp2_with fail
    have B0 := HB.out
    refine bodyPost_ret (v := .agg #[.int .u64 (s 0), .int .u64 (s 1), .int .u64 (s 2), .int .u64 (s 3), .int .u64 (s 4)]) (by simp [results, Try.results104, go_sem, *]) rfl ⟨rfl, (by have hszz := B0.size; repeat (first | with_reducible exact B0 | with_reducible apply Below.drew | with_reducible refine below_drewN ?_ _ | (with_reducible refine Below.setCell ?_ ?_ _; rotate_left; focus (first | omega | (simp <;> omega))) | (with_reducible refine Below.alloc ?_ ?_ _; rotate_left; focus (first | omega | (simp <;> omega)))))⟩
  · rw [if_neg hz] at ht ⊢
    clear hz KM
    generalize dig z = s at *
    go_enter Try.func104, Try.ntmps104
    go_wp2_with fail
    refine bodyPost_ret (v := .agg #[.int .u64 (s 0), .int .u64 (s 1), .int .u64 (s 2), .int .u64 (s 3), .int .u64 (s 4)]) (by simp [results, Try.results104, go_sem, *]) rfl ⟨rfl, (by repeat (first | with_reducible exact Below.refl _ _ | with_reducible apply Below.drew | with_reducible refine below_drewN ?_ _ | (with_reducible refine Below.setCell ?_ ?_ _; rotate_left; focus (first | omega | (simp <;> omega))) | (with_reducible refine Below.alloc ?_ ?_ _; rotate_left; focus (first | omega | (simp <;> omega)))))⟩
set_option maxRecDepth 100000 in
set_option maxHeartbeats 2000000 in
theorem times_any (a n : Int) (w : World) (h0 : 0 ≤ n) (h1 : n < 18446744073709551616) : Calls Try.prog 105 #[wideV a, .int .u64 n] w fun e w' => e = .returned (wideV (a * n)) ∧ Below w.heap.size w w' := by
  have KM0 := Lib.hid (fun j w => mul64_any (dig a j) n (dig_bd a j).1 (dig_bd a j).2 (by omega) h1 w)
  have KA0 := Lib.hid (fun j w => run_add (dig a j * n % 18446744073709551616) (carm a n j) 0 (by omega) (qd_mul a n h0 j).2.1 (by omega) (by omega) w)
  have KD : ∀ j, (dig a j * n % 18446744073709551616 + carm a n j + 0) % 18446744073709551616 = dig (a * n) j := fun j => by
    rw [dig_mul a n h0]; omega
  have KW0 := Lib.hid (fun j => (show IntKind.u64.wrap (dig a j * n / 18446744073709551616 + (dig a j * n % 18446744073709551616 + carm a n j + 0) / 18446744073709551616) = carm a n (j + 1) from by
    obtain ⟨_, c1, c2⟩ := qd_mul a n h0 (j + 1)
    rw [wrap_u64]
    rw [carm] at *
    omega))
  simp only [KD] at KA0
  clear KD
  have HC : Hid (carm a n 0 = 0) := Lib.hid rfl
  have P0 := one_at w (wideC a)
  unfold wideC at P0
  unfold wideV
  have HP := Lib.hid P0
  clear P0 h0 h1
  generalize dig (a * n) = s at *
  obtain ⟨H, hH⟩ : ∃ H : Nat → Int, H = fun j => dig a j * n / 18446744073709551616 := ⟨_, rfl⟩
  obtain ⟨L, hL⟩ : ∃ L : Nat → Int, L = fun j => dig a j * n % 18446744073709551616 := ⟨_, rfl⟩
  obtain ⟨C, hCC⟩ : ∃ C : Nat → Int, C = fun j => (dig a j * n % 18446744073709551616 + carm a n j + 0) / 18446744073709551616 := ⟨_, rfl⟩
  have KM : Hid (∀ j w, Calls Try.prog 203 #[.int .u64 (dig a j), .int .u64 n] w fun e w' => e = .returned (.tuple #[.int .u64 (H j), .int .u64 (L j)]) ∧ w = w') := by subst hH hL; exact KM0
  have KA : Hid (∀ j w, (callFunc 202 #[.int .u64 (L j), .int .u64 (carm a n j), .int .u64 0]).run Try.prog w = .ok (.value (.tuple #[.int .u64 (s j), .int .u64 (C j)])) w) := by subst hL hCC; exact KA0
  have KW : Hid (∀ j, IntKind.u64.wrap (H j + C j) = carm a n (j + 1)) := by subst hH hCC; exact KW0
  clear hH hL hCC KM0 KA0 KW0
  generalize carm a n = c at *
  generalize dig a = p at *
  go_enter Try.func105, Try.ntmps105
  go_wp2_with fail
  generalize (w.alloc (.cells #[.int .u64 (p 0), .int .u64 (p 1), .int .u64 (p 2), .int .u64 (p 3), .int .u64 (p 4)] 144)).alloc (.cells #[.int .u64 0, .int .u64 0, .int .u64 0, .int .u64 0, .int .u64 0] 144) = W0 at *
  go_loopw [5, 6, 7, 8, 9, 10, 13, 21] (fun cv _ _ _ _ i _ _ wr => ∃ j : Nat, j ≤ 5 ∧ i = .int .i64 j ∧ cv = .int .u64 (c j) ∧ OneAt w wr #[.int .u64 (if 0 < j then s 0 else p 0), .int .u64 (if 1 < j then s 1 else p 1), .int .u64 (if 2 < j then s 2 else p 2), .int .u64 (if 3 < j then s 3 else p 3), .int .u64 (if 4 < j then s 4 else p 4)]) (fun _ _ _ _ _ i _ _ _ => 5 - (intOf i).toNat)
  case atStart => exact ⟨0, by omega, rfl, by rw [HC.out], by simpa using HP.out⟩
  case round =>
    clear HP
    obtain ⟨j, hj, rfl, rfl, I⟩ := hrel
    rcases (show j = 0 ∨ j = 1 ∨ j = 2 ∨ j = 3 ∨ j = 4 ∨ j = 5 by omega) with rfl | rfl | rfl | rfl | rfl | rfl
    · have k2 := Lib.hid (KA.out 0)
      have k3 := Lib.hid (KW.out 0)
      simp at I
      have HI := Lib.hid I
      have c0 := I.x.cell 0
      have l0 := I.x.lt
      have f0 := I.x.frozen 0
      simp at c0
      clear I hj
      go_wp2_with fail
      refine (KM.out 0 _).mono ?_
      rintro e wz ⟨rfl, rfl⟩
      go_wp2_with fail
      rw [k2.out]
      go_wp2_with fail
      go_roundw
      case rel => rw [k3.out]; exact ⟨1, by omega, rfl, rfl, by simpa using (HI.out.set 0 (.int .u64 (s 0)))⟩
      case measure => simp [intOf]
    · have k2 := Lib.hid (KA.out 1)
      have k3 := Lib.hid (KW.out 1)
      simp at I
      have HI := Lib.hid I
      have c0 := I.x.cell 1
      have l0 := I.x.lt
      have f0 := I.x.frozen 1
      simp at c0
      clear I hj
      go_wp2_with fail
      refine (KM.out 1 _).mono ?_
      rintro e wz ⟨rfl, rfl⟩
      go_wp2_with fail
      rw [k2.out]
      go_wp2_with fail
      go_roundw
      case rel => rw [k3.out]; exact ⟨2, by omega, rfl, rfl, by simpa using (HI.out.set 1 (.int .u64 (s 1)))⟩
      case measure => simp [intOf]
    · have k2 := Lib.hid (KA.out 2)
      have k3 := Lib.hid (KW.out 2)
      simp at I
      have HI := Lib.hid I
      have c0 := I.x.cell 2
      have l0 := I.x.lt
      have f0 := I.x.frozen 2
      simp at c0
      clear I hj
      go_wp2_with fail
      refine (KM.out 2 _).mono ?_
      rintro e wz ⟨rfl, rfl⟩
      go_wp2_with fail
      rw [k2.out]
      go_wp2_with fail
      go_roundw
      case rel => rw [k3.out]; exact ⟨3, by omega, rfl, rfl, by simpa using (HI.out.set 2 (.int .u64 (s 2)))⟩
      case measure => simp [intOf]
    · have k2 := Lib.hid (KA.out 3)
      have k3 := Lib.hid (KW.out 3)
      simp at I
      have HI := Lib.hid I
      have c0 := I.x.cell 3
      have l0 := I.x.lt
      have f0 := I.x.frozen 3
      simp at c0
      clear I hj
      go_wp2_with fail
      refine (KM.out 3 _).mono ?_
      rintro e wz ⟨rfl, rfl⟩
      go_wp2_with fail
      rw [k2.out]
      go_wp2_with fail
      go_roundw
      case rel => rw [k3.out]; exact ⟨4, by omega, rfl, rfl, by simpa using (HI.out.set 3 (.int .u64 (s 3)))⟩
      case measure => simp [intOf]
    · have k2 := Lib.hid (KA.out 4)
      have k3 := Lib.hid (KW.out 4)
      simp at I
      have HI := Lib.hid I
      have c0 := I.x.cell 4
      have l0 := I.x.lt
      have f0 := I.x.frozen 4
      simp at c0
      clear I hj
      go_wp2_with fail
      refine (KM.out 4 _).mono ?_
      rintro e wz ⟨rfl, rfl⟩
      go_wp2_with fail
      rw [k2.out]
      go_wp2_with fail
      go_roundw
      case rel => rw [k3.out]; exact ⟨5, by omega, rfl, rfl, by simpa using (HI.out.set 4 (.int .u64 (s 4)))⟩
      case measure => simp [intOf]
    · simp at I
      have c0 := I.x.cell 0
      have c1 := I.x.cell 1
      have c2 := I.x.cell 2
      have c3 := I.x.cell 3
      have c4 := I.x.cell 4
      simp at c0 c1 c2 c3 c4
      have l0 := I.x.lt
      have l1 := I.z.lt
      have f0 := I.z.frozen 0
      have f1 := I.z.frozen 1
      have f2 := I.z.frozen 2
      have f3 := I.z.frozen 3
      have f4 := I.z.frozen 4
      have z0 := I.z.cell 0
      have z1 := I.z.cell 1
      have z2 := I.z.cell 2
      have z3 := I.z.cell 3
      have z4 := I.z.cell 4
      simp at z0 z1 z2 z3 z4
      have HB := Lib.hid I.b
      clear I
      go_wp2_with fail
      have B0 := HB.out
      refine bodyPost_ret (v := .agg #[.int .u64 (s 0), .int .u64 (s 1), .int .u64 (s 2), .int .u64 (s 3), .int .u64 (s 4)]) (by simp [results, Try.results105, go_sem, *]) rfl ⟨rfl, (by have hszz := B0.size; repeat (first | with_reducible exact B0 | with_reducible apply Below.drew | with_reducible refine below_drewN ?_ _ | (with_reducible refine Below.setCell ?_ ?_ _; rotate_left; focus (first | omega | (simp <;> omega))) | (with_reducible refine Below.alloc ?_ ?_ _; rotate_left; focus (first | omega | (simp <;> omega)))))⟩
end Go.Proofs.Ytkmcinibaffpmaa
