import Derived.Test.YtkmcinibaffpmaaWideFn6
import Derived.Deep.QuietTactic
import Derived.BigQuiet
namespace Go.Proofs.Ytkmcinibaffpmaa
open Go.ChangeShapes Go.WideShapes Go.ChangeAt Go.RowKit
open Ieee.Format (fin finE htE allFin allHt all_true all_false mulF subF addF Ht Bd divF rootF floorF easeF mixF)
set_option linter.unusedVariables false
open Wide
open Ieee.Format (zi)

set_option maxRecDepth 100000 in
set_option maxHeartbeats 4000000 in
theorem of_sub (x m : Nat) (w : World) (hx : x < 4294967296) (he : x / 8388608 % 256 = 0) (hm : x % 8388608 = m) (Z : Int) (hZ : Z = ((m * 2 ^ 11 : Nat) : Int)) :
    (x / 2147483648 = 0 → Calls Try.prog 101 #[.float .f32 x] w fun e w' => e = .returned (wideV Z) ∧ Below w.heap.size w w') ∧
    (x / 2147483648 = 1 → Calls Try.prog 101 #[.float .f32 x] w fun e w' => e = .returned (wideV (-Z)) ∧ Below w.heap.size w w') := by
  have KF := run_f32bits x
  have ka : bits .and .u32 (x : Int) 8388607 = (m : Int) := by rw [and_23 _ (by omega) (by omega)]; omega
  have kb : bits .and .u32 ((x : Int) / 8388608) 255 = 0 := by rw [and_8 _ (by omega) (by omega)]; omega
  have m2 : (m : Int) ≤ 8388607 := by omega
  obtain ⟨sd, sz⟩ := shift_dig m 0 11 (by omega) (by omega) (by omega)
  rw [Nat.mul_zero, Nat.zero_add, ← hZ] at sd
  have s0 := sz (by omega)
  rw [s0] at sd
  have KM := Lib.hid (fun w => minus_any Z w)
  have HX : Hid (x < 4294967296) := hx
  have hz : Z % 18446744073709551616 = (m : Int) * 2048 := by rw [hZ]; push_cast; omega
  have D0 := sd 0 (by omega)
  have D1 := sd 1 (by omega)
  have D2 := sd 2 (by omega)
  have D3 := sd 3 (by omega)
  have D4 := sd 4 (by omega)
  clear hx he hm hZ sd sz s0
  simp at D0 D1 D2 D3 D4
  rw [hz] at D0
  clear hz
  have HV := Lib.hid (wideV_of D0 D1 D2 D3 D4)
  clear D0 D1 D2 D3 D4
  constructor
  · intro hs
    have ks : (x : Int) / 2147483648 = 0 := by have := HX.out; omega
    clear hs KM HX
    generalize hVV : wideV Z = V at *
    clear hVV
    go_enter Try.func101, Try.ntmps101
    go_wp2_with fail
    refine bodyPost_ret (v := V) (by rw [HV.out]; simp [results, Try.results101, go_sem, *]) rfl ⟨rfl, (by repeat (first | with_reducible exact Below.refl _ _ | with_reducible apply Below.drew | with_reducible refine below_drewN ?_ _ | (with_reducible refine Below.setCell ?_ ?_ _; rotate_left; focus (first | omega | (simp <;> omega))) | (with_reducible refine Below.alloc ?_ ?_ _; rotate_left; focus (first | omega | (simp <;> omega)))))⟩
  · intro hs
    have ks : (x : Int) / 2147483648 = 1 := by have := HX.out; omega
    clear hs HX
    rw [HV.out] at KM
    unfold wideV at KM
    unfold wideV
    generalize dig (-Z) = s at *
    go_enter Try.func101, Try.ntmps101
    go_wp2_with fail
    generalize hW : w.alloc (.cells #[.int .u64 0, .int .u64 0, .int .u64 0, .int .u64 0, .int .u64 0] 144) = W0 at *
    refine (KM.out _).mono ?_
    rintro e w2 ⟨rfl, hb⟩
    have Z0 : Blk W0 w.heap.size #[.int .u64 0, .int .u64 0, .int .u64 0, .int .u64 0, .int .u64 0] 144 := by rw [← hW]; exact Blk.new _ _ _
    have B1 : Below w.heap.size w W0 := by rw [← hW]; exact (by repeat (first | with_reducible exact Below.refl _ _ | with_reducible apply Below.drew | with_reducible refine below_drewN ?_ _ | (with_reducible refine Below.setCell ?_ ?_ _; rotate_left; focus (first | omega | (simp <;> omega))) | (with_reducible refine Below.alloc ?_ ?_ _; rotate_left; focus (first | omega | (simp <;> omega)))))
    have Z1 := (Z0.alloc _).below hb (Z0.alloc _).lt
    have B2 := (B1.alloc (Nat.le_of_lt Z0.lt) _).trans (hb.mono (Nat.le_of_lt (Z0.alloc _).lt))
    have HB := Lib.hid B2
    clear hb hW Z0 B1 B2
    have zc0 := Z1.cell 0
    have zc1 := Z1.cell 1
    have zc2 := Z1.cell 2
    have zc3 := Z1.cell 3
    have zc4 := Z1.cell 4
    simp at zc0 zc1 zc2 zc3 zc4
    have zf0 := Z1.frozen 0
    have zf1 := Z1.frozen 1
    have zf2 := Z1.frozen 2
    have zf3 := Z1.frozen 3
    have zf4 := Z1.frozen 4
    have l1 := Z1.lt
    clear Z1
    go_wp2_with fail
    have B0 := HB.out
    refine bodyPost_ret (v := .agg #[.int .u64 (s 0), .int .u64 (s 1), .int .u64 (s 2), .int .u64 (s 3), .int .u64 (s 4)]) (by simp [results, Try.results101, go_sem, *]) rfl ⟨rfl, (by have hszz := B0.size; repeat (first | with_reducible exact B0 | with_reducible apply Below.drew | with_reducible refine below_drewN ?_ _ | (with_reducible refine Below.setCell ?_ ?_ _; rotate_left; focus (first | omega | (simp <;> omega))) | (with_reducible refine Below.alloc ?_ ?_ _; rotate_left; focus (first | omega | (simp <;> omega)))))⟩
theorem of_any (x : Nat) (w : World) (hx : x < 4294967296) (he : x / 8388608 % 256 ≤ 180) : Calls Try.prog 101 #[.float .f32 x] w fun e w' => e = .returned (wideV (zi x)) ∧ Below w.heap.size w w' := by
  obtain ⟨z1, z2⟩ := zi_parts x hx
  have hs : x / 2147483648 = 0 ∨ x / 2147483648 = 1 := by omega
  by_cases h0 : x / 8388608 % 256 = 0
  · have z1 := z1 h0
    obtain ⟨p, n⟩ := of_sub x _ w hx h0 rfl _ rfl
    rcases hs with hs | hs
    · rw [if_neg (by omega), Int.one_mul] at z1
      rw [z1]; exact p hs
    · rw [if_pos hs, Int.neg_mul, Int.one_mul] at z1
      rw [z1]; exact n hs
  · have z2 := z2 (by omega)
    have e : 64 * ((x / 8388608 % 256 - 1 + 11) / 64) + (x / 8388608 % 256 - 1 + 11) % 64 = x / 8388608 % 256 - 1 + 11 := by omega
    rw [← e] at z2
    obtain ⟨p, n⟩ := of_norm x _ _ _ _ w hx rfl rfl (by omega) rfl rfl (by omega) _ rfl
    rcases hs with hs | hs
    · rw [if_neg (by omega), Int.one_mul] at z2
      rw [z2]; exact p hs
    · rw [if_pos hs, Int.neg_mul, Int.one_mul] at z2
      rw [z2]; exact n hs
end Go.Proofs.Ytkmcinibaffpmaa
