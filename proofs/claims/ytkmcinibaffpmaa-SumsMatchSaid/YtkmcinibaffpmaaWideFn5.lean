import Derived.Test.YtkmcinibaffpmaaWideFn4
import Derived.RegionTactic
import Derived.ChangeAlike
import Derived.Deep.QuietTactic
import Derived.BigQuiet
namespace Go.Proofs.Ytkmcinibaffpmaa
open Go.ChangeShapes Go.WideShapes Go.ChangeAt Go.RowKit
open Ieee.Format (fin finE htE allFin allHt all_true all_false mulF subF addF Ht Bd divF rootF floorF easeF mixF)
set_option linter.unusedVariables false
open Wide
open Ieee.Format (zi)

structure TwoAt (w wr : World) (x y : Array Value) : Prop where
  x : Blk wr w.heap.size x 144
  y : Blk wr (w.heap.size + 1) y 144
  b : Below w.heap.size w wr
theorem two_at (w : World) (x y : Array Value) : TwoAt w ((w.alloc (.cells x 144)).alloc (.cells y 144)) x y := by
  refine ⟨(Blk.new _ _ _).alloc _, ?_, (by repeat (first | with_reducible exact Below.refl _ _ | with_reducible apply Below.drew | with_reducible refine below_drewN ?_ _ | (with_reducible refine Below.setCell ?_ ?_ _; rotate_left; focus (first | omega | (simp <;> omega))) | (with_reducible refine Below.alloc ?_ ?_ _; rotate_left; focus (first | omega | (simp <;> omega)))))⟩
  have := Blk.new (w.alloc (.cells x 144)) y 144
  simpa using this
theorem TwoAt.drewN {w wr : World} {x y : Array Value} (h : TwoAt w wr x y) (n : Nat) : TwoAt w (wr.drewN n) x y := ⟨h.x.drewN n, h.y.drewN n, below_drewN h.b n⟩
theorem cmp_self (a : Int) : cmpI a a = 0 := by unfold cmpI; rw [if_neg (by omega), if_neg (by omega)]
theorem cmp_ne {a b : Int} (h : a ≠ b) : cmpI a b ≠ 0 := by unfold cmpI; split; omega; split; omega; omega
set_option maxRecDepth 100000 in
set_option maxHeartbeats 2000000 in
theorem compare_any (a b : Int) (w : World) (a0 : 0 ≤ a) (a1 : a < 2135987035920910082395021706169552114602704522356652769947041607822219725780640550022962086936576) (b0 : 0 ≤ b) (b1 : b < 2135987035920910082395021706169552114602704522356652769947041607822219725780640550022962086936576) :
    Calls Try.prog 106 #[wideV a, wideV b] w fun e w' => e = .returned (.int .i64 (cmpI a b)) ∧ Below w.heap.size w w' := by
  have HQ : Hid (qd a 5 = qd b 5) := Lib.hid ((qd_5 a0 a1).trans (qd_5 b0 b1).symm)
  clear a0 a1 b0 b1
  have P0 := two_at w (wideC a) (wideC b)
  unfold wideC at P0
  unfold wideV
  have HP := Lib.hid P0
  clear P0
  go_enter Try.func106, Try.ntmps106
  go_wp2_with fail
  generalize (w.alloc (.cells #[.int .u64 (dig a 0), .int .u64 (dig a 1), .int .u64 (dig a 2), .int .u64 (dig a 3), .int .u64 (dig a 4)] 144)).alloc (.cells #[.int .u64 (dig b 0), .int .u64 (dig b 1), .int .u64 (dig b 2), .int .u64 (dig b 3), .int .u64 (dig b 4)] 144) = W0 at *
  go_loopw [5, 6] (fun i _ wr => ∃ j : Nat, j ≤ 5 ∧ i = .int .i64 (4 - (j : Int)) ∧ qd a (5 - j) = qd b (5 - j) ∧ TwoAt w wr #[.int .u64 (dig a 0), .int .u64 (dig a 1), .int .u64 (dig a 2), .int .u64 (dig a 3), .int .u64 (dig a 4)] #[.int .u64 (dig b 0), .int .u64 (dig b 1), .int .u64 (dig b 2), .int .u64 (dig b 3), .int .u64 (dig b 4)]) (fun i _ _ => (intOf i + 1).toNat)
  case atStart => exact ⟨0, by omega, rfl, HQ.out, HP.out⟩
  case round =>
    clear HP HQ
    obtain ⟨j, hj, rfl, hq, I⟩ := hrel
    rcases (show j = 0 ∨ j = 1 ∨ j = 2 ∨ j = 3 ∨ j = 4 ∨ j = 5 by omega) with rfl | rfl | rfl | rfl | rfl | rfl
    · obtain ⟨he, hn⟩ := cmp_at (k := 4) hq
      have KE := Lib.hid he
      have HI := Lib.hid I
      have KC := Lib.hid (fun w => cmp64_any (dig a 4) (dig b 4) w)
      have c0 := I.x.cell 4
      have d0 := I.y.cell 4
      have l0 := I.x.lt
      have l1 := I.y.lt
      simp at c0 d0
      clear I hj he hq
      by_cases hd : dig a 4 = dig b 4
      · rw [hd, cmp_self] at KC
        have HD := Lib.hid hd
        rw [hd] at c0
        clear hd hn
        generalize dig b 4 = q at *
        go_wp2_with fail
        go_quiet (first | (go_at_call 204; with_reducible exact Calls.quiet_of_same ((KC.out _).mono fun _ _ h => ⟨h.1, h.2.symm⟩)))
        go_wp2_with fail
        go_roundw
        case rel => exact ⟨1, by omega, rfl, KE.out HD.out, HI.out.drewN _⟩
        case measure => simp [intOf]
      · have hv := cmp_ne hd
        have hn := hn hd
        rw [← hn] at KC hv
        have HB := Lib.hid HI.out.b
        clear hn KE HI
        generalize hvv : cmpI a b = v at *
        have HV := Lib.hid hvv
        clear hvv
        generalize dig a 4 = p at *
        generalize dig b 4 = q at *
        clear hd
        go_wp2_with fail
        go_quiet (first | (go_at_call 204; with_reducible exact Calls.quiet_of_same ((KC.out _).mono fun _ _ h => ⟨h.1, h.2.symm⟩)))
        go_wp2_with fail
        have B0 := HB.out
        go_ret
        exact ⟨ret_i64 HV.out.symm, (by have hszz := B0.size; repeat (first | with_reducible exact B0 | with_reducible apply Below.drew | with_reducible refine below_drewN ?_ _ | (with_reducible refine Below.setCell ?_ ?_ _; rotate_left; focus (first | omega | (simp <;> omega))) | (with_reducible refine Below.alloc ?_ ?_ _; rotate_left; focus (first | omega | (simp <;> omega)))))⟩
    · obtain ⟨he, hn⟩ := cmp_at (k := 3) hq
      have KE := Lib.hid he
      have HI := Lib.hid I
      have KC := Lib.hid (fun w => cmp64_any (dig a 3) (dig b 3) w)
      have c0 := I.x.cell 3
      have d0 := I.y.cell 3
      have l0 := I.x.lt
      have l1 := I.y.lt
      simp at c0 d0
      clear I hj he hq
      by_cases hd : dig a 3 = dig b 3
      · rw [hd, cmp_self] at KC
        have HD := Lib.hid hd
        rw [hd] at c0
        clear hd hn
        generalize dig b 3 = q at *
        go_wp2_with fail
        go_quiet (first | (go_at_call 204; with_reducible exact Calls.quiet_of_same ((KC.out _).mono fun _ _ h => ⟨h.1, h.2.symm⟩)))
        go_wp2_with fail
        go_roundw
        case rel => exact ⟨2, by omega, rfl, KE.out HD.out, HI.out.drewN _⟩
        case measure => simp [intOf]
      · have hv := cmp_ne hd
        have hn := hn hd
        rw [← hn] at KC hv
        have HB := Lib.hid HI.out.b
        clear hn KE HI
        generalize hvv : cmpI a b = v at *
        have HV := Lib.hid hvv
        clear hvv
        generalize dig a 3 = p at *
        generalize dig b 3 = q at *
        clear hd
        go_wp2_with fail
        go_quiet (first | (go_at_call 204; with_reducible exact Calls.quiet_of_same ((KC.out _).mono fun _ _ h => ⟨h.1, h.2.symm⟩)))
        go_wp2_with fail
        have B0 := HB.out
        go_ret
        exact ⟨ret_i64 HV.out.symm, (by have hszz := B0.size; repeat (first | with_reducible exact B0 | with_reducible apply Below.drew | with_reducible refine below_drewN ?_ _ | (with_reducible refine Below.setCell ?_ ?_ _; rotate_left; focus (first | omega | (simp <;> omega))) | (with_reducible refine Below.alloc ?_ ?_ _; rotate_left; focus (first | omega | (simp <;> omega)))))⟩
    · obtain ⟨he, hn⟩ := cmp_at (k := 2) hq
      have KE := Lib.hid he
      have HI := Lib.hid I
      have KC := Lib.hid (fun w => cmp64_any (dig a 2) (dig b 2) w)
      have c0 := I.x.cell 2
      have d0 := I.y.cell 2
      have l0 := I.x.lt
      have l1 := I.y.lt
      simp at c0 d0
      clear I hj he hq
      by_cases hd : dig a 2 = dig b 2
      · rw [hd, cmp_self] at KC
        have HD := Lib.hid hd
        rw [hd] at c0
        clear hd hn
        generalize dig b 2 = q at *
        go_wp2_with fail
        go_quiet (first | (go_at_call 204; with_reducible exact Calls.quiet_of_same ((KC.out _).mono fun _ _ h => ⟨h.1, h.2.symm⟩)))
        go_wp2_with fail
        go_roundw
        case rel => exact ⟨3, by omega, rfl, KE.out HD.out, HI.out.drewN _⟩
        case measure => simp [intOf]
      · have hv := cmp_ne hd
        have hn := hn hd
        rw [← hn] at KC hv
        have HB := Lib.hid HI.out.b
        clear hn KE HI
        generalize hvv : cmpI a b = v at *
        have HV := Lib.hid hvv
        clear hvv
        generalize dig a 2 = p at *
        generalize dig b 2 = q at *
        clear hd
        go_wp2_with fail
        go_quiet (first | (go_at_call 204; with_reducible exact Calls.quiet_of_same ((KC.out _).mono fun _ _ h => ⟨h.1, h.2.symm⟩)))
        go_wp2_with fail
        have B0 := HB.out
        go_ret
        exact ⟨ret_i64 HV.out.symm, (by have hszz := B0.size; repeat (first | with_reducible exact B0 | with_reducible apply Below.drew | with_reducible refine below_drewN ?_ _ | (with_reducible refine Below.setCell ?_ ?_ _; rotate_left; focus (first | omega | (simp <;> omega))) | (with_reducible refine Below.alloc ?_ ?_ _; rotate_left; focus (first | omega | (simp <;> omega)))))⟩
    · obtain ⟨he, hn⟩ := cmp_at (k := 1) hq
      have KE := Lib.hid he
      have HI := Lib.hid I
      have KC := Lib.hid (fun w => cmp64_any (dig a 1) (dig b 1) w)
      have c0 := I.x.cell 1
      have d0 := I.y.cell 1
      have l0 := I.x.lt
      have l1 := I.y.lt
      simp at c0 d0
      clear I hj he hq
      by_cases hd : dig a 1 = dig b 1
      · rw [hd, cmp_self] at KC
        have HD := Lib.hid hd
        rw [hd] at c0
        clear hd hn
        generalize dig b 1 = q at *
        go_wp2_with fail
        go_quiet (first | (go_at_call 204; with_reducible exact Calls.quiet_of_same ((KC.out _).mono fun _ _ h => ⟨h.1, h.2.symm⟩)))
        go_wp2_with fail
        go_roundw
        case rel => exact ⟨4, by omega, rfl, KE.out HD.out, HI.out.drewN _⟩
        case measure => simp [intOf]
      · have hv := cmp_ne hd
        have hn := hn hd
        rw [← hn] at KC hv
        have HB := Lib.hid HI.out.b
        clear hn KE HI
        generalize hvv : cmpI a b = v at *
        have HV := Lib.hid hvv
        clear hvv
        generalize dig a 1 = p at *
        generalize dig b 1 = q at *
        clear hd
        go_wp2_with fail
        go_quiet (first | (go_at_call 204; with_reducible exact Calls.quiet_of_same ((KC.out _).mono fun _ _ h => ⟨h.1, h.2.symm⟩)))
        go_wp2_with fail
        have B0 := HB.out
        go_ret
        exact ⟨ret_i64 HV.out.symm, (by have hszz := B0.size; repeat (first | with_reducible exact B0 | with_reducible apply Below.drew | with_reducible refine below_drewN ?_ _ | (with_reducible refine Below.setCell ?_ ?_ _; rotate_left; focus (first | omega | (simp <;> omega))) | (with_reducible refine Below.alloc ?_ ?_ _; rotate_left; focus (first | omega | (simp <;> omega)))))⟩
    · obtain ⟨he, hn⟩ := cmp_at (k := 0) hq
      have KE := Lib.hid he
      have HI := Lib.hid I
      have KC := Lib.hid (fun w => cmp64_any (dig a 0) (dig b 0) w)
      have c0 := I.x.cell 0
      have d0 := I.y.cell 0
      have l0 := I.x.lt
      have l1 := I.y.lt
      simp at c0 d0
      clear I hj he hq
      by_cases hd : dig a 0 = dig b 0
      · rw [hd, cmp_self] at KC
        have HD := Lib.hid hd
        rw [hd] at c0
        clear hd hn
        generalize dig b 0 = q at *
        go_wp2_with fail
        go_quiet (first | (go_at_call 204; with_reducible exact Calls.quiet_of_same ((KC.out _).mono fun _ _ h => ⟨h.1, h.2.symm⟩)))
        go_wp2_with fail
        go_roundw
        case rel => exact ⟨5, by omega, rfl, KE.out HD.out, HI.out.drewN _⟩
        case measure => simp [intOf]
      · have hv := cmp_ne hd
        have hn := hn hd
        rw [← hn] at KC hv
        have HB := Lib.hid HI.out.b
        clear hn KE HI
        generalize hvv : cmpI a b = v at *
        have HV := Lib.hid hvv
        clear hvv
        generalize dig a 0 = p at *
        generalize dig b 0 = q at *
        clear hd
        go_wp2_with fail
        go_quiet (first | (go_at_call 204; with_reducible exact Calls.quiet_of_same ((KC.out _).mono fun _ _ h => ⟨h.1, h.2.symm⟩)))
        go_wp2_with fail
        have B0 := HB.out
        go_ret
        exact ⟨ret_i64 HV.out.symm, (by have hszz := B0.size; repeat (first | with_reducible exact B0 | with_reducible apply Below.drew | with_reducible refine below_drewN ?_ _ | (with_reducible refine Below.setCell ?_ ?_ _; rotate_left; focus (first | omega | (simp <;> omega))) | (with_reducible refine Below.alloc ?_ ?_ _; rotate_left; focus (first | omega | (simp <;> omega)))))⟩
    · have hab : a = b := hq
      have HB := Lib.hid I.b
      have HV : Hid (cmpI a b = 0) := by unfold Hid; rw [hab, cmp_self]
      clear I hq hab
      go_wp2_with fail
      have B0 := HB.out
      go_ret
      exact ⟨ret_i64 HV.out.symm, (by have hszz := B0.size; repeat (first | with_reducible exact B0 | with_reducible apply Below.drew | with_reducible refine below_drewN ?_ _ | (with_reducible refine Below.setCell ?_ ?_ _; rotate_left; focus (first | omega | (simp <;> omega))) | (with_reducible refine Below.alloc ?_ ?_ _; rotate_left; focus (first | omega | (simp <;> omega)))))⟩
/-! ### a single as a wide number -/
theorem and_23 (x : Int) (h0 : 0 ≤ x) (h1 : x < 4294967296) : bits .and .u32 x 8388607 = x % 8388608 := and_u32 23 (by omega) x h0 h1
theorem and_8 (x : Int) (h0 : 0 ≤ x) (h1 : x < 4294967296) : bits .and .u32 x 255 = x % 256 := and_u32 8 (by omega) x h0 h1
/-- the digits of a shifted number -/
theorem shift_dig (m j r : Nat) (hm : m < 16777216) (hr : r < 64) (hj : j ≤ 2) :
    (∀ i, i < 5 → dig (((m * 2 ^ (64 * j + r) : Nat) : Int)) i = if i = j then ((m * 2 ^ r : Nat) : Int) % 18446744073709551616 else if i = j + 1 then ((m / 2 ^ (64 - r) : Nat) : Int) else 0) ∧ (r ≤ 40 → m / 2 ^ (64 - r) = 0) := by
  have e1 : m / 2 ^ (64 - r) = m * 2 ^ r / 18446744073709551616 := by
    have h : (18446744073709551616 : Nat) = 2 ^ (64 - r) * 2 ^ r := by rw [← Nat.pow_add, show 64 - r + r = 64 from by omega]
    rw [h, Nat.mul_div_mul_right _ _ (Nat.two_pow_pos r)]
  have hp : 2 ^ r ≤ 2 ^ 63 := Nat.pow_le_pow_right (by omega) (by omega)
  have hb : m * 2 ^ r ≤ 16777215 * 9223372036854775808 := Nat.mul_le_mul (by omega) hp
  constructor
  · intro i hi
    rw [e1, Nat.pow_add, ← Nat.mul_assoc, Nat.mul_right_comm]
    generalize m * 2 ^ r = P at *
    rcases (show j = 0 ∨ j = 1 ∨ j = 2 by omega) with rfl | rfl | rfl <;>
    rcases (show i = 0 ∨ i = 1 ∨ i = 2 ∨ i = 3 ∨ i = 4 by omega) with rfl | rfl | rfl | rfl | rfl <;>
    simp [dig, qd] <;> omega
  · intro h40
    rw [e1]
    have hp2 : 2 ^ r ≤ 2 ^ 40 := Nat.pow_le_pow_right (by omega) h40
    have hb2 : m * 2 ^ r ≤ 16777215 * 1099511627776 := Nat.mul_le_mul (by omega) hp2
    omega
end Go.Proofs.Ytkmcinibaffpmaa
