import Derived.Test.YtimhpmccmafnpaaGreatRows
import Derived.Test.YtimhpmccmafnpaaGreatG01
import Derived.WalkKit
import Derived.ProofKit
import Derived.OpenShut
import Derived.WalkLawsBesides
import Derived.WalkSpells
import Derived.Deep.QuietTactic
import Derived.BigQuiet
import Derived.Lib.Hide
import Derived.Laws.Externs
import Derived.WalkSmall
import Derived.Deep.Draws
import Derived.Laws.BitsAllLaws
import Derived.Outline
import Derived.RegionTactic
import Derived.ChangeAlike
import Derived.BigRegion
import Derived.Deep.Cut
import Derived.Laws.StructEq


namespace Go.Proofs.YtimhpmccmafnpaaGreat
open Go.ChangeShapes Go.WideShapes Go.ChangeAt Go.RowKit

def pick3 (x y n : Int) (j : Nat) : Int := if j = 0 then x else if j = 1 then y else n
def sh1 (a : Int) : Int := bits .xor .u32 a (a / 65536)
def sh2 (a : Int) : Int := bits .xor .u32 a (a / 8192)
def hstep (h k : Int) : Int := sh1 (sh2 (sh1 (bits .xor .u32 h (k % 4294967296)) * 2246822507 % 4294967296) * 3266489909 % 4294967296)
def hashTo (h x y n : Int) : Nat → Int
  | 0 => h
  | j + 1 => hstep (hashTo h x y n j) (pick3 x y n j)

theorem hash1 (h x y n : Int) (w : World) : Calls Tryz.prog 99 #[.int .u32 h, .int .i64 x, .int .i64 y, .int .i64 n] w fun e w' => e = .returned (.int .u32 (hashTo h x y n 3)) ∧ w = w' := by
  have i0 : ∀ w, (Instr.index 145 (.agg #[.int .i64 x, .int .i64 y, .int .i64 n]) (.int .i64 0)).run Tryz.prog w = .ok (.int .i64 x) w := fun _ => by kernel_rfl
  have i1 : ∀ w, (Instr.index 145 (.agg #[.int .i64 x, .int .i64 y, .int .i64 n]) (.int .i64 1)).run Tryz.prog w = .ok (.int .i64 y) w := fun _ => by kernel_rfl
  have i2 : ∀ w, (Instr.index 145 (.agg #[.int .i64 x, .int .i64 y, .int .i64 n]) (.int .i64 2)).run Tryz.prog w = .ok (.int .i64 n) w := fun _ => by kernel_rfl
  go_enter Tryz.func99, Tryz.ntmps99
  go_wp2
  go_loop [9, 17] (fun v i => ∃ j : Nat, j ≤ 3 ∧ i = .int .i64 j ∧ v = .int .u32 (hashTo h x y n j)) (fun _ i => 3 - (intOf i).toNat)
  case atStart => exact ⟨0, by omega, rfl, rfl⟩
  case round =>
    obtain ⟨j, hj, rfl, hv, rfl⟩ := hrel
    rcases (show j = 0 ∨ j = 1 ∨ j = 2 ∨ j = 3 by omega) with rfl | rfl | rfl | rfl
    · have e : ∀ g, g = hashTo h x y n 0 → hstep g x = hashTo h x y n 1 := by rintro _ rfl; rfl
      generalize hashTo h x y n 0 = g at *
      have E := e g rfl
      clear e
      have E' := Lib.hid E; clear E
      go_wp2
      go_round
      case rel => exact ⟨1, by omega, rfl, by rw [← E'.out]; rfl⟩
      case measure => simp [intOf]
    · have e : ∀ g, g = hashTo h x y n 1 → hstep g y = hashTo h x y n 2 := by rintro _ rfl; rfl
      generalize hashTo h x y n 1 = g at *
      have E := e g rfl
      clear e
      have E' := Lib.hid E; clear E
      go_wp2
      go_round
      case rel => exact ⟨2, by omega, rfl, by rw [← E'.out]; rfl⟩
      case measure => simp [intOf]
    · have e : ∀ g, g = hashTo h x y n 2 → hstep g n = hashTo h x y n 3 := by rintro _ rfl; rfl
      generalize hashTo h x y n 2 = g at *
      have E := e g rfl
      clear e
      have E' := Lib.hid E; clear E
      go_wp2
      go_round
      case rel => exact ⟨3, by omega, rfl, by rw [← E'.out]; rfl⟩
      case measure => simp [intOf]
    · go_wp2
      go_ret
      exact ⟨rfl, rfl⟩

end Go.Proofs.YtimhpmccmafnpaaGreat

namespace Go.Proofs.YtimhpmccmafnpaaGreat
open Go.ChangeShapes Go.WideShapes Go.ChangeAt Go.RowKit
open Ieee.Format (fin unitF signedF mulF subF addF)

theorem ref_mul_ok (x y : Nat) (w : World) (hx : fin Ieee.single x) (hy : fin Ieee.single y) (hr : fin Ieee.single (mulF x y)) :
    Calls Tryz.prog 67 #[.float .f32 x, .float .f32 y] w fun e w' => e = .returned (.float .f32 (mulF x y)) ∧ w = w' := by
  obtain ⟨X, Y, Z, a, b, c, d⟩ := Ieee.Format.road_mul hx hy hr
  generalize mulF x y = r at *
  have ka := fun w => run_convert_float_float (P := Tryz.prog) w 46 107 .f32 .f64 x X (by kernel_rfl) Tryz.underlying107 a
  have kb := fun w => run_convert_float_float (P := Tryz.prog) w 46 107 .f32 .f64 y Y (by kernel_rfl) Tryz.underlying107 b
  have kc := fun w => run_float_arith (P := Tryz.prog) w .mul 107 .f64 X Y Z c
  have kd := fun w => run_convert_float_float (P := Tryz.prog) w 107 46 .f64 .f32 Z r (by kernel_rfl) Tryz.underlying46 d
  clear a b c d
  go_enter Tryz.func67, Tryz.ntmps67
  go_wp2
  go_ret
  exact ⟨rfl, rfl⟩

theorem ref_add_ok (x y : Nat) (w : World) (hx : fin Ieee.single x) (hy : fin Ieee.single y) (hr : fin Ieee.single (addF x y)) :
    Calls Tryz.prog 93 #[.float .f32 x, .float .f32 y] w fun e w' => e = .returned (.float .f32 (addF x y)) ∧ w = w' := by
  obtain ⟨X, Y, Z, a, b, c, d⟩ := Ieee.Format.road_add hx hy hr
  generalize addF x y = r at *
  have ka := fun w => run_convert_float_float (P := Tryz.prog) w 46 107 .f32 .f64 x X (by kernel_rfl) Tryz.underlying107 a
  have kb := fun w => run_convert_float_float (P := Tryz.prog) w 46 107 .f32 .f64 y Y (by kernel_rfl) Tryz.underlying107 b
  have kc := fun w => run_float_arith (P := Tryz.prog) w .add 107 .f64 X Y Z c
  have kd := fun w => run_convert_float_float (P := Tryz.prog) w 107 46 .f64 .f32 Z r (by kernel_rfl) Tryz.underlying46 d
  clear a b c d
  go_enter Tryz.func93, Tryz.ntmps93
  go_wp2
  go_ret
  exact ⟨rfl, rfl⟩

theorem unit_any (h : Int) (w : World) (h0 : 0 ≤ h) (h1 : h < 4294967296) : Calls Tryz.prog 98 #[.int .u32 h] w fun e w' => e = .returned (.float .f32 (unitF h)) ∧ w = w' := by
  obtain ⟨c1, _⟩ := Ieee.Format.unit_ok h h0 h1
  have km := fun w => run_float_arith (P := Tryz.prog) w .mul 46 .f32 (floatOfInt .f32 (h / 256)) 864026624 (unitF h) (Ieee.Format.bits_mul c1 Ieee.Format.const_m24.1)
  clear c1
  generalize unitF h = u at *
  go_enter Tryz.func98, Tryz.ntmps98
  go_wp2
  go_ret
  exact ⟨rfl, rfl⟩

theorem run_f32bits (b : Nat) (w : World) : (callFunc 139 #[.float .f32 b]).run Tryz.prog w = .ok (.value (.int .u32 b)) w := by
  rw [run_callFunc_extern Tryz.func139 (by kernel_rfl) (by kernel_rfl) (by kernel_rfl) (show _ = some Extern.MathFloatBits.float32bits by kernel_rfl)]
  rfl

theorem landed_any (w : World) : Calls Tryz.prog 4 #[] w fun e w' => e = .returned (.bool true) ∧ Grown w w' := by
  go_enter Tryz.func4, Tryz.ntmps4
  go_wp2
  go_ret
  exact ⟨rfl, by repeat (first | exact Grown.refl _ | apply Grown.drew | apply Grown.alloc)⟩
end Go.Proofs.YtimhpmccmafnpaaGreat

namespace Go.Proofs.YtimhpmccmafnpaaGreat
open Go.ChangeShapes Go.WideShapes Go.ChangeAt Go.RowKit
theorem bcell {W w1 : World} (hb : Below W.heap.size W w1) : (∀ b o, b < W.heap.size → w1.cell? ⟨b, o, none⟩ = W.cell? ⟨b, o, none⟩) ∧ (∀ b o, b < W.heap.size → w1.frozen? ⟨b, o, none⟩ = W.frozen? ⟨b, o, none⟩) :=
  ⟨fun b o h => hb.cell (p := ⟨b, o, none⟩) h, fun b o h => hb.frozen (p := ⟨b, o, none⟩) h⟩
theorem ret_i64 {a b : Int} (h : a = b) : Ending.returned (.int .i64 a) = .returned (.int .i64 b) := by rw [h]

theorem landed_bel (w : World) : Calls Tryz.prog 4 #[] w fun e w' => e = .returned (.bool true) ∧ Below w.heap.size w w' := by
  go_enter Tryz.func4, Tryz.ntmps4
  go_wp2
  go_ret
  exact ⟨rfl, (by repeat (first | with_reducible exact Below.refl _ _ | with_reducible apply Below.drew | with_reducible refine below_drewN ?_ _ | (with_reducible refine Below.setCell ?_ ?_ _; rotate_left; focus (simp <;> omega)) | (with_reducible refine Below.alloc ?_ ?_ _; rotate_left; focus (simp <;> omega))))⟩
end Go.Proofs.YtimhpmccmafnpaaGreat

namespace Go.Proofs.YtimhpmccmafnpaaGreat
open Go.ChangeShapes Go.WideShapes Go.ChangeAt Go.RowKit
open Ieee.Format (fin heightE heightsE easeF ease1 ease2 ease3 mulF subF addF)
set_option linter.unusedVariables false

/-! ### what an operation on any floats gives: some float; a draw may have been made -/
theorem finite_any (x : Nat) (w : World) : Calls Tryz.prog 37 #[.float .f32 x] w fun e w' => e = .returned (.bool (decide (fin Ieee.single x))) ∧ w = w' := by
  have ht := Ieee.Format.finite_test x
  rw [← ht]
  change Calls Tryz.prog 37 #[.float .f32 x] w fun e w' => e = .returned (.bool ((FloatKind.f32.format.order x 4286578687 == some .gt || FloatKind.f32.format.order x 4286578687 == some .eq) && (FloatKind.f32.format.order x 2139095039 == some .lt || FloatKind.f32.format.order x 2139095039 == some .eq))) ∧ w = w'
  clear ht
  rcases Bool.eq_false_or_eq_true (FloatKind.f32.format.order x 4286578687 == some .gt || FloatKind.f32.format.order x 4286578687 == some .eq) with h | h
  all_goals
    go_enter Tryz.func37, Tryz.ntmps37
    go_wp2
    go_ret
    exact ⟨by simp [h], rfl⟩
end Go.Proofs.YtimhpmccmafnpaaGreat

namespace Go.Proofs.YtimhpmccmafnpaaGreat
open Go.ChangeShapes Go.WideShapes Go.ChangeAt Go.RowKit
open Ieee.Format (fin finE htE allFin allHt all_true all_false finE_ok finE_bad htE_ok htE_far htE_bad dmag heightE heightsE easeF ease1 ease2 ease3 mulF subF addF)
set_option linter.unusedVariables false

/-- the singles 'l' lie at 'a' -/
def SRow (w : World) (a : Option Addr) (l : List Nat) : Prop :=
  (l.length ≤ 1099511627776 ∧ ∀ x ∈ l, x < 4294967296) ∧ (l = [] ∨ ∃ b o, a = some ⟨b, o, none⟩ ∧ ∀ i, i < l.length → w.cell? ⟨b, o + i, none⟩ = some (.float .f32 (l.getD i 0)))

theorem finites_any (a : Option Addr) (cap : Nat) (l : List Nat) (w : World) (hl : SRow w a l) :
    Calls Tryz.prog 40 #[.slice a l.length cap] w fun e w' => e = .returned (.int .i64 (finE l)) ∧ w = w' := by
  obtain ⟨⟨hm, hwf⟩, hl⟩ := hl
  have HWF := Lib.hid hwf
  clear hwf
  rcases hl with rfl | ⟨b, o, rfl, hc⟩
  · go_enter Tryz.func40, Tryz.ntmps40
    go_wp2
    refine wp_loop_rounds 1 ?_
    rw [rounds_succ]
    go_wp2
    go_ret
    exact ⟨rfl, rfl⟩
  · have HC := Lib.hid hc
    clear hc
    go_enter Tryz.func40, Tryz.ntmps40
    go_wp2
    go_loop [4, 7] (fun _ i => ∃ k : Nat, k ≤ l.length ∧ i = .int .i64 k ∧ ∀ j, j < k → fin Ieee.single (l.getD j 0)) (fun _ i => l.length - (intOf i).toNat)
    case atStart => exact ⟨0, by omega, rfl, by omega⟩
    case round =>
      obtain ⟨k, hk, rfl, hf⟩ := hrel
      have HF := Lib.hid hf
      clear hf
      by_cases hlt : k < l.length
      · have hcell := HC.out k hlt
        obtain ⟨x, hxe⟩ : ∃ x, x = l.getD k 0 := ⟨_, rfl⟩
        rw [← hxe] at hcell
        have HE := Lib.hid hxe
        clear hxe
        by_cases hx : fin Ieee.single x
        · have HX := Lib.hid hx
          have hxb : decide (fin Ieee.single x) = true := decide_eq_true hx
          clear hx
          go_wp2_with (go_at_call 37; refine (finite_any _ _).mono ?_; rintro e w' ⟨rfl, rfl⟩)
          go_round
          case rel => exact ⟨k + 1, by omega, by go_num, fun j hj => by by_cases c : j = k; (subst c; rw [← HE.out]; exact HX.out); exact HF.out j (by omega)⟩
          case measure => simp [intOf]; omega
        · have hxb : decide (fin Ieee.single x) = false := decide_eq_false hx
          have hfin := Lib.hid (finE_bad <| all_false (p := fun x => fin Ieee.single x) hlt (by rw [← HE.out]; exact hx))
          clear hx
          go_wp2_with (go_at_call 37; refine (finite_any _ _).mono ?_; rintro e w' ⟨rfl, rfl⟩)
          go_ret
          exact ⟨ret_i64 hfin.out.symm, rfl⟩
      · have hke : k = l.length := by omega
        have hfin := Lib.hid (finE_ok <| all_true (p := fun x => fin Ieee.single x) (l := l) (by rw [← hke]; exact HF.out))
        clear hke
        go_wp2
        go_ret
        exact ⟨ret_i64 hfin.out.symm, rfl⟩

theorem height_any (x : Nat) (w : World) : Calls Tryz.prog 38 #[.float .f32 x] w fun e w' => e = .returned (.bool (decide (x % 2147483648 ≤ 1233125376))) ∧ w = w' := by
  have ht := Ieee.Format.height_test x
  rw [← ht]
  change Calls Tryz.prog 38 #[.float .f32 x] w fun e w' => e = .returned (.bool ((FloatKind.f32.format.order x 3380609024 == some .gt || FloatKind.f32.format.order x 3380609024 == some .eq) && (FloatKind.f32.format.order x 1233125376 == some .lt || FloatKind.f32.format.order x 1233125376 == some .eq))) ∧ w = w'
  clear ht
  rcases Bool.eq_false_or_eq_true (FloatKind.f32.format.order x 3380609024 == some .gt || FloatKind.f32.format.order x 3380609024 == some .eq) with h | h
  all_goals
    go_enter Tryz.func38, Tryz.ntmps38
    go_wp2
    go_ret
    exact ⟨by simp [h], rfl⟩

theorem heights_any (a : Option Addr) (cap : Nat) (l : List Nat) (w : World) (hl : SRow w a l) :
    Calls Tryz.prog 16 #[.slice a l.length cap] w fun e w' => e = .returned (.int .i64 (htE l)) ∧ w = w' := by
  obtain ⟨⟨hm, hwf⟩, hl⟩ := hl
  have HWF := Lib.hid hwf
  clear hwf
  rcases hl with rfl | ⟨b, o, rfl, hc⟩
  · go_enter Tryz.func16, Tryz.ntmps16
    go_wp2
    refine wp_loop_rounds 1 ?_
    rw [rounds_succ]
    go_wp2
    refine wp_loop_rounds 1 ?_
    rw [rounds_succ]
    go_wp2
    go_ret
    exact ⟨rfl, rfl⟩
  · have HC := Lib.hid hc
    clear hc
    go_enter Tryz.func16, Tryz.ntmps16
    go_wp2
    go_loop [4, 9] (fun _ i => ∃ k : Nat, k ≤ l.length ∧ i = .int .i64 k ∧ ∀ j, j < k → fin Ieee.single (l.getD j 0)) (fun _ i => l.length - (intOf i).toNat)
    case atStart => exact ⟨0, by omega, rfl, by omega⟩
    case round =>
      obtain ⟨k, hk, rfl, hf⟩ := hrel
      have HF := Lib.hid hf
      clear hf
      by_cases hlt : k < l.length
      · have hcell := HC.out k hlt
        obtain ⟨x, hxe⟩ : ∃ x, x = l.getD k 0 := ⟨_, rfl⟩
        rw [← hxe] at hcell
        have HE := Lib.hid hxe
        clear hxe
        by_cases hx : fin Ieee.single x
        · have HX := Lib.hid hx
          have hxb : decide (fin Ieee.single x) = true := decide_eq_true hx
          clear hx
          go_wp2_with (go_at_call 37; refine (finite_any _ _).mono ?_; rintro e w' ⟨rfl, rfl⟩)
          go_round
          case rel => exact ⟨k + 1, by omega, by go_num, fun j hj => by by_cases c : j = k; (subst c; rw [← HE.out]; exact HX.out); exact HF.out j (by omega)⟩
          case measure => simp [intOf]; omega
        · have hxb : decide (fin Ieee.single x) = false := decide_eq_false hx
          have hfin := Lib.hid (htE_bad <| all_false (p := fun x => fin Ieee.single x) hlt (by rw [← HE.out]; exact hx))
          clear hx
          go_wp2_with (go_at_call 37; refine (finite_any _ _).mono ?_; rintro e w' ⟨rfl, rfl⟩)
          go_ret
          exact ⟨ret_i64 hfin.out.symm, rfl⟩
      · have hke : k = l.length := by omega
        have hall := Lib.hid (all_true (p := fun x => fin Ieee.single x) (l := l) (by rw [← hke]; exact HF.out))
        clear hke HF
        go_wp2
        go_loop [6, 19] (fun _ i => ∃ k : Nat, k ≤ l.length ∧ i = .int .i64 k ∧ ∀ j, j < k → (l.getD j 0) % 2147483648 ≤ 1233125376) (fun _ i => l.length - (intOf i).toNat)
        case atStart => exact ⟨0, by omega, rfl, by omega⟩
        case round =>
          clear hlt hk
          obtain ⟨k, hk, rfl, hf⟩ := hrel
          have HF := Lib.hid hf
          clear hf
          by_cases hlt : k < l.length
          · have hcell := HC.out k hlt
            obtain ⟨x, hxe⟩ : ∃ x, x = l.getD k 0 := ⟨_, rfl⟩
            rw [← hxe] at hcell
            have HE := Lib.hid hxe
            clear hxe
            by_cases hx : x % 2147483648 ≤ 1233125376
            · have HX := Lib.hid hx
              have hxb : decide (x % 2147483648 ≤ 1233125376) = true := decide_eq_true hx
              clear hx
              go_wp2_with (go_at_call 38; refine (height_any _ _).mono ?_; rintro e w' ⟨rfl, rfl⟩)
              go_round
              case rel => exact ⟨k + 1, by omega, by go_num, fun j hj => by by_cases c : j = k; (subst c; rw [← HE.out]; exact HX.out); exact HF.out j (by omega)⟩
              case measure => simp [intOf]; omega
            · have hxb : decide (x % 2147483648 ≤ 1233125376) = false := decide_eq_false hx
              have hfin := Lib.hid (htE_far hall.out <| all_false (p := fun x => x % 2147483648 ≤ 1233125376) hlt (by rw [← HE.out]; exact hx))
              clear hx
              go_wp2_with (go_at_call 38; refine (height_any _ _).mono ?_; rintro e w' ⟨rfl, rfl⟩)
              go_ret
              exact ⟨ret_i64 hfin.out.symm, rfl⟩
          · have hke : k = l.length := by omega
            have hfin := Lib.hid (htE_ok hall.out <| all_true (p := fun x => x % 2147483648 ≤ 1233125376) (l := l) (by rw [← hke]; exact HF.out))
            clear hke
            go_wp2
            go_ret
            exact ⟨ret_i64 hfin.out.symm, rfl⟩

/-! ### the reference's tests -/
theorem and_mag32 (x : Nat) (h : x < 4294967296) : bits .andNot .u32 (x : Int) 2147483648 = ((x % 2147483648 : Nat) : Int) := by
  have := u32_andNot_nat x 2147483648 h (by decide)
  rw [show ((2147483648 : Nat) : Int) = 2147483648 from rfl] at this
  rw [this]
  congr 1
  exact Nat.and_two_pow_sub_one_eq_mod x 31
theorem run_f32from (n : Nat) (w : World) : (callFunc 138 #[.int .u32 (n : Int)]).run Tryz.prog w = .ok (.value (.float .f32 n)) w := by
  rw [run_callFunc_extern Tryz.func138 (by kernel_rfl) (by kernel_rfl) (by kernel_rfl) (show _ = some Extern.MathFloatBits.float32frombits by kernel_rfl)]
  rfl
theorem refabs_any (x : Nat) (hx : x < 4294967296) (w : World) : Calls Tryz.prog 89 #[.float .f32 x] w fun e w' => e = .returned (.float .f32 (x % 2147483648)) ∧ w = w' := by
  have e := and_mag32 x hx
  have ka := fun w => run_f32bits x w
  have kb := fun w => run_f32from (x % 2147483648) w
  generalize x % 2147483648 = y at *
  go_enter Tryz.func89, Tryz.ntmps89
  go_wp2
  go_ret
  exact ⟨rfl, rfl⟩

theorem run_f64bits (b : Nat) (w : World) : (callFunc 178 #[.float .f64 b]).run Tryz.prog w = .ok (.value (.int .u64 b)) w := by
  rw [run_callFunc_extern Tryz.func178 (by kernel_rfl) (by kernel_rfl) (by kernel_rfl) (show _ = some Extern.MathFloatBits.float64bits by kernel_rfl)]
  rfl
theorem run_f64from (n : Nat) (w : World) : (callFunc 177 #[.int .u64 (n : Int)]).run Tryz.prog w = .ok (.value (.float .f64 n)) w := by
  rw [run_callFunc_extern Tryz.func177 (by kernel_rfl) (by kernel_rfl) (by kernel_rfl) (show _ = some Extern.MathFloatBits.float64frombits by kernel_rfl)]
  rfl
theorem mag64 (x : Nat) (h : x < 2 ^ 64) : bits .andNot .u64 (x : Int) 9223372036854775808 = ((dmag x : Nat) : Int) := by
  have := u64_andNot_nat x 9223372036854775808 h (by decide)
  rw [show ((9223372036854775808 : Nat) : Int) = 9223372036854775808 from rfl] at this
  rw [this]
  congr 1
  unfold dmag Ieee.Format.rung
  rw [Ieee.Format.double_sw]
  exact Nat.and_two_pow_sub_one_eq_mod x 63
set_option maxRecDepth 100000 in
theorem mathabs_any (x : Nat) (hx : x < 2 ^ 64) (w : World) : Calls Tryz.prog 137 #[.float .f64 x] w fun e w' => e = .returned (.float .f64 (dmag x)) ∧ w = w' := by
  have ka := fun w => run_f64bits x w
  have kb := fun w => run_f64from (dmag x) w
  rw [← mag64 x hx] at kb
  clear hx
  generalize dmag x = y at *
  go_enter Tryz.func137, Tryz.ntmps137
  go_wp2
  go_ret
  exact ⟨rfl, rfl⟩

theorem isinf_any (x : Nat) (hx : x < 2 ^ 64) (hn : Ieee.double.rung x ≤ Ieee.double.infRung) (w : World) : Calls Tryz.prog 88 #[.float .f64 x, .int .i64 0] w fun e w' => e = .returned (.bool (decide (Ieee.double.rung x = Ieee.double.infRung))) ∧ w = w' := by
  have ht := Ieee.Format.dinf_test x hn
  rw [← ht]
  change Calls Tryz.prog 88 #[.float .f64 x, .int .i64 0] w fun e w' => e = .returned (.bool (FloatKind.f64.format.order (dmag x) 9218868437227405311 == some .gt)) ∧ w = w'
  clear ht hn
  have km := fun w => mathabs_any x hx w
  clear hx
  go_enter Tryz.func88, Tryz.ntmps88
  go_wp2_with (go_at_call 137; refine (km _).mono ?_; rintro e w' ⟨rfl, rfl⟩)
  go_ret
  exact ⟨rfl, rfl⟩
end Go.Proofs.YtimhpmccmafnpaaGreat

namespace Go.Proofs.YtimhpmccmafnpaaGreat
open Go.ChangeShapes Go.WideShapes Go.ChangeAt Go.RowKit
open Ieee.Format (fin finE htE allFin allHt all_true all_false finE_ok finE_bad htE_ok htE_far htE_bad dmag heightE heightsE easeF ease1 ease2 ease3 mulF subF addF)
set_option linter.unusedVariables false

/-- how the reference's first test goes at a single -/
theorem finite_ways (x : Nat) : (¬ fin Ieee.single x ∧ (FloatKind.f32.format.order x x != some .eq) = true) ∨
    ((FloatKind.f32.format.order x x != some .eq) = false ∧ ∃ X, (∀ w, (convert /-T-/46 /-T-/107 (.float .f32 x)).run Tryz.prog w = .ok (.float .f64 X) w) ∧
      (∀ w, Calls Tryz.prog 88 #[.float .f64 X, .int .i64 0] w fun e w' => e = .returned (.bool (decide (¬ fin Ieee.single x))) ∧ w = w')) := by
  have t := Ieee.Format.is_nan_test x
  by_cases h : 2139095040 < x % 2147483648
  · left
    refine ⟨by rw [Ieee.Format.fin_lit]; omega, ?_⟩
    change (Ieee.single.order x x != some .eq) = true
    rw [t]; exact decide_eq_true h
  · right
    refine ⟨?_, ?_⟩
    · change (Ieee.single.order x x != some .eq) = false
      rw [t]; exact decide_eq_false h
    · obtain ⟨X, a, b, c, d⟩ := Ieee.Format.widen_any (x := x) (by omega)
      refine ⟨X, fun w => run_convert_float_float (P := Tryz.prog) w 46 107 .f32 .f64 x X (by kernel_rfl) Tryz.underlying107 a, fun w => ?_⟩
      have := isinf_any X b c w
      rw [show decide (Ieee.double.rung X = Ieee.double.infRung) = decide (¬ fin Ieee.single x) from by rw [Bool.eq_iff_iff, decide_eq_true_iff, decide_eq_true_iff]; exact d] at this
      exact this

theorem mag_gt_ht (x : Nat) (hx : fin Ieee.single x) : (FloatKind.f32.format.order (x % 2147483648) 1233125376 == some .gt) = !decide (x % 2147483648 ≤ 1233125376) := by
  change (Ieee.single.order (x % 2147483648) 1233125376 == some .gt) = _
  have hl : x % 2147483648 < 2147483648 := Nat.mod_lt _ (by decide)
  have e : x % 2147483648 = Ieee.single.word false (x % 2147483648) := rfl
  have hr : Ieee.single.rung (x % 2147483648) = x % 2147483648 := by rw [Ieee.Format.rung_lit]; omega
  have hs : Ieee.single.sgn (x % 2147483648) = false := by
    rw [Ieee.Format.sgn_lit, Nat.div_eq_of_lt hl]; rfl
  rw [Ieee.Format.fin_lit] at hx
  rw [Ieee.Format.mag_gt' Ieee.single Ieee.Format.single_bi hs (by rw [hr, Ieee.Format.single_inf]; omega) (c := 1233125376) (by decide) (by decide), hr, Bool.eq_iff_iff, show Ieee.single.rung 1233125376 = 1233125376 from by decide]
  simp

theorem refheight_any (a : Option Addr) (cap : Nat) (l : List Nat) (w : World) (hl : SRow w a l) :
    Calls Tryz.prog 49 #[.slice a l.length cap] w fun e w' => e = .returned (.int .i64 (htE l)) ∧ w = w' := by
  obtain ⟨⟨hm, hwf⟩, hl⟩ := hl
  have HWF := Lib.hid hwf
  clear hwf
  rcases hl with rfl | ⟨b, o, rfl, hc⟩
  · go_enter Tryz.func49, Tryz.ntmps49
    go_wp2
    refine wp_loop_rounds 1 ?_
    rw [rounds_succ]
    go_wp2
    refine wp_loop_rounds 1 ?_
    rw [rounds_succ]
    go_wp2
    go_ret
    exact ⟨rfl, rfl⟩
  · have HC := Lib.hid hc
    clear hc
    go_enter Tryz.func49, Tryz.ntmps49
    go_wp2
    go_loop [4, 9] (fun _ i => ∃ k : Nat, k ≤ l.length ∧ i = .int .i64 k ∧ ∀ j, j < k → fin Ieee.single (l.getD j 0)) (fun _ i => l.length - (intOf i).toNat)
    case atStart => exact ⟨0, by omega, rfl, by omega⟩
    case round =>
      obtain ⟨k, hk, rfl, hf⟩ := hrel
      have HF := Lib.hid hf
      clear hf
      by_cases hlt : k < l.length
      · have hcell := HC.out k hlt
        obtain ⟨x, hxe⟩ : ∃ x, x = l.getD k 0 := ⟨_, rfl⟩
        rw [← hxe] at hcell
        have HE := Lib.hid hxe
        clear hxe
        rcases finite_ways x with ⟨hx, hn⟩ | ⟨hn, X, hcv, hinf⟩
        · have hfin := Lib.hid (htE_bad <| all_false (p := fun x => fin Ieee.single x) hlt (by rw [← HE.out]; exact hx))
          clear hx
          go_wp2
          go_ret
          exact ⟨ret_i64 hfin.out.symm, rfl⟩
        · have HI := Lib.hid hinf
          clear hinf
          by_cases hx : fin Ieee.single x
          · have HX := Lib.hid hx
            have hxb : decide (¬ fin Ieee.single x) = false := decide_eq_false (fun h => h hx)
            rw [hxb] at HI
            clear hx hxb
            go_wp2_with (go_at_call 88; refine (HI.out _).mono ?_; rintro e w' ⟨rfl, rfl⟩)
            go_round
            case rel => exact ⟨k + 1, by omega, by go_num, fun j hj => by by_cases c : j = k; (subst c; rw [← HE.out]; exact HX.out); exact HF.out j (by omega)⟩
            case measure => simp [intOf]; omega
          · have hxb : decide (¬ fin Ieee.single x) = true := decide_eq_true hx
            have hfin := Lib.hid (htE_bad <| all_false (p := fun x => fin Ieee.single x) hlt (by rw [← HE.out]; exact hx))
            rw [hxb] at HI
            clear hx hxb
            go_wp2_with (go_at_call 88; refine (HI.out _).mono ?_; rintro e w' ⟨rfl, rfl⟩)
            go_ret
            exact ⟨ret_i64 hfin.out.symm, rfl⟩
      · have hke : k = l.length := by omega
        have hall0 := HF.out
        rw [hke] at hall0
        have hall := Lib.hid (all_true (p := fun x => fin Ieee.single x) (l := l) hall0)
        have HALL := Lib.hid hall0
        clear hke HF hall0
        go_wp2
        go_loop [6, 24] (fun _ i => ∃ k : Nat, k ≤ l.length ∧ i = .int .i64 k ∧ ∀ j, j < k → (l.getD j 0) % 2147483648 ≤ 1233125376) (fun _ i => l.length - (intOf i).toNat)
        case atStart => exact ⟨0, by omega, rfl, by omega⟩
        case round =>
          clear hlt hk
          obtain ⟨k, hk, rfl, hf⟩ := hrel
          have HF := Lib.hid hf
          clear hf
          by_cases hlt : k < l.length
          · have hcell := HC.out k hlt
            have hxw : l.getD k 0 < 4294967296 := HWF.out _ (by rw [List.getD_eq_getElem?_getD, List.getElem?_eq_getElem hlt]; exact List.getElem_mem hlt)
            have hfx := HALL.out k hlt
            obtain ⟨x, hxe⟩ : ∃ x, x = l.getD k 0 := ⟨_, rfl⟩
            rw [← hxe] at hcell hxw hfx
            have HE := Lib.hid hxe
            clear hxe
            have hg := mag_gt_ht x hfx
            have KA := Lib.hid (fun w => refabs_any x hxw w)
            clear hfx hxw
            by_cases hx : x % 2147483648 ≤ 1233125376
            · have HX : Hid ((l.getD k 0) % 2147483648 ≤ 1233125376) := by rw [← HE.out]; exact hx
              rw [show decide (x % 2147483648 ≤ 1233125376) = true from decide_eq_true hx] at hg
              clear hx
              generalize x % 2147483648 = y at *
              go_wp2_with (go_at_call 89; refine (KA.out _).mono ?_; rintro e w' ⟨rfl, rfl⟩)
              go_round
              case rel => exact ⟨k + 1, by omega, by go_num, fun j hj => by by_cases c : j = k; (subst c; exact HX.out); exact HF.out j (by omega)⟩
              case measure => simp [intOf]; omega
            · rw [show decide (x % 2147483648 ≤ 1233125376) = false from decide_eq_false hx] at hg
              have hfin := Lib.hid (htE_far hall.out <| all_false (p := fun x => x % 2147483648 ≤ 1233125376) hlt (by rw [← HE.out]; exact hx))
              clear hx
              generalize x % 2147483648 = y at *
              go_wp2_with (go_at_call 89; refine (KA.out _).mono ?_; rintro e w' ⟨rfl, rfl⟩)
              go_ret
              exact ⟨ret_i64 hfin.out.symm, rfl⟩
          · have hke : k = l.length := by omega
            have hfin := Lib.hid (htE_ok hall.out <| all_true (p := fun x => x % 2147483648 ≤ 1233125376) (l := l) (by rw [← hke]; exact HF.out))
            clear hke
            go_wp2
            go_ret
            exact ⟨ret_i64 hfin.out.symm, rfl⟩

end Go.Proofs.YtimhpmccmafnpaaGreat


namespace Go.Proofs.YtimhpmccmafnpaaGreat
open Go.ChangeShapes Go.WideShapes Go.ChangeAt Go.RowKit
def chk (X Y W H : Int) : Int :=
  if W < 1 ∨ 512 < W ∨ H < 1 ∨ 512 < H then 3 else if 65536 < W * H then 4
  else if X < -4194304 ∨ Y < -4194304 ∨ 4194304 - W < X ∨ 4194304 - H < Y then 5 else 0

theorem side_mul {W H : Int} (h1 : 1 ≤ W) (h2 : W ≤ 512) (h3 : 1 ≤ H) (h4 : H ≤ 512) : wrap64 (W * H) = W * H ∧ wrap64 (4194304 - H) = 4194304 - H := by
  have a := Int.mul_le_mul h2 h4 (by omega) (by omega)
  have b := Int.mul_le_mul h1 h3 (by omega) (by omega)
  unfold wrap64
  omega

abbrev reg (X Y W H : Int) : Value := .agg #[.int .i64 X, .int .i64 Y, .int .i64 W, .int .i64 H]

theorem check1 (X Y W H : Int) (w : World) : Calls Tryz.prog 7 #[reg X Y W H] w fun e w' => e = .returned (.int .i64 (chk X Y W H)) ∧ Below w.heap.size w w' := by
  go_enter Tryz.func7, Tryz.ntmps7
  go_wp2
  all_goals
    go_ret
    refine ⟨ret_i64 ?_, (by repeat (first | with_reducible exact Below.refl _ _ | with_reducible apply Below.drew | with_reducible refine below_drewN ?_ _ | (with_reducible refine Below.setCell ?_ ?_ _; rotate_left; focus (simp <;> omega)) | (with_reducible refine Below.alloc ?_ ?_ _; rotate_left; focus (simp <;> omega))))⟩
    have sm := @side_mul W H
    show _ = chk X Y W H
    unfold chk; revert sm; grind

theorem chk_zero {X Y W H : Int} (h : chk X Y W H = 0) : 1 ≤ W ∧ W ≤ 512 ∧ 1 ≤ H ∧ H ≤ 512 ∧ -4194304 ≤ X ∧ -4194304 ≤ Y ∧ X ≤ 4194304 - W ∧ Y ≤ 4194304 - H ∧ W * H ≤ 65536 := by
  unfold chk at h; split at h
  · omega
  · split at h
    · omega
    · split at h <;> omega

end Go.Proofs.YtimhpmccmafnpaaGreat

namespace Go.Proofs.YtimhpmccmafnpaaGreat
open Go.ChangeShapes Go.WideShapes Go.ChangeAt Go.RowKit
end Go.Proofs.YtimhpmccmafnpaaGreat

namespace Go.Proofs.YtimhpmccmafnpaaGreat
open Go.ChangeShapes Go.WideShapes Go.ChangeAt Go.RowKit
set_option linter.unusedVariables false
end Go.Proofs.YtimhpmccmafnpaaGreat

namespace Go.Proofs.YtimhpmccmafnpaaGreat
open Go.ChangeShapes Go.WideShapes Go.ChangeAt Go.RowKit
set_option linter.unusedVariables false
end Go.Proofs.YtimhpmccmafnpaaGreat

namespace Go.Proofs.YtimhpmccmafnpaaGreat
open Go.ChangeShapes Go.WideShapes Go.ChangeAt Go.RowKit
set_option linter.unusedVariables false
end Go.Proofs.YtimhpmccmafnpaaGreat
