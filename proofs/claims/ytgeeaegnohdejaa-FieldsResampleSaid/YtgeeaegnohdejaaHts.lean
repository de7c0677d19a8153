import Derived.Test.YtgeeaegnohdejaaSome
import Derived.Test.YtgeeaegnohdejaaFloatG
import Derived.Laws.BitsAllLaws
import Derived.Outline
namespace Go.Proofs.Ytgeeaegnohdejaa
open Go.ChangeShapes Go.WideShapes Go.ChangeAt Go.RowKit
open Ieee.Format (fin finE htE allFin allHt all_true all_false finE_ok finE_bad htE_ok htE_far htE_bad dmag heightE heightsE easeF ease1 ease2 ease3 mulF subF addF)
set_option linter.unusedVariables false

/-- the singles 'l' lie at 'a' -/
def SRow (w : World) (a : Option Addr) (l : List Nat) : Prop :=
  (l.length ≤ 1099511627776 ∧ ∀ x ∈ l, x < 4294967296) ∧ (l = [] ∨ ∃ b o, a = some ⟨b, o, none⟩ ∧ ∀ i, i < l.length → w.cell? ⟨b, o + i, none⟩ = some (.float .f32 (l.getD i 0)))

theorem finites_any (a : Option Addr) (cap : Nat) (l : List Nat) (w : World) (hl : SRow w a l) :
    Calls Try.prog 147 #[.slice a l.length cap] w fun e w' => e = .returned (.int .i64 (finE l)) ∧ w = w' := by
  obtain ⟨⟨hm, hwf⟩, hl⟩ := hl
  have HWF := Lib.hid hwf
  clear hwf
  rcases hl with rfl | ⟨b, o, rfl, hc⟩
  · go_enter Try.func147, Try.ntmps147
    go_wp2
    refine wp_loop_rounds 1 ?_
    rw [rounds_succ]
    go_wp2
    go_ret
    exact ⟨rfl, rfl⟩
  · have HC := Lib.hid hc
    clear hc
    go_enter Try.func147, Try.ntmps147
    go_wp2
    go_loop [4, 7] (fun _ i => ∃ k : Nat, k ≤ l.length ∧ i = .int .i64 k ∧ ∀ j, j < k → fin Ieee.single (l.getD j 0)) (fun _ i => l.length - (intOf i).toNat)
    case atStart => exact ⟨0, by omega, rfl, by omega⟩
    case round =>
      obtain ⟨k, hk, rfl, hf⟩ := hrel
      have HF := Lib.hid hf
      clear hf
      by_cases hlt : k < l.length
      · have hcell := HC.out k hlt
        obtain ⟨x, hxe⟩ : ∃ x, x = l.getD k 0 := ⟨_, rfl⟩
        rw [← hxe] at hcell
        have HE := Lib.hid hxe
        clear hxe
        by_cases hx : fin Ieee.single x
        · have HX := Lib.hid hx
          have hxb : decide (fin Ieee.single x) = true := decide_eq_true hx
          clear hx
          go_wp2_with (go_at_call 151; refine (finite_any _ _).mono ?_; rintro e w' ⟨rfl, rfl⟩)
          go_round
          case rel => exact ⟨k + 1, by omega, by go_num, fun j hj => by by_cases c : j = k; (subst c; rw [← HE.out]; exact HX.out); exact HF.out j (by omega)⟩
          case measure => simp [intOf]; omega
        · have hxb : decide (fin Ieee.single x) = false := decide_eq_false hx
          have hfin := Lib.hid (finE_bad <| all_false (p := fun x => fin Ieee.single x) hlt (by rw [← HE.out]; exact hx))
          clear hx
          go_wp2_with (go_at_call 151; refine (finite_any _ _).mono ?_; rintro e w' ⟨rfl, rfl⟩)
          go_ret
          exact ⟨ret_i64 hfin.out.symm, rfl⟩
      · have hke : k = l.length := by omega
        have hfin := Lib.hid (finE_ok <| all_true (p := fun x => fin Ieee.single x) (l := l) (by rw [← hke]; exact HF.out))
        clear hke
        go_wp2
        go_ret
        exact ⟨ret_i64 hfin.out.symm, rfl⟩

theorem height_any (x : Nat) (w : World) : Calls Try.prog 152 #[.float .f32 x] w fun e w' => e = .returned (.bool (decide (x % 2147483648 ≤ 1233125376))) ∧ w = w' := by
  have ht := Ieee.Format.height_test x
  rw [← ht]
  change Calls Try.prog 152 #[.float .f32 x] w fun e w' => e = .returned (.bool ((FloatKind.f32.format.order x 3380609024 == some .gt || FloatKind.f32.format.order x 3380609024 == some .eq) && (FloatKind.f32.format.order x 1233125376 == some .lt || FloatKind.f32.format.order x 1233125376 == some .eq))) ∧ w = w'
  clear ht
  rcases Bool.eq_false_or_eq_true (FloatKind.f32.format.order x 3380609024 == some .gt || FloatKind.f32.format.order x 3380609024 == some .eq) with h | h
  all_goals
    go_enter Try.func152, Try.ntmps152
    go_wp2
    go_ret
    exact ⟨by simp [h], rfl⟩

theorem heights_any (a : Option Addr) (cap : Nat) (l : List Nat) (w : World) (hl : SRow w a l) :
    Calls Try.prog 90 #[.slice a l.length cap] w fun e w' => e = .returned (.int .i64 (htE l)) ∧ w = w' := by
  obtain ⟨⟨hm, hwf⟩, hl⟩ := hl
  have HWF := Lib.hid hwf
  clear hwf
  rcases hl with rfl | ⟨b, o, rfl, hc⟩
  · go_enter Try.func90, Try.ntmps90
    go_wp2
    refine wp_loop_rounds 1 ?_
    rw [rounds_succ]
    go_wp2
    refine wp_loop_rounds 1 ?_
    rw [rounds_succ]
    go_wp2
    go_ret
    exact ⟨rfl, rfl⟩
  · have HC := Lib.hid hc
    clear hc
    go_enter Try.func90, Try.ntmps90
    go_wp2
    go_loop [4, 9] (fun _ i => ∃ k : Nat, k ≤ l.length ∧ i = .int .i64 k ∧ ∀ j, j < k → fin Ieee.single (l.getD j 0)) (fun _ i => l.length - (intOf i).toNat)
    case atStart => exact ⟨0, by omega, rfl, by omega⟩
    case round =>
      obtain ⟨k, hk, rfl, hf⟩ := hrel
      have HF := Lib.hid hf
      clear hf
      by_cases hlt : k < l.length
      · have hcell := HC.out k hlt
        obtain ⟨x, hxe⟩ : ∃ x, x = l.getD k 0 := ⟨_, rfl⟩
        rw [← hxe] at hcell
        have HE := Lib.hid hxe
        clear hxe
        by_cases hx : fin Ieee.single x
        · have HX := Lib.hid hx
          have hxb : decide (fin Ieee.single x) = true := decide_eq_true hx
          clear hx
          go_wp2_with (go_at_call 151; refine (finite_any _ _).mono ?_; rintro e w' ⟨rfl, rfl⟩)
          go_round
          case rel => exact ⟨k + 1, by omega, by go_num, fun j hj => by by_cases c : j = k; (subst c; rw [← HE.out]; exact HX.out); exact HF.out j (by omega)⟩
          case measure => simp [intOf]; omega
        · have hxb : decide (fin Ieee.single x) = false := decide_eq_false hx
          have hfin := Lib.hid (htE_bad <| all_false (p := fun x => fin Ieee.single x) hlt (by rw [← HE.out]; exact hx))
          clear hx
          go_wp2_with (go_at_call 151; refine (finite_any _ _).mono ?_; rintro e w' ⟨rfl, rfl⟩)
          go_ret
          exact ⟨ret_i64 hfin.out.symm, rfl⟩
      · have hke : k = l.length := by omega
        have hall := Lib.hid (all_true (p := fun x => fin Ieee.single x) (l := l) (by rw [← hke]; exact HF.out))
        clear hke HF
        go_wp2
        go_loop [6, 19] (fun _ i => ∃ k : Nat, k ≤ l.length ∧ i = .int .i64 k ∧ ∀ j, j < k → (l.getD j 0) % 2147483648 ≤ 1233125376) (fun _ i => l.length - (intOf i).toNat)
        case atStart => exact ⟨0, by omega, rfl, by omega⟩
        case round =>
          clear hlt hk
          obtain ⟨k, hk, rfl, hf⟩ := hrel
          have HF := Lib.hid hf
          clear hf
          by_cases hlt : k < l.length
          · have hcell := HC.out k hlt
            obtain ⟨x, hxe⟩ : ∃ x, x = l.getD k 0 := ⟨_, rfl⟩
            rw [← hxe] at hcell
            have HE := Lib.hid hxe
            clear hxe
            by_cases hx : x % 2147483648 ≤ 1233125376
            · have HX := Lib.hid hx
              have hxb : decide (x % 2147483648 ≤ 1233125376) = true := decide_eq_true hx
              clear hx
              go_wp2_with (go_at_call 152; refine (height_any _ _).mono ?_; rintro e w' ⟨rfl, rfl⟩)
              go_round
              case rel => exact ⟨k + 1, by omega, by go_num, fun j hj => by by_cases c : j = k; (subst c; rw [← HE.out]; exact HX.out); exact HF.out j (by omega)⟩
              case measure => simp [intOf]; omega
            · have hxb : decide (x % 2147483648 ≤ 1233125376) = false := decide_eq_false hx
              have hfin := Lib.hid (htE_far hall.out <| all_false (p := fun x => x % 2147483648 ≤ 1233125376) hlt (by rw [← HE.out]; exact hx))
              clear hx
              go_wp2_with (go_at_call 152; refine (height_any _ _).mono ?_; rintro e w' ⟨rfl, rfl⟩)
              go_ret
              exact ⟨ret_i64 hfin.out.symm, rfl⟩
          · have hke : k = l.length := by omega
            have hfin := Lib.hid (htE_ok hall.out <| all_true (p := fun x => x % 2147483648 ≤ 1233125376) (l := l) (by rw [← hke]; exact HF.out))
            clear hke
            go_wp2
            go_ret
            exact ⟨ret_i64 hfin.out.symm, rfl⟩

/-! ### the reference's tests -/
theorem and_mag32 (x : Nat) (h : x < 4294967296) : bits .andNot .u32 (x : Int) 2147483648 = ((x % 2147483648 : Nat) : Int) := by
  have := u32_andNot_nat x 2147483648 h (by decide)
  rw [show ((2147483648 : Nat) : Int) = 2147483648 from rfl] at this
  rw [this]
  congr 1
  exact Nat.and_two_pow_sub_one_eq_mod x 31
theorem run_f32from (n : Nat) (w : World) : (callFunc 149 #[.int .u32 (n : Int)]).run Try.prog w = .ok (.value (.float .f32 n)) w := by
  rw [run_callFunc_extern Try.func149 (by kernel_rfl) (by kernel_rfl) (by kernel_rfl) (show _ = some Extern.MathFloatBits.float32frombits by kernel_rfl)]
  rfl
theorem refabs_any (x : Nat) (hx : x < 4294967296) (w : World) : Calls Try.prog 85 #[.float .f32 x] w fun e w' => e = .returned (.float .f32 (x % 2147483648)) ∧ w = w' := by
  have e := and_mag32 x hx
  have ka := fun w => run_f32bits x w
  have kb := fun w => run_f32from (x % 2147483648) w
  generalize x % 2147483648 = y at *
  go_enter Try.func85, Try.ntmps85
  go_wp2
  go_ret
  exact ⟨rfl, rfl⟩

theorem run_f64bits (b : Nat) (w : World) : (callFunc 177 #[.float .f64 b]).run Try.prog w = .ok (.value (.int .u64 b)) w := by
  rw [run_callFunc_extern Try.func177 (by kernel_rfl) (by kernel_rfl) (by kernel_rfl) (show _ = some Extern.MathFloatBits.float64bits by kernel_rfl)]
  rfl
theorem run_f64from (n : Nat) (w : World) : (callFunc 176 #[.int .u64 (n : Int)]).run Try.prog w = .ok (.value (.float .f64 n)) w := by
  rw [run_callFunc_extern Try.func176 (by kernel_rfl) (by kernel_rfl) (by kernel_rfl) (show _ = some Extern.MathFloatBits.float64frombits by kernel_rfl)]
  rfl
theorem mag64 (x : Nat) (h : x < 2 ^ 64) : bits .andNot .u64 (x : Int) 9223372036854775808 = ((dmag x : Nat) : Int) := by
  have := u64_andNot_nat x 9223372036854775808 h (by decide)
  rw [show ((9223372036854775808 : Nat) : Int) = 9223372036854775808 from rfl] at this
  rw [this]
  congr 1
  unfold dmag Ieee.Format.rung
  rw [Ieee.Format.double_sw]
  exact Nat.and_two_pow_sub_one_eq_mod x 63
set_option maxRecDepth 100000 in
theorem mathabs_any (x : Nat) (hx : x < 2 ^ 64) (w : World) : Calls Try.prog 148 #[.float .f64 x] w fun e w' => e = .returned (.float .f64 (dmag x)) ∧ w = w' := by
  have ka := fun w => run_f64bits x w
  have kb := fun w => run_f64from (dmag x) w
  rw [← mag64 x hx] at kb
  clear hx
  generalize dmag x = y at *
  go_enter Try.func148, Try.ntmps148
  go_wp2
  go_ret
  exact ⟨rfl, rfl⟩

theorem isinf_any (x : Nat) (hx : x < 2 ^ 64) (hn : Ieee.double.rung x ≤ Ieee.double.infRung) (w : World) : Calls Try.prog 84 #[.float .f64 x, .int .i64 0] w fun e w' => e = .returned (.bool (decide (Ieee.double.rung x = Ieee.double.infRung))) ∧ w = w' := by
  have ht := Ieee.Format.dinf_test x hn
  rw [← ht]
  change Calls Try.prog 84 #[.float .f64 x, .int .i64 0] w fun e w' => e = .returned (.bool (FloatKind.f64.format.order (dmag x) 9218868437227405311 == some .gt)) ∧ w = w'
  clear ht hn
  have km := fun w => mathabs_any x hx w
  clear hx
  go_enter Try.func84, Try.ntmps84
  go_wp2_with (go_at_call 148; refine (km _).mono ?_; rintro e w' ⟨rfl, rfl⟩)
  go_ret
  exact ⟨rfl, rfl⟩
end Go.Proofs.Ytgeeaegnohdejaa
