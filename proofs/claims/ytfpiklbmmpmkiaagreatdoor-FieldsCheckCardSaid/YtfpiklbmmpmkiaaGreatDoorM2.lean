import Derived.Test.YtfpiklbmmpmkiaaGreatDoorRows
import Derived.Test.YtfpiklbmmpmkiaaGreatDoorM1
import Derived.WalkKit
import Derived.ProofKit
import Derived.OpenShut
import Derived.WalkLawsBesides
import Derived.WalkSpells
import Derived.Deep.QuietTactic
import Derived.BigQuiet
import Derived.Lib.Hide
import Derived.Laws.Externs
import Derived.WalkSmall
import Derived.Deep.Draws
import Derived.Laws.BitsAllLaws
import Derived.Outline
namespace Go.Proofs.YtfpiklbmmpmkiaaGreatDoor
open Go.ChangeShapes Go.WideShapes Go.ChangeAt Go.RowKit

theorem grown_trans {A B C : World} (h : RowKit.Grown A B) (h' : RowKit.Grown B C) : RowKit.Grown A C :=
  ⟨World.keptBut_trans h.1 h'.1, fun a => (h'.2.1 a).trans (h.2.1 a), Nat.le_trans h.2.2 h'.2.2⟩

def pick3 (x y n : Int) (j : Nat) : Int := if j = 0 then x else if j = 1 then y else n
def sh1 (a : Int) : Int := bits .xor .u32 a (a / 65536)
def sh2 (a : Int) : Int := bits .xor .u32 a (a / 8192)
def hstep (h k : Int) : Int := sh1 (sh2 (sh1 (bits .xor .u32 h (k % 4294967296)) * 2246822507 % 4294967296) * 3266489909 % 4294967296)
def hashTo (h x y n : Int) : Nat → Int
  | 0 => h
  | j + 1 => hstep (hashTo h x y n j) (pick3 x y n j)

end Go.Proofs.YtfpiklbmmpmkiaaGreatDoor

namespace Go.Proofs.YtfpiklbmmpmkiaaGreatDoor
open Go.ChangeShapes Go.WideShapes Go.ChangeAt Go.RowKit
open Ieee.Format (fin unitF signedF mulF subF addF)

theorem run_f32bits (b : Nat) (w : World) : (callFunc 37 #[.float .f32 b]).run Tryz.prog w = .ok (.value (.int .u32 b)) w := by
  rw [run_callFunc_extern Tryz.func37 (by kernel_rfl) (by kernel_rfl) (by kernel_rfl) (show _ = some Extern.MathFloatBits.float32bits by kernel_rfl)]
  rfl

theorem beq_cast (a b : Nat) : ((a : Int) == (b : Int)) = decide (a = b) := by
  rw [Bool.eq_iff_iff, beq_iff_eq, decide_eq_true_iff]; omega

theorem bits_any (a b : Nat) (w : World) : Calls Tryz.prog 34 #[.float .f32 a, .float .f32 b] w fun e w' => e = .returned (.bool (decide (a = b))) ∧ w = w' := by
  have ka := fun w => run_f32bits a w
  have kb := fun w => run_f32bits b w
  go_enter Tryz.func34, Tryz.ntmps34
  go_wp2
  go_ret
  exact ⟨congrArg (fun b => Ending.returned (.bool b)) (beq_cast a b), rfl⟩

theorem landed_any (w : World) : Calls Tryz.prog 4 #[] w fun e w' => e = .returned (.bool true) ∧ Grown w w' := by
  go_enter Tryz.func4, Tryz.ntmps4
  go_wp2
  go_ret
  exact ⟨rfl, by repeat (first | exact Grown.refl _ | apply Grown.drew | apply Grown.alloc)⟩
end Go.Proofs.YtfpiklbmmpmkiaaGreatDoor

namespace Go.Proofs.YtfpiklbmmpmkiaaGreatDoor
open Go.ChangeShapes Go.WideShapes Go.ChangeAt Go.RowKit
theorem bcell {W w1 : World} (hb : Below W.heap.size W w1) : (∀ b o, b < W.heap.size → w1.cell? ⟨b, o, none⟩ = W.cell? ⟨b, o, none⟩) ∧ (∀ b o, b < W.heap.size → w1.frozen? ⟨b, o, none⟩ = W.frozen? ⟨b, o, none⟩) :=
  ⟨fun b o h => hb.cell (p := ⟨b, o, none⟩) h, fun b o h => hb.frozen (p := ⟨b, o, none⟩) h⟩
theorem ret_i64 {a b : Int} (h : a = b) : Ending.returned (.int .i64 a) = .returned (.int .i64 b) := by rw [h]

theorem ret_bool {a b : Bool} (h : a = b) : Ending.returned (.bool a) = .returned (.bool b) := by rw [h]

theorem landed_bel (w : World) : Calls Tryz.prog 4 #[] w fun e w' => e = .returned (.bool true) ∧ Below w.heap.size w w' := by
  go_enter Tryz.func4, Tryz.ntmps4
  go_wp2
  go_ret
  exact ⟨rfl, (by repeat (first | with_reducible exact Below.refl _ _ | with_reducible apply Below.drew | with_reducible refine below_drewN ?_ _ | (with_reducible refine Below.setCell ?_ ?_ _; rotate_left; focus (simp <;> omega)) | (with_reducible refine Below.alloc ?_ ?_ _; rotate_left; focus (simp <;> omega))))⟩
end Go.Proofs.YtfpiklbmmpmkiaaGreatDoor

namespace Go.Proofs.YtfpiklbmmpmkiaaGreatDoor
open Go.ChangeShapes Go.WideShapes Go.ChangeAt Go.RowKit
open Ieee.Format (fin heightE heightsE easeF ease1 ease2 ease3 mulF subF addF)
set_option linter.unusedVariables false

/-! ### what an operation on any floats gives: some float; a draw may have been made -/
theorem conv_some {P : Program} (src dst : TypeId) (s k : FloatKind) (b : Nat) (w : World) (hs : (P.underlying src).isSome = true) (hd : P.underlying dst = some (.float k)) :
    ∃ r n, (convert src dst (.float s b)).run P w = .ok (.float k r) (w.drewN n) := by
  obtain ⟨u, hs'⟩ := Option.isSome_iff_exists.1 hs
  have e : (convert src dst (.float s b)).run P w = (Conv.floatToFloat s b k).run P w := by
    cases u <;> simp [convert, run_underlying hs', run_underlying hd]
  rw [e]
  unfold Conv.floatToFloat
  split
  · exact ⟨b, 0, rfl⟩
  · split
    · exact ⟨_, 1, rfl⟩
    · exact ⟨_, 0, rfl⟩
    · dsimp only
      split
      · exact ⟨_, 1, rfl⟩
      · exact ⟨_, 0, rfl⟩
theorem arith_some {P : Program} (op : BinOp) (hop : op = .add ∨ op = .sub ∨ op = .mul ∨ op = .quo) (t : TypeId) (k : FloatKind) (x y : Nat) (w : World) :
    ∃ r n, (binOp op t (.float k x) (.float k y)).run P w = .ok (.float k r) (w.drewN n) := by
  rcases hop with rfl | rfl | rfl | rfl
  · cases hh : k.format.add x y with
    | some r => exact ⟨r, 0, by simp [binOp, Op.floatArith, hh]; rfl⟩
    | none => exact ⟨(Question.nanBits k x y).cut (w.tape w.drawn (.nanBits k x y)), 1, by simp [binOp, Op.floatArith, hh, Question.forced]; rfl⟩
  · cases hh : k.format.sub x y with
    | some r => exact ⟨r, 0, by simp [binOp, Op.floatArith, hh]; rfl⟩
    | none => exact ⟨(Question.nanBits k x y).cut (w.tape w.drawn (.nanBits k x y)), 1, by simp [binOp, Op.floatArith, hh, Question.forced]; rfl⟩
  · cases hh : k.format.mul x y with
    | some r => exact ⟨r, 0, by simp [binOp, Op.floatArith, hh]; rfl⟩
    | none => exact ⟨(Question.nanBits k x y).cut (w.tape w.drawn (.nanBits k x y)), 1, by simp [binOp, Op.floatArith, hh, Question.forced]; rfl⟩
  · cases hh : k.format.div x y with
    | some r => exact ⟨r, 0, by simp [binOp, Op.floatArith, hh]; rfl⟩
    | none => exact ⟨(Question.nanBits k x y).cut (w.tape w.drawn (.nanBits k x y)), 1, by simp [binOp, Op.floatArith, hh, Question.forced]; rfl⟩

/-- some single; nothing in memory has turned -/
def SomeF (w : World) (e : Ending) (w' : World) : Prop := ∃ r n, e = .returned (.float .f32 r) ∧ w' = w.drewN n

theorem finite_any (x : Nat) (w : World) : Calls Tryz.prog 41 #[.float .f32 x] w fun e w' => e = .returned (.bool (decide (fin Ieee.single x))) ∧ w = w' := by
  have ht := Ieee.Format.finite_test x
  rw [← ht]
  change Calls Tryz.prog 41 #[.float .f32 x] w fun e w' => e = .returned (.bool ((FloatKind.f32.format.order x 4286578687 == some .gt || FloatKind.f32.format.order x 4286578687 == some .eq) && (FloatKind.f32.format.order x 2139095039 == some .lt || FloatKind.f32.format.order x 2139095039 == some .eq))) ∧ w = w'
  clear ht
  rcases Bool.eq_false_or_eq_true (FloatKind.f32.format.order x 4286578687 == some .gt || FloatKind.f32.format.order x 4286578687 == some .eq) with h | h
  all_goals
    go_enter Tryz.func41, Tryz.ntmps41
    go_wp2
    go_ret
    exact ⟨by simp [h], rfl⟩
end Go.Proofs.YtfpiklbmmpmkiaaGreatDoor

namespace Go.Proofs.YtfpiklbmmpmkiaaGreatDoor
open Go.ChangeShapes Go.WideShapes Go.ChangeAt Go.RowKit
open Ieee.Format (fin finE htE allFin allHt all_true all_false finE_ok finE_bad htE_ok htE_far htE_bad dmag heightE heightsE easeF ease1 ease2 ease3 mulF subF addF)
set_option linter.unusedVariables false

/-- the singles 'l' lie at 'a' -/
def SRow (w : World) (a : Option Addr) (l : List Nat) : Prop :=
  (l.length ≤ 1099511627776 ∧ ∀ x ∈ l, x < 4294967296) ∧ (l = [] ∨ ∃ b o, a = some ⟨b, o, none⟩ ∧ ∀ i, i < l.length → w.cell? ⟨b, o + i, none⟩ = some (.float .f32 (l.getD i 0)))

theorem height_any (x : Nat) (w : World) : Calls Tryz.prog 42 #[.float .f32 x] w fun e w' => e = .returned (.bool (decide (x % 2147483648 ≤ 1233125376))) ∧ w = w' := by
  have ht := Ieee.Format.height_test x
  rw [← ht]
  change Calls Tryz.prog 42 #[.float .f32 x] w fun e w' => e = .returned (.bool ((FloatKind.f32.format.order x 3380609024 == some .gt || FloatKind.f32.format.order x 3380609024 == some .eq) && (FloatKind.f32.format.order x 1233125376 == some .lt || FloatKind.f32.format.order x 1233125376 == some .eq))) ∧ w = w'
  clear ht
  rcases Bool.eq_false_or_eq_true (FloatKind.f32.format.order x 3380609024 == some .gt || FloatKind.f32.format.order x 3380609024 == some .eq) with h | h
  all_goals
    go_enter Tryz.func42, Tryz.ntmps42
    go_wp2
    go_ret
    exact ⟨by simp [h], rfl⟩

theorem heights_any (a : Option Addr) (cap : Nat) (l : List Nat) (w : World) (hl : SRow w a l) :
    Calls Tryz.prog 19 #[.slice a l.length cap] w fun e w' => e = .returned (.int .i64 (htE l)) ∧ w = w' := by
  obtain ⟨⟨hm, hwf⟩, hl⟩ := hl
  have HWF := Lib.hid hwf
  clear hwf
  rcases hl with rfl | ⟨b, o, rfl, hc⟩
  · go_enter Tryz.func19, Tryz.ntmps19
    go_wp2
    refine wp_loop_rounds 1 ?_
    rw [rounds_succ]
    go_wp2
    refine wp_loop_rounds 1 ?_
    rw [rounds_succ]
    go_wp2
    go_ret
    exact ⟨rfl, rfl⟩
  · have HC := Lib.hid hc
    clear hc
    go_enter Tryz.func19, Tryz.ntmps19
    go_wp2
    go_loop [4, 9] (fun _ i => ∃ k : Nat, k ≤ l.length ∧ i = .int .i64 k ∧ ∀ j, j < k → fin Ieee.single (l.getD j 0)) (fun _ i => l.length - (intOf i).toNat)
    case atStart => exact ⟨0, by omega, rfl, by omega⟩
    case round =>
      obtain ⟨k, hk, rfl, hf⟩ := hrel
      have HF := Lib.hid hf
      clear hf
      by_cases hlt : k < l.length
      · have hcell := HC.out k hlt
        obtain ⟨x, hxe⟩ : ∃ x, x = l.getD k 0 := ⟨_, rfl⟩
        rw [← hxe] at hcell
        have HE := Lib.hid hxe
        clear hxe
        by_cases hx : fin Ieee.single x
        · have HX := Lib.hid hx
          have hxb : decide (fin Ieee.single x) = true := decide_eq_true hx
          clear hx
          go_wp2_with (go_at_call 41; refine (finite_any _ _).mono ?_; rintro e w' ⟨rfl, rfl⟩)
          go_round
          case rel => exact ⟨k + 1, by omega, by go_num, fun j hj => by by_cases c : j = k; (subst c; rw [← HE.out]; exact HX.out); exact HF.out j (by omega)⟩
          case measure => simp [intOf]; omega
        · have hxb : decide (fin Ieee.single x) = false := decide_eq_false hx
          have hfin := Lib.hid (htE_bad <| all_false (p := fun x => fin Ieee.single x) hlt (by rw [← HE.out]; exact hx))
          clear hx
          go_wp2_with (go_at_call 41; refine (finite_any _ _).mono ?_; rintro e w' ⟨rfl, rfl⟩)
          go_ret
          exact ⟨ret_i64 hfin.out.symm, rfl⟩
      · have hke : k = l.length := by omega
        have hall := Lib.hid (all_true (p := fun x => fin Ieee.single x) (l := l) (by rw [← hke]; exact HF.out))
        clear hke HF
        go_wp2
        go_loop [6, 19] (fun _ i => ∃ k : Nat, k ≤ l.length ∧ i = .int .i64 k ∧ ∀ j, j < k → (l.getD j 0) % 2147483648 ≤ 1233125376) (fun _ i => l.length - (intOf i).toNat)
        case atStart => exact ⟨0, by omega, rfl, by omega⟩
        case round =>
          clear hlt hk
          obtain ⟨k, hk, rfl, hf⟩ := hrel
          have HF := Lib.hid hf
          clear hf
          by_cases hlt : k < l.length
          · have hcell := HC.out k hlt
            obtain ⟨x, hxe⟩ : ∃ x, x = l.getD k 0 := ⟨_, rfl⟩
            rw [← hxe] at hcell
            have HE := Lib.hid hxe
            clear hxe
            by_cases hx : x % 2147483648 ≤ 1233125376
            · have HX := Lib.hid hx
              have hxb : decide (x % 2147483648 ≤ 1233125376) = true := decide_eq_true hx
              clear hx
              go_wp2_with (go_at_call 42; refine (height_any _ _).mono ?_; rintro e w' ⟨rfl, rfl⟩)
              go_round
              case rel => exact ⟨k + 1, by omega, by go_num, fun j hj => by by_cases c : j = k; (subst c; rw [← HE.out]; exact HX.out); exact HF.out j (by omega)⟩
              case measure => simp [intOf]; omega
            · have hxb : decide (x % 2147483648 ≤ 1233125376) = false := decide_eq_false hx
              have hfin := Lib.hid (htE_far hall.out <| all_false (p := fun x => x % 2147483648 ≤ 1233125376) hlt (by rw [← HE.out]; exact hx))
              clear hx
              go_wp2_with (go_at_call 42; refine (height_any _ _).mono ?_; rintro e w' ⟨rfl, rfl⟩)
              go_ret
              exact ⟨ret_i64 hfin.out.symm, rfl⟩
          · have hke : k = l.length := by omega
            have hfin := Lib.hid (htE_ok hall.out <| all_true (p := fun x => x % 2147483648 ≤ 1233125376) (l := l) (by rw [← hke]; exact HF.out))
            clear hke
            go_wp2
            go_ret
            exact ⟨ret_i64 hfin.out.symm, rfl⟩

/-! ### the reference's tests -/
theorem and_mag32 (x : Nat) (h : x < 4294967296) : bits .andNot .u32 (x : Int) 2147483648 = ((x % 2147483648 : Nat) : Int) := by
  have := u32_andNot_nat x 2147483648 h (by decide)
  rw [show ((2147483648 : Nat) : Int) = 2147483648 from rfl] at this
  rw [this]
  congr 1
  exact Nat.and_two_pow_sub_one_eq_mod x 31
theorem run_f32from (n : Nat) (w : World) : (callFunc 48 #[.int .u32 (n : Int)]).run Tryz.prog w = .ok (.value (.float .f32 n)) w := by
  rw [run_callFunc_extern Tryz.func48 (by kernel_rfl) (by kernel_rfl) (by kernel_rfl) (show _ = some Extern.MathFloatBits.float32frombits by kernel_rfl)]
  rfl
theorem refabs_any (x : Nat) (hx : x < 4294967296) (w : World) : Calls Tryz.prog 40 #[.float .f32 x] w fun e w' => e = .returned (.float .f32 (x % 2147483648)) ∧ w = w' := by
  have e := and_mag32 x hx
  have ka := fun w => run_f32bits x w
  have kb := fun w => run_f32from (x % 2147483648) w
  generalize x % 2147483648 = y at *
  go_enter Tryz.func40, Tryz.ntmps40
  go_wp2
  go_ret
  exact ⟨rfl, rfl⟩

theorem run_f64bits (b : Nat) (w : World) : (callFunc 55 #[.float .f64 b]).run Tryz.prog w = .ok (.value (.int .u64 b)) w := by
  rw [run_callFunc_extern Tryz.func55 (by kernel_rfl) (by kernel_rfl) (by kernel_rfl) (show _ = some Extern.MathFloatBits.float64bits by kernel_rfl)]
  rfl
theorem run_f64from (n : Nat) (w : World) : (callFunc 54 #[.int .u64 (n : Int)]).run Tryz.prog w = .ok (.value (.float .f64 n)) w := by
  rw [run_callFunc_extern Tryz.func54 (by kernel_rfl) (by kernel_rfl) (by kernel_rfl) (show _ = some Extern.MathFloatBits.float64frombits by kernel_rfl)]
  rfl
theorem mag64 (x : Nat) (h : x < 2 ^ 64) : bits .andNot .u64 (x : Int) 9223372036854775808 = ((dmag x : Nat) : Int) := by
  have := u64_andNot_nat x 9223372036854775808 h (by decide)
  rw [show ((9223372036854775808 : Nat) : Int) = 9223372036854775808 from rfl] at this
  rw [this]
  congr 1
  unfold dmag Ieee.Format.rung
  rw [Ieee.Format.double_sw]
  exact Nat.and_two_pow_sub_one_eq_mod x 63
set_option maxRecDepth 100000 in
theorem mathabs_any (x : Nat) (hx : x < 2 ^ 64) (w : World) : Calls Tryz.prog 47 #[.float .f64 x] w fun e w' => e = .returned (.float .f64 (dmag x)) ∧ w = w' := by
  have ka := fun w => run_f64bits x w
  have kb := fun w => run_f64from (dmag x) w
  rw [← mag64 x hx] at kb
  clear hx
  generalize dmag x = y at *
  go_enter Tryz.func47, Tryz.ntmps47
  go_wp2
  go_ret
  exact ⟨rfl, rfl⟩

theorem isinf_any (x : Nat) (hx : x < 2 ^ 64) (hn : Ieee.double.rung x ≤ Ieee.double.infRung) (w : World) : Calls Tryz.prog 39 #[.float .f64 x, .int .i64 0] w fun e w' => e = .returned (.bool (decide (Ieee.double.rung x = Ieee.double.infRung))) ∧ w = w' := by
  have ht := Ieee.Format.dinf_test x hn
  rw [← ht]
  change Calls Tryz.prog 39 #[.float .f64 x, .int .i64 0] w fun e w' => e = .returned (.bool (FloatKind.f64.format.order (dmag x) 9218868437227405311 == some .gt)) ∧ w = w'
  clear ht hn
  have km := fun w => mathabs_any x hx w
  clear hx
  go_enter Tryz.func39, Tryz.ntmps39
  go_wp2_with (go_at_call 47; refine (km _).mono ?_; rintro e w' ⟨rfl, rfl⟩)
  go_ret
  exact ⟨rfl, rfl⟩
end Go.Proofs.YtfpiklbmmpmkiaaGreatDoor

namespace Go.Proofs.YtfpiklbmmpmkiaaGreatDoor
open Go.ChangeShapes Go.WideShapes Go.ChangeAt Go.RowKit
open Ieee.Format (fin finE htE allFin allHt all_true all_false finE_ok finE_bad htE_ok htE_far htE_bad dmag heightE heightsE easeF ease1 ease2 ease3 mulF subF addF)
set_option linter.unusedVariables false

/-- how the reference's first test goes at a single -/
theorem finite_ways (x : Nat) : (¬ fin Ieee.single x ∧ (FloatKind.f32.format.order x x != some .eq) = true) ∨
    ((FloatKind.f32.format.order x x != some .eq) = false ∧ ∃ X, (∀ w, (convert /-T-/30 /-T-/64 (.float .f32 x)).run Tryz.prog w = .ok (.float .f64 X) w) ∧
      (∀ w, Calls Tryz.prog 39 #[.float .f64 X, .int .i64 0] w fun e w' => e = .returned (.bool (decide (¬ fin Ieee.single x))) ∧ w = w')) := by
  have t := Ieee.Format.is_nan_test x
  by_cases h : 2139095040 < x % 2147483648
  · left
    refine ⟨by rw [Ieee.Format.fin_lit]; omega, ?_⟩
    change (Ieee.single.order x x != some .eq) = true
    rw [t]; exact decide_eq_true h
  · right
    refine ⟨?_, ?_⟩
    · change (Ieee.single.order x x != some .eq) = false
      rw [t]; exact decide_eq_false h
    · obtain ⟨X, a, b, c, d⟩ := Ieee.Format.widen_any (x := x) (by omega)
      refine ⟨X, fun w => run_convert_float_float (P := Tryz.prog) w 30 64 .f32 .f64 x X (by kernel_rfl) Tryz.underlying64 a, fun w => ?_⟩
      have := isinf_any X b c w
      rw [show decide (Ieee.double.rung X = Ieee.double.infRung) = decide (¬ fin Ieee.single x) from by rw [Bool.eq_iff_iff, decide_eq_true_iff, decide_eq_true_iff]; exact d] at this
      exact this

theorem mag_gt_ht (x : Nat) (hx : fin Ieee.single x) : (FloatKind.f32.format.order (x % 2147483648) 1233125376 == some .gt) = !decide (x % 2147483648 ≤ 1233125376) := by
  change (Ieee.single.order (x % 2147483648) 1233125376 == some .gt) = _
  have hl : x % 2147483648 < 2147483648 := Nat.mod_lt _ (by decide)
  have e : x % 2147483648 = Ieee.single.word false (x % 2147483648) := rfl
  have hr : Ieee.single.rung (x % 2147483648) = x % 2147483648 := by rw [Ieee.Format.rung_lit]; omega
  have hs : Ieee.single.sgn (x % 2147483648) = false := by
    rw [Ieee.Format.sgn_lit, Nat.div_eq_of_lt hl]; rfl
  rw [Ieee.Format.fin_lit] at hx
  rw [Ieee.Format.mag_gt' Ieee.single Ieee.Format.single_bi hs (by rw [hr, Ieee.Format.single_inf]; omega) (c := 1233125376) (by decide) (by decide), hr, Bool.eq_iff_iff, show Ieee.single.rung 1233125376 = 1233125376 from by decide]
  simp

theorem refheight_any (a : Option Addr) (cap : Nat) (l : List Nat) (w : World) (hl : SRow w a l) :
    Calls Tryz.prog 18 #[.slice a l.length cap] w fun e w' => e = .returned (.int .i64 (htE l)) ∧ w = w' := by
  obtain ⟨⟨hm, hwf⟩, hl⟩ := hl
  have HWF := Lib.hid hwf
  clear hwf
  rcases hl with rfl | ⟨b, o, rfl, hc⟩
  · go_enter Tryz.func18, Tryz.ntmps18
    go_wp2
    refine wp_loop_rounds 1 ?_
    rw [rounds_succ]
    go_wp2
    refine wp_loop_rounds 1 ?_
    rw [rounds_succ]
    go_wp2
    go_ret
    exact ⟨rfl, rfl⟩
  · have HC := Lib.hid hc
    clear hc
    go_enter Tryz.func18, Tryz.ntmps18
    go_wp2
    go_loop [4, 9] (fun _ i => ∃ k : Nat, k ≤ l.length ∧ i = .int .i64 k ∧ ∀ j, j < k → fin Ieee.single (l.getD j 0)) (fun _ i => l.length - (intOf i).toNat)
    case atStart => exact ⟨0, by omega, rfl, by omega⟩
    case round =>
      obtain ⟨k, hk, rfl, hf⟩ := hrel
      have HF := Lib.hid hf
      clear hf
      by_cases hlt : k < l.length
      · have hcell := HC.out k hlt
        obtain ⟨x, hxe⟩ : ∃ x, x = l.getD k 0 := ⟨_, rfl⟩
        rw [← hxe] at hcell
        have HE := Lib.hid hxe
        clear hxe
        rcases finite_ways x with ⟨hx, hn⟩ | ⟨hn, X, hcv, hinf⟩
        · have hfin := Lib.hid (htE_bad <| all_false (p := fun x => fin Ieee.single x) hlt (by rw [← HE.out]; exact hx))
          clear hx
          go_wp2
          go_ret
          exact ⟨ret_i64 hfin.out.symm, rfl⟩
        · have HI := Lib.hid hinf
          clear hinf
          by_cases hx : fin Ieee.single x
          · have HX := Lib.hid hx
            have hxb : decide (¬ fin Ieee.single x) = false := decide_eq_false (fun h => h hx)
            rw [hxb] at HI
            clear hx hxb
            go_wp2_with (go_at_call 39; refine (HI.out _).mono ?_; rintro e w' ⟨rfl, rfl⟩)
            go_round
            case rel => exact ⟨k + 1, by omega, by go_num, fun j hj => by by_cases c : j = k; (subst c; rw [← HE.out]; exact HX.out); exact HF.out j (by omega)⟩
            case measure => simp [intOf]; omega
          · have hxb : decide (¬ fin Ieee.single x) = true := decide_eq_true hx
            have hfin := Lib.hid (htE_bad <| all_false (p := fun x => fin Ieee.single x) hlt (by rw [← HE.out]; exact hx))
            rw [hxb] at HI
            clear hx hxb
            go_wp2_with (go_at_call 39; refine (HI.out _).mono ?_; rintro e w' ⟨rfl, rfl⟩)
            go_ret
            exact ⟨ret_i64 hfin.out.symm, rfl⟩
      · have hke : k = l.length := by omega
        have hall0 := HF.out
        rw [hke] at hall0
        have hall := Lib.hid (all_true (p := fun x => fin Ieee.single x) (l := l) hall0)
        have HALL := Lib.hid hall0
        clear hke HF hall0
        go_wp2
        go_loop [6, 24] (fun _ i => ∃ k : Nat, k ≤ l.length ∧ i = .int .i64 k ∧ ∀ j, j < k → (l.getD j 0) % 2147483648 ≤ 1233125376) (fun _ i => l.length - (intOf i).toNat)
        case atStart => exact ⟨0, by omega, rfl, by omega⟩
        case round =>
          clear hlt hk
          obtain ⟨k, hk, rfl, hf⟩ := hrel
          have HF := Lib.hid hf
          clear hf
          by_cases hlt : k < l.length
          · have hcell := HC.out k hlt
            have hxw : l.getD k 0 < 4294967296 := HWF.out _ (by rw [List.getD_eq_getElem?_getD, List.getElem?_eq_getElem hlt]; exact List.getElem_mem hlt)
            have hfx := HALL.out k hlt
            obtain ⟨x, hxe⟩ : ∃ x, x = l.getD k 0 := ⟨_, rfl⟩
            rw [← hxe] at hcell hxw hfx
            have HE := Lib.hid hxe
            clear hxe
            have hg := mag_gt_ht x hfx
            have KA := Lib.hid (fun w => refabs_any x hxw w)
            clear hfx hxw
            by_cases hx : x % 2147483648 ≤ 1233125376
            · have HX : Hid ((l.getD k 0) % 2147483648 ≤ 1233125376) := by rw [← HE.out]; exact hx
              rw [show decide (x % 2147483648 ≤ 1233125376) = true from decide_eq_true hx] at hg
              clear hx
              generalize x % 2147483648 = y at *
              go_wp2_with (go_at_call 40; refine (KA.out _).mono ?_; rintro e w' ⟨rfl, rfl⟩)
              go_round
              case rel => exact ⟨k + 1, by omega, by go_num, fun j hj => by by_cases c : j = k; (subst c; exact HX.out); exact HF.out j (by omega)⟩
              case measure => simp [intOf]; omega
            · rw [show decide (x % 2147483648 ≤ 1233125376) = false from decide_eq_false hx] at hg
              have hfin := Lib.hid (htE_far hall.out <| all_false (p := fun x => x % 2147483648 ≤ 1233125376) hlt (by rw [← HE.out]; exact hx))
              clear hx
              generalize x % 2147483648 = y at *
              go_wp2_with (go_at_call 40; refine (KA.out _).mono ?_; rintro e w' ⟨rfl, rfl⟩)
              go_ret
              exact ⟨ret_i64 hfin.out.symm, rfl⟩
          · have hke : k = l.length := by omega
            have hfin := Lib.hid (htE_ok hall.out <| all_true (p := fun x => x % 2147483648 ≤ 1233125376) (l := l) (by rw [← hke]; exact HF.out))
            clear hke
            go_wp2
            go_ret
            exact ⟨ret_i64 hfin.out.symm, rfl⟩

def outE (l : List Nat) : Int := if htE l = 0 then 0 else 3
end Go.Proofs.YtfpiklbmmpmkiaaGreatDoor
