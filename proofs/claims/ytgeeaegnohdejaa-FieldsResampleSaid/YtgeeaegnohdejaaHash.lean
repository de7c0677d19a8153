import Derived.Test.YtgeeaegnohdejaaRows
import Derived.Test.YtgeeaegnohdejaaFloatD
import Derived.WalkKit
import Derived.ProofKit
import Derived.OpenShut
import Derived.WalkLawsBesides
import Derived.WalkSpells
import Derived.Deep.QuietTactic
import Derived.BigQuiet
import Derived.Lib.Hide
namespace Go.Proofs.Ytgeeaegnohdejaa
open Go.ChangeShapes Go.WideShapes Go.ChangeAt Go.RowKit

theorem grown_trans {A B C : World} (h : RowKit.Grown A B) (h' : RowKit.Grown B C) : RowKit.Grown A C :=
  ⟨World.keptBut_trans h.1 h'.1, fun a => (h'.2.1 a).trans (h.2.1 a), Nat.le_trans h.2.2 h'.2.2⟩

def pick3 (x y n : Int) (j : Nat) : Int := if j = 0 then x else if j = 1 then y else n
def sh1 (a : Int) : Int := bits .xor .u32 a (a / 65536)
def sh2 (a : Int) : Int := bits .xor .u32 a (a / 8192)
def hstep (h k : Int) : Int := sh1 (sh2 (sh1 (bits .xor .u32 h (k % 4294967296)) * 2246822507 % 4294967296) * 3266489909 % 4294967296)
def hashTo (h x y n : Int) : Nat → Int
  | 0 => h
  | j + 1 => hstep (hashTo h x y n j) (pick3 x y n j)

theorem hash1 (h x y n : Int) (w : World) : Calls Try.prog 18 #[.int .u32 h, .int .i64 x, .int .i64 y, .int .i64 n] w fun e w' => e = .returned (.int .u32 (hashTo h x y n 3)) ∧ w = w' := by
  have i0 : ∀ w, (Instr.index 93 (.agg #[.int .i64 x, .int .i64 y, .int .i64 n]) (.int .i64 0)).run Try.prog w = .ok (.int .i64 x) w := fun _ => by kernel_rfl
  have i1 : ∀ w, (Instr.index 93 (.agg #[.int .i64 x, .int .i64 y, .int .i64 n]) (.int .i64 1)).run Try.prog w = .ok (.int .i64 y) w := fun _ => by kernel_rfl
  have i2 : ∀ w, (Instr.index 93 (.agg #[.int .i64 x, .int .i64 y, .int .i64 n]) (.int .i64 2)).run Try.prog w = .ok (.int .i64 n) w := fun _ => by kernel_rfl
  go_enter Try.func18, Try.ntmps18
  go_wp2
  go_loop [9, 17] (fun v i => ∃ j : Nat, j ≤ 3 ∧ i = .int .i64 j ∧ v = .int .u32 (hashTo h x y n j)) (fun _ i => 3 - (intOf i).toNat)
  case atStart => exact ⟨0, by omega, rfl, rfl⟩
  case round =>
    obtain ⟨j, hj, rfl, hv, rfl⟩ := hrel
    rcases (show j = 0 ∨ j = 1 ∨ j = 2 ∨ j = 3 by omega) with rfl | rfl | rfl | rfl
    · have e : ∀ g, g = hashTo h x y n 0 → hstep g x = hashTo h x y n 1 := by rintro _ rfl; rfl
      generalize hashTo h x y n 0 = g at *
      have E := e g rfl
      clear e
      have E' := Lib.hid E; clear E
      go_wp2
      go_round
      case rel => exact ⟨1, by omega, rfl, by rw [← E'.out]; rfl⟩
      case measure => simp [intOf]
    · have e : ∀ g, g = hashTo h x y n 1 → hstep g y = hashTo h x y n 2 := by rintro _ rfl; rfl
      generalize hashTo h x y n 1 = g at *
      have E := e g rfl
      clear e
      have E' := Lib.hid E; clear E
      go_wp2
      go_round
      case rel => exact ⟨2, by omega, rfl, by rw [← E'.out]; rfl⟩
      case measure => simp [intOf]
    · have e : ∀ g, g = hashTo h x y n 2 → hstep g n = hashTo h x y n 3 := by rintro _ rfl; rfl
      generalize hashTo h x y n 2 = g at *
      have E := e g rfl
      clear e
      have E' := Lib.hid E; clear E
      go_wp2
      go_round
      case rel => exact ⟨3, by omega, rfl, by rw [← E'.out]; rfl⟩
      case measure => simp [intOf]
    · go_wp2
      go_ret
      exact ⟨rfl, rfl⟩

theorem hash2 (h x y n : Int) (w : World) : Calls Try.prog 19 #[.int .u32 h, .int .i64 x, .int .i64 y, .int .i64 n] w fun e w' => e = .returned (.int .u32 (hashTo h x y n 3)) ∧ Grown w w' := by
  go_enter Try.func19, Try.ntmps19
  go_wp2
  go_loop [9, 18] (fun v i => ∃ j : Nat, j ≤ 3 ∧ i = .int .i64 j ∧ v = .int .u32 (hashTo h x y n j)) (fun _ i => 3 - (intOf i).toNat)
  case atStart => exact ⟨0, by omega, rfl, rfl⟩
  case round =>
    obtain ⟨j, hj, rfl, hv, rfl⟩ := hrel
    rcases (show j = 0 ∨ j = 1 ∨ j = 2 ∨ j = 3 by omega) with rfl | rfl | rfl | rfl
    · have e : ∀ g, g = hashTo h x y n 0 → hstep g x = hashTo h x y n 1 := by rintro _ rfl; rfl
      generalize hashTo h x y n 0 = g at *
      have E := e g rfl
      clear e
      have E' := Lib.hid E; clear E
      go_wp2
      go_round
      case rel => exact ⟨1, by omega, rfl, by rw [← E'.out]; rfl⟩
      case measure => simp [intOf]
    · have e : ∀ g, g = hashTo h x y n 1 → hstep g y = hashTo h x y n 2 := by rintro _ rfl; rfl
      generalize hashTo h x y n 1 = g at *
      have E := e g rfl
      clear e
      have E' := Lib.hid E; clear E
      go_wp2
      go_round
      case rel => exact ⟨2, by omega, rfl, by rw [← E'.out]; rfl⟩
      case measure => simp [intOf]
    · have e : ∀ g, g = hashTo h x y n 2 → hstep g n = hashTo h x y n 3 := by rintro _ rfl; rfl
      generalize hashTo h x y n 2 = g at *
      have E := e g rfl
      clear e
      have E' := Lib.hid E; clear E
      go_wp2
      go_round
      case rel => exact ⟨3, by omega, rfl, by rw [← E'.out]; rfl⟩
      case measure => simp [intOf]
    · go_wp2
      go_ret
      exact ⟨rfl, by repeat (first | exact Grown.refl _ | apply Grown.drew | apply Grown.alloc)⟩

end Go.Proofs.Ytgeeaegnohdejaa
