import Derived.Test.YtfmbekdfigbfiaaNext
namespace Go.Proofs.Ytfmbekdfigbfiaa
open Go.ChangeShapes Go.WideShapes Go.ChangeAt Go.RowKit
open Ieee.Format (fin unitF signedF mulF subF addF)
set_option linter.unusedVariables false
theorem nx_bounds (s : Int) : 0 ≤ nx s ∧ nx s < 4294967296 := xor_bounds _ _

/-- a stream with state 's' in block 'b' -/
def Strm (w : World) (b : Nat) (s : Int) : Prop := w.cell? ⟨b, 0, none⟩ = some (.int .u32 s) ∧ w.frozen? ⟨b, 0, none⟩ = false ∧ 0 ≤ s ∧ s < 4294967296 ∧ b < w.heap.size

theorem prod_bounds {a n : Int} (h0 : 0 ≤ a) (h1 : a < 4294967296) (n0 : 1 ≤ n) (n1 : n ≤ 2147483647) : 0 ≤ a * n ∧ a * n ≤ 9223372034707292160 ∧ a * n / 4294967296 < n ∧ 0 ≤ a * n / 4294967296 := by
  have x := Int.mul_le_mul (show a ≤ 4294967295 by omega) n1 (by omega) (by omega)
  have y := Int.mul_nonneg h0 (show 0 ≤ n by omega)
  have z := Int.mul_le_mul_of_nonneg_right (show a ≤ 4294967295 by omega) (show 0 ≤ n by omega)
  refine ⟨y, by omega, ?_, by omega⟩
  omega

def st0 (h : Int) : Int := if h < 1 then 1 else h
theorem hash_bounds (h x y n : Int) : 0 ≤ hashTo h x y n 3 ∧ hashTo h x y n 3 < 4294967296 := xor_bounds _ _
theorem st0_bounds {h : Int} (h0 : 0 ≤ h) (h1 : h < 4294967296) : 0 ≤ st0 h ∧ st0 h < 4294967296 := by unfold st0; split <;> omega

theorem hash2_bel (h x y n : Int) (w : World) : Calls Try.prog 125 #[.int .u32 h, .int .i64 x, .int .i64 y, .int .i64 n] w fun e w' => e = .returned (.int .u32 (hashTo h x y n 3)) ∧ Below w.heap.size w w' := by
  go_enter Try.func125, Try.ntmps125
  go_wp2
  go_loop [9, 18] (fun v i => ∃ j : Nat, j ≤ 3 ∧ i = .int .i64 j ∧ v = .int .u32 (hashTo h x y n j)) (fun _ i => 3 - (intOf i).toNat)
  case atStart => exact ⟨0, by omega, rfl, rfl⟩
  case round =>
    obtain ⟨j, hj, rfl, hv, rfl⟩ := hrel
    rcases (show j = 0 ∨ j = 1 ∨ j = 2 ∨ j = 3 by omega) with rfl | rfl | rfl | rfl
    · have e : ∀ g, g = hashTo h x y n 0 → hstep g x = hashTo h x y n 1 := by rintro _ rfl; rfl
      generalize hashTo h x y n 0 = g at *
      have E := e g rfl
      clear e
      have E' := Lib.hid E; clear E
      go_wp2
      go_round
      case rel => exact ⟨1, by omega, rfl, by rw [← E'.out]; rfl⟩
      case measure => simp [intOf]
    · have e : ∀ g, g = hashTo h x y n 1 → hstep g y = hashTo h x y n 2 := by rintro _ rfl; rfl
      generalize hashTo h x y n 1 = g at *
      have E := e g rfl
      clear e
      have E' := Lib.hid E; clear E
      go_wp2
      go_round
      case rel => exact ⟨2, by omega, rfl, by rw [← E'.out]; rfl⟩
      case measure => simp [intOf]
    · have e : ∀ g, g = hashTo h x y n 2 → hstep g n = hashTo h x y n 3 := by rintro _ rfl; rfl
      generalize hashTo h x y n 2 = g at *
      have E := e g rfl
      clear e
      have E' := Lib.hid E; clear E
      go_wp2
      go_round
      case rel => exact ⟨3, by omega, rfl, by rw [← E'.out]; rfl⟩
      case measure => simp [intOf]
    · go_wp2
      go_ret
      exact ⟨rfl, (by repeat (first | with_reducible exact Below.refl _ _ | with_reducible apply Below.drew | with_reducible refine below_drewN ?_ _ | (with_reducible refine Below.setCell ?_ ?_ _; rotate_left; focus (first | omega | (simp <;> omega))) | (with_reducible refine Below.alloc ?_ ?_ _; rotate_left; focus (first | omega | (simp <;> omega)))))⟩


/-- a new stream of state 's' -/
def NewS (s : Int) (w : World) (e : Ending) (w' : World) : Prop := ∃ b, e = .returned (.pointer (some ⟨b, 0, none⟩)) ∧ Strm w' b s ∧ w.heap.size ≤ b ∧ Below w.heap.size w w'
theorem newS_mk (s : Int) (w : World) (t : TypeId) (h0 : 0 ≤ s) (h1 : s < 4294967296) : Strm (w.alloc (.cells #[.int .u32 s] t)) w.heap.size s := by
  refine ⟨by simp, ?_, h0, h1, by simp⟩
  exact World.frozen?_alloc_new w _ _ _

end Go.Proofs.Ytfmbekdfigbfiaa
