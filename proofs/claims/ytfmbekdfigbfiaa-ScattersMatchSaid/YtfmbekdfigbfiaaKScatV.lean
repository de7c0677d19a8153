import Derived.Test.YtfmbekdfigbfiaaKScatQ
import Derived.BigQuiet
namespace Go.Proofs.Ytfmbekdfigbfiaa
open Go.ChangeShapes Go.WideShapes Go.ChangeAt Go.RowKit
open Ieee.Format (fin finE htE allFin allHt all_true all_false mulF subF addF Ht Bd divF rootF floorF easeF mixF)
set_option linter.unusedVariables false

/-! ### two slices that hold the same places -/
theorem eqPt (a b a' b' : Int) (w : World) : (Op.equalIn 10000 36 (.agg #[.int .i64 a, .int .i64 b]) (.agg #[.int .i64 a', .int .i64 b'])).run Try.prog w = .ok (a == a' && b == b') w := by
  have u3 := Try.underlying3
  have a3 := Try.isAgg3
  have z3 := Try.sizeOf3
  have hS : Try.prog.underlying 36 = some (.struct (Try.prog.fieldsOf 36)) := by kernel_rfl
  have hp : Try.prog.stoodInHeld 36 = false := by kernel_rfl
  rw [show (10000 : Nat) = 9999 + 1 from rfl, run_equalIn_agg w 9999 36 _ _ hS hp]
  simp only [Program.fieldsOf, Try.underlying36]
  go_simp
  by_cases h1 : a = a' <;> by_cases h2 : b = b' <;> simp [h1, h2]
theorem guardPt : Try.prog.eqGuardType Try.prog.depth 36 = false := by kernel_rfl
theorem eqlPt (a b a' b' : Int) (w : World) : (binOp .eql 36 (.agg #[.int .i64 a, .int .i64 b]) (.agg #[.int .i64 a', .int .i64 b'])).run Try.prog w = .ok (.bool (a == a' && b == b')) w := by
  rw [run_eql_struct, eqPt]; rfl
theorem neqPt (a b a' b' : Int) (w : World) : (binOp .neq 36 (.agg #[.int .i64 a, .int .i64 b]) (.agg #[.int .i64 a', .int .i64 b'])).run Try.prog w = .ok (.bool (!(a == a' && b == b'))) w := by
  rw [run_neq_struct, eqPt]; rfl
set_option maxHeartbeats 4000000 in
/-- slices.Equal on two slices that hold the same places -/
theorem pts_equal (v v' : Value) (L : List (Int × Int)) (w : World) (hn : L.length ≤ 1000000) (h : PtsV w v L) (h' : PtsV w v' L) :
    Calls Try.prog 48 #[v, v'] w fun e w' => e = .returned (.bool true) ∧ Below w.heap.size w w' := by
  obtain ⟨p, k, rfl, _, h⟩ := h
  obtain ⟨p', k', rfl, _, h'⟩ := h'
  have hX : ∃ b b', (L ≠ [] → p = some ⟨b, 0, none⟩ ∧ p' = some ⟨b', 0, none⟩ ∧ PtsR w b L ∧ PtsR w b' L) := by
    rcases h with h | ⟨b, e, h⟩
    · exact ⟨0, 0, fun g => absurd h.1 g⟩
    · rcases h' with h' | ⟨b', e', h'⟩
      · exact ⟨0, 0, fun g => absurd h'.1 g⟩
      · exact ⟨b, b', fun _ => ⟨e, e', h, h'⟩⟩
  obtain ⟨b, b', hX⟩ := hX
  have HX := Lib.hid hX
  clear h h' hX
  go_enter Try.func48, Try.ntmps48
  go_wp2
  go_loopw [5, 13, 25] (fun _ i _ wr => ∃ j : Nat, j ≤ L.length ∧ i = .int .i64 j ∧ Below w.heap.size w wr) (fun _ i _ _ => L.length - (intOf i).toNat)
  case atStart => exact ⟨0, by omega, rfl, (by repeat (first | with_reducible exact Below.refl _ _ | with_reducible apply Below.drew | with_reducible refine below_drewN ?_ _ | (with_reducible refine Below.setCell ?_ ?_ _; rotate_left; focus (first | omega | (simp <;> omega))) | (with_reducible refine Below.alloc ?_ ?_ _; rotate_left; focus (first | omega | (simp <;> omega)))))⟩
  case round =>
    obtain ⟨j, hj, rfl, hB⟩ := hrel
    have HB := Lib.hid hB
    by_cases hlt : j < L.length
    · obtain ⟨e1, e2, ⟨hb, P1⟩, ⟨hb', P2⟩⟩ := HX.out (fun e => by rw [e] at hlt; simp at hlt)
      subst e1
      subst e2
      obtain ⟨q, hq⟩ : ∃ q : Int × Int, L[j]? = some q := ⟨_, List.getElem?_eq_getElem hlt⟩
      obtain ⟨p0, p1⟩ := P1 j q hq
      obtain ⟨q0, q1⟩ := P2 j q hq
      have c0 := (hB.cell (p := ⟨b, j * 2, none⟩) hb).trans p0
      have c1 := (hB.cell (p := ⟨b, j * 2 + 1, none⟩) hb).trans p1
      have d0 := (hB.cell (p := ⟨b', j * 2, none⟩) hb').trans q0
      have d1 := (hB.cell (p := ⟨b', j * 2 + 1, none⟩) hb').trans q1
      clear hB p0 p1 q0 q1 P1 P2 hq
      obtain ⟨r0, r1⟩ := q
      have kn := fun w => eqlPt r0 r1 r0 r1 w
      simp only at c0 c1 d0 d1
      go_wp2_with fail
      go_quiet (fail)
      go_wp2
      go_roundw
      case rel => exact ⟨j + 1, by omega, by go_num, by have h := HB.out; exact (by have hszz := h.size; repeat (first | with_reducible exact h | with_reducible apply Below.drew | with_reducible refine below_drewN ?_ _ | (with_reducible refine Below.setCell ?_ ?_ _; rotate_left; focus (first | omega | (simp <;> omega))) | (with_reducible refine Below.alloc ?_ ?_ _; rotate_left; focus (first | omega | (simp <;> omega)))))⟩
      case measure => simp [intOf]; omega
    · clear hB
      go_wp2
      go_ret
      exact ⟨rfl, by have h := HB.out; exact (by have hszz := h.size; repeat (first | with_reducible exact h | with_reducible apply Below.drew | with_reducible refine below_drewN ?_ _ | (with_reducible refine Below.setCell ?_ ?_ _; rotate_left; focus (first | omega | (simp <;> omega))) | (with_reducible refine Below.alloc ?_ ?_ _; rotate_left; focus (first | omega | (simp <;> omega)))))⟩
end Go.Proofs.Ytfmbekdfigbfiaa
