import Derived.Test.YtkmcinibaffpmaaWideF
import Derived.Test.YtkmcinibaffpmaaThermFn
import Derived.StillTailTactics
import Derived.StillTactics
import Derived.Laws.Externs
import Derived.BigQuiet
import Derived.RegionTactic
import Derived.ChangeAlike
namespace Go.Proofs.Ytkmcinibaffpmaa
open Go.ChangeShapes Go.WideShapes Go.ChangeAt Go.RowKit
open Ieee.Format (fin finE htE allFin allHt all_true all_false mulF subF addF Ht Bd divF rootF floorF easeF mixF)
set_option linter.unusedVariables false
open Wide

def wideC (z : Int) : Array Value := #[.int .u64 (dig z 0), .int .u64 (dig z 1), .int .u64 (dig z 2), .int .u64 (dig z 3), .int .u64 (dig z 4)]
def wideV (z : Int) : Value := .agg #[.int .u64 (dig z 0), .int .u64 (dig z 1), .int .u64 (dig z 2), .int .u64 (dig z 3), .int .u64 (dig z 4)]
theorem run_add (x y c : Int) (hx : 0 ≤ x) (hy : 0 ≤ y) (hc0 : 0 ≤ c) (hc : c ≤ 1) (w : World) :
    (callFunc 202 #[.int .u64 x, .int .u64 y, .int .u64 c]).run Try.prog w = .ok (.value (.tuple #[.int .u64 ((x + y + c) % 18446744073709551616), .int .u64 ((x + y + c) / 18446744073709551616)])) w := by
  rw [run_callFunc_extern Try.func202 (by kernel_rfl) (by kernel_rfl) (by kernel_rfl) (show _ = some add64Entry by kernel_rfl), run_add64 x y c hx hy hc0 hc]
  rfl
theorem run_carry (a b : Int) (j : Nat) (w : World) :
    (callFunc 202 #[.int .u64 (dig a j), .int .u64 (dig b j), .int .u64 (car a b j)]).run Try.prog w = .ok (.value (.tuple #[.int .u64 (dig (a + b) j), .int .u64 (car a b (j + 1))])) w := by
  obtain ⟨_, h1, h2⟩ := qd_add a b j
  rw [run_add _ _ _ (dig_bd a j).1 (dig_bd b j).1 h1 h2, dig_add, car]
/-- one digit stored -/
theorem Blk.set {w : World} {k i : Nat} {cs : Array Value} {t : TypeId} (h : Blk w k cs t) (v : Value) : Blk (w.setCell ⟨k, i, none⟩ v) k (cs.setIfInBounds i v) t := by
  unfold Blk at *; exact heap_setCell_same w k i _ _ _ h
structure PlusAt (w wr : World) (x y : Array Value) : Prop where
  x : Blk wr w.heap.size x 144
  y : Blk wr (w.heap.size + 1) y 144
  z : Blk wr (w.heap.size + 1 + 1) #[.int .u64 0, .int .u64 0, .int .u64 0, .int .u64 0, .int .u64 0] 144
  b : Below w.heap.size w wr
theorem PlusAt.set {w wr : World} {x y : Array Value} (h : PlusAt w wr x y) (i : Nat) (v : Value) : PlusAt w (wr.setCell ⟨w.heap.size, i, none⟩ v) (x.setIfInBounds i v) y :=
  ⟨h.x.set v, h.y.setCell (by simp) _, h.z.setCell (by simp; omega) _, h.b.setCell (by simp) _⟩
theorem PlusAt.drew {w wr : World} {x y : Array Value} (h : PlusAt w wr x y) : PlusAt w wr.drew x y := ⟨h.x.drew, h.y.drew, h.z.drew, h.b.drew⟩
set_option maxRecDepth 100000 in
set_option maxHeartbeats 2000000 in
theorem plus_any (a b : Int) (w : World) : Calls Try.prog 102 #[wideV a, wideV b] w fun e w' => e = .returned (wideV (a + b)) ∧ Below w.heap.size w w' := by
  have KA := Lib.hid (fun j w => run_carry a b j w)
  have h0 : car a b 0 = 0 := rfl
  have P0 : PlusAt w (((w.alloc (.cells (wideC a) 144)).alloc (.cells (wideC b) 144)).alloc (.cells #[.int .u64 0, .int .u64 0, .int .u64 0, .int .u64 0, .int .u64 0] 144)) (wideC a) (wideC b) := by
    refine ⟨((Blk.new _ _ _).alloc _).alloc _, ?_, ?_, (by repeat (first | with_reducible exact Below.refl _ _ | with_reducible apply Below.drew | with_reducible refine below_drewN ?_ _ | (with_reducible refine Below.setCell ?_ ?_ _; rotate_left; focus (first | omega | (simp <;> omega))) | (with_reducible refine Below.alloc ?_ ?_ _; rotate_left; focus (first | omega | (simp <;> omega)))))⟩
    · have := Blk.new (w.alloc (.cells (wideC a) 144)) (wideC b) 144
      simp only [World.size_alloc] at this
      exact this.alloc _
    · have := Blk.new ((w.alloc (.cells (wideC a) 144)).alloc (.cells (wideC b) 144)) #[.int .u64 0, .int .u64 0, .int .u64 0, .int .u64 0, .int .u64 0] 144
      simpa using this
  unfold wideC at P0
  unfold wideV
  have HP := Lib.hid P0
  have H0 := Lib.hid h0
  clear P0 h0
  generalize dig (a + b) = s at *
  generalize dig a = p at *
  generalize dig b = q at *
  generalize car a b = c at *
  go_enter Try.func102, Try.ntmps102
  go_wp2_with fail
  generalize ((w.alloc (.cells #[.int .u64 (p 0), .int .u64 (p 1), .int .u64 (p 2), .int .u64 (p 3), .int .u64 (p 4)] 144)).alloc (.cells #[.int .u64 (q 0), .int .u64 (q 1), .int .u64 (q 2), .int .u64 (q 3), .int .u64 (q 4)] 144)).alloc (.cells #[.int .u64 0, .int .u64 0, .int .u64 0, .int .u64 0, .int .u64 0] 144) = W0 at *
  go_loopw [5, 6, 7, 10] (fun cv _ i _ wr => ∃ j : Nat, j ≤ 5 ∧ i = .int .i64 j ∧ cv = .int .u64 (c j) ∧ PlusAt w wr #[.int .u64 (if 0 < j then s 0 else p 0), .int .u64 (if 1 < j then s 1 else p 1), .int .u64 (if 2 < j then s 2 else p 2), .int .u64 (if 3 < j then s 3 else p 3), .int .u64 (if 4 < j then s 4 else p 4)] #[.int .u64 (q 0), .int .u64 (q 1), .int .u64 (q 2), .int .u64 (q 3), .int .u64 (q 4)]) (fun _ _ i _ _ => 5 - (intOf i).toNat)
  case atStart => exact ⟨0, by omega, rfl, by rw [H0.out], by simpa using HP.out⟩
  case round =>
    clear HP
    obtain ⟨j, hj, rfl, rfl, I⟩ := hrel
    rcases (show j = 0 ∨ j = 1 ∨ j = 2 ∨ j = 3 ∨ j = 4 ∨ j = 5 by omega) with rfl | rfl | rfl | rfl | rfl | rfl
    · have k1 := KA.out 0
      simp at I
      have HI := Lib.hid I
      have c0 := I.x.cell 0
      have d0 := I.y.cell 0
      have l0 := I.x.lt
      have l1 := I.y.lt
      have f0 := I.x.frozen 0
      simp at c0 d0
      clear I hj
      go_wp2_with fail
      go_region
      go_wp2_with fail
      go_roundw
      case rel => exact ⟨1, by omega, rfl, rfl, by simpa using (HI.out.set 0 (.int .u64 (s 0))).drew⟩
      case measure => simp [intOf]
    · have k1 := KA.out 1
      simp at I
      have HI := Lib.hid I
      have c0 := I.x.cell 1
      have d0 := I.y.cell 1
      have l0 := I.x.lt
      have l1 := I.y.lt
      have f0 := I.x.frozen 1
      simp at c0 d0
      clear I hj
      go_wp2_with fail
      go_region
      go_wp2_with fail
      go_roundw
      case rel => exact ⟨2, by omega, rfl, rfl, by simpa using (HI.out.set 1 (.int .u64 (s 1))).drew⟩
      case measure => simp [intOf]
    · have k1 := KA.out 2
      simp at I
      have HI := Lib.hid I
      have c0 := I.x.cell 2
      have d0 := I.y.cell 2
      have l0 := I.x.lt
      have l1 := I.y.lt
      have f0 := I.x.frozen 2
      simp at c0 d0
      clear I hj
      go_wp2_with fail
      go_region
      go_wp2_with fail
      go_roundw
      case rel => exact ⟨3, by omega, rfl, rfl, by simpa using (HI.out.set 2 (.int .u64 (s 2))).drew⟩
      case measure => simp [intOf]
    · have k1 := KA.out 3
      simp at I
      have HI := Lib.hid I
      have c0 := I.x.cell 3
      have d0 := I.y.cell 3
      have l0 := I.x.lt
      have l1 := I.y.lt
      have f0 := I.x.frozen 3
      simp at c0 d0
      clear I hj
      go_wp2_with fail
      go_region
      go_wp2_with fail
      go_roundw
      case rel => exact ⟨4, by omega, rfl, rfl, by simpa using (HI.out.set 3 (.int .u64 (s 3))).drew⟩
      case measure => simp [intOf]
    · have k1 := KA.out 4
      simp at I
      have HI := Lib.hid I
      have c0 := I.x.cell 4
      have d0 := I.y.cell 4
      have l0 := I.x.lt
      have l1 := I.y.lt
      have f0 := I.x.frozen 4
      simp at c0 d0
      clear I hj
      go_wp2_with fail
      go_region
      go_wp2_with fail
      go_roundw
      case rel => exact ⟨5, by omega, rfl, rfl, by simpa using (HI.out.set 4 (.int .u64 (s 4))).drew⟩
      case measure => simp [intOf]
    · simp at I
      have c0 := I.x.cell 0
      have c1 := I.x.cell 1
      have c2 := I.x.cell 2
      have c3 := I.x.cell 3
      have c4 := I.x.cell 4
      simp at c0 c1 c2 c3 c4
      have l0 := I.x.lt
      have l1 := I.z.lt
      have f0 := I.z.frozen 0
      have f1 := I.z.frozen 1
      have f2 := I.z.frozen 2
      have f3 := I.z.frozen 3
      have f4 := I.z.frozen 4
      have z0 := I.z.cell 0
      have z1 := I.z.cell 1
      have z2 := I.z.cell 2
      have z3 := I.z.cell 3
      have z4 := I.z.cell 4
      simp at z0 z1 z2 z3 z4
      have HB := Lib.hid I.b
      clear I
      go_wp2_with fail
      have B0 := HB.out
      refine bodyPost_ret (v := .agg #[.int .u64 (s 0), .int .u64 (s 1), .int .u64 (s 2), .int .u64 (s 3), .int .u64 (s 4)]) (by simp [results, Try.results102, go_sem, *]) rfl ⟨rfl, (by have hszz := B0.size; repeat (first | with_reducible exact B0 | with_reducible apply Below.drew | with_reducible refine below_drewN ?_ _ | (with_reducible refine Below.setCell ?_ ?_ _; rotate_left; focus (first | omega | (simp <;> omega))) | (with_reducible refine Below.alloc ?_ ?_ _; rotate_left; focus (first | omega | (simp <;> omega)))))⟩
end Go.Proofs.Ytkmcinibaffpmaa
