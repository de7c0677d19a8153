import Derived.Test.YtkmcinibaffpmaaWideFn2
import Derived.RegionTactic
import Derived.ChangeAlike
import Derived.Deep.QuietTactic
namespace Go.Proofs.Ytkmcinibaffpmaa
open Go.ChangeShapes Go.WideShapes Go.ChangeAt Go.RowKit
open Ieee.Format (fin finE htE allFin allHt all_true all_false mulF subF addF Ht Bd divF rootF floorF easeF mixF)
set_option linter.unusedVariables false
open Wide

theorem wideV_one : wideV 1 = .agg #[.int .u64 1, .int .u64 0, .int .u64 0, .int .u64 0, .int .u64 0] := by
  unfold wideV
  rw [show dig 1 0 = 1 from by decide, show dig 1 1 = 0 from by decide, show dig 1 2 = 0 from by decide, show dig 1 3 = 0 from by decide, show dig 1 4 = 0 from by decide]
structure OneAt (w wr : World) (x : Array Value) : Prop where
  x : Blk wr w.heap.size x 144
  z : Blk wr (w.heap.size + 1) #[.int .u64 0, .int .u64 0, .int .u64 0, .int .u64 0, .int .u64 0] 144
  b : Below w.heap.size w wr
theorem OneAt.set {w wr : World} {x : Array Value} (h : OneAt w wr x) (i : Nat) (v : Value) : OneAt w (wr.setCell ⟨w.heap.size, i, none⟩ v) (x.setIfInBounds i v) :=
  ⟨h.x.set v, h.z.setCell (by simp) _, h.b.setCell (by simp) _⟩
theorem OneAt.drew {w wr : World} {x : Array Value} (h : OneAt w wr x) : OneAt w wr.drew x := ⟨h.x.drew, h.z.drew, h.b.drew⟩
theorem OneAt.call {w wr w2 : World} {x : Array Value} (h : OneAt w wr x) (hb : Below wr.heap.size wr w2) : OneAt w w2 x :=
  ⟨h.x.below hb h.x.lt, h.z.below hb h.z.lt, h.b.trans (hb.mono h.b.size)⟩
theorem one_at (w : World) (x : Array Value) : OneAt w ((w.alloc (.cells x 144)).alloc (.cells #[.int .u64 0, .int .u64 0, .int .u64 0, .int .u64 0, .int .u64 0] 144)) x := by
  refine ⟨(Blk.new _ _ _).alloc _, ?_, (by repeat (first | with_reducible exact Below.refl _ _ | with_reducible apply Below.drew | with_reducible refine below_drewN ?_ _ | (with_reducible refine Below.setCell ?_ ?_ _; rotate_left; focus (first | omega | (simp <;> omega))) | (with_reducible refine Below.alloc ?_ ?_ _; rotate_left; focus (first | omega | (simp <;> omega)))))⟩
  have := Blk.new (w.alloc (.cells x 144)) #[.int .u64 0, .int .u64 0, .int .u64 0, .int .u64 0, .int .u64 0] 144
  simpa using this
set_option maxRecDepth 100000 in
set_option maxHeartbeats 2000000 in
theorem minus_any (a : Int) (w : World) : Calls Try.prog 103 #[wideV a] w fun e w' => e = .returned (wideV (-a)) ∧ Below w.heap.size w w' := by
  have KX := Lib.hid (fun j => xor_u64 (dig a j) (dig_bd a j).1 (dig_bd a j).2)
  simp only [← dig_not] at KX
  have KP := Lib.hid (fun w => plus_any (-1 - a) 1 w)
  rw [show -1 - a + 1 = -a from by omega, wideV_one] at KP
  have P0 := one_at w (wideC a)
  unfold wideC at P0
  unfold wideV at KP
  unfold wideV
  have HP := Lib.hid P0
  clear P0
  generalize dig (-1 - a) = s at *
  generalize dig (-a) = r at *
  generalize dig a = p at *
  go_enter Try.func103, Try.ntmps103
  go_wp2_with fail
  generalize (w.alloc (.cells #[.int .u64 (p 0), .int .u64 (p 1), .int .u64 (p 2), .int .u64 (p 3), .int .u64 (p 4)] 144)).alloc (.cells #[.int .u64 0, .int .u64 0, .int .u64 0, .int .u64 0, .int .u64 0] 144) = W0 at *
  go_loopw [3, 4] (fun _ i wr => ∃ j : Nat, j ≤ 5 ∧ i = .int .i64 j ∧ OneAt w wr #[.int .u64 (if 0 < j then s 0 else p 0), .int .u64 (if 1 < j then s 1 else p 1), .int .u64 (if 2 < j then s 2 else p 2), .int .u64 (if 3 < j then s 3 else p 3), .int .u64 (if 4 < j then s 4 else p 4)]) (fun _ i _ => 5 - (intOf i).toNat)
  case atStart => exact ⟨0, by omega, rfl, by simpa using HP.out⟩
  case round =>
    clear HP
    obtain ⟨j, hj, rfl, I⟩ := hrel
    rcases (show j = 0 ∨ j = 1 ∨ j = 2 ∨ j = 3 ∨ j = 4 ∨ j = 5 by omega) with rfl | rfl | rfl | rfl | rfl | rfl
    · have k1 := Lib.hid (KX.out 0)
      simp at I
      have HI := Lib.hid I
      have c0 := I.x.cell 0
      have l0 := I.x.lt
      have f0 := I.x.frozen 0
      simp at c0
      clear I hj
      go_wp2_with fail
      go_roundw
      case rel => rw [k1.out]; exact ⟨1, by omega, rfl, by simpa using (HI.out.set 0 (.int .u64 (s 0)))⟩
      case measure => simp [intOf]
    · have k1 := Lib.hid (KX.out 1)
      simp at I
      have HI := Lib.hid I
      have c0 := I.x.cell 1
      have l0 := I.x.lt
      have f0 := I.x.frozen 1
      simp at c0
      clear I hj
      go_wp2_with fail
      go_roundw
      case rel => rw [k1.out]; exact ⟨2, by omega, rfl, by simpa using (HI.out.set 1 (.int .u64 (s 1)))⟩
      case measure => simp [intOf]
    · have k1 := Lib.hid (KX.out 2)
      simp at I
      have HI := Lib.hid I
      have c0 := I.x.cell 2
      have l0 := I.x.lt
      have f0 := I.x.frozen 2
      simp at c0
      clear I hj
      go_wp2_with fail
      go_roundw
      case rel => rw [k1.out]; exact ⟨3, by omega, rfl, by simpa using (HI.out.set 2 (.int .u64 (s 2)))⟩
      case measure => simp [intOf]
    · have k1 := Lib.hid (KX.out 3)
      simp at I
      have HI := Lib.hid I
      have c0 := I.x.cell 3
      have l0 := I.x.lt
      have f0 := I.x.frozen 3
      simp at c0
      clear I hj
      go_wp2_with fail
      go_roundw
      case rel => rw [k1.out]; exact ⟨4, by omega, rfl, by simpa using (HI.out.set 3 (.int .u64 (s 3)))⟩
      case measure => simp [intOf]
    · have k1 := Lib.hid (KX.out 4)
      simp at I
      have HI := Lib.hid I
      have c0 := I.x.cell 4
      have l0 := I.x.lt
      have f0 := I.x.frozen 4
      simp at c0
      clear I hj
      go_wp2_with fail
      go_roundw
      case rel => rw [k1.out]; exact ⟨5, by omega, rfl, by simpa using (HI.out.set 4 (.int .u64 (s 4)))⟩
      case measure => simp [intOf]
    · simp at I
      have HI := Lib.hid I
      have xc0 := I.x.cell 0
      have xc1 := I.x.cell 1
      have xc2 := I.x.cell 2
      have xc3 := I.x.cell 3
      have xc4 := I.x.cell 4
      simp at xc0 xc1 xc2 xc3 xc4
      have l0 := I.x.lt
      clear I
      go_wp2_with fail
      refine (KP.out _).mono ?_
      rintro e w2 ⟨rfl, hb⟩
      have I2 := HI.out.call hb
      clear xc0 xc1 xc2 xc3 xc4 l0 hb
      have zc0 := I2.z.cell 0
      have zc1 := I2.z.cell 1
      have zc2 := I2.z.cell 2
      have zc3 := I2.z.cell 3
      have zc4 := I2.z.cell 4
      simp at zc0 zc1 zc2 zc3 zc4
      have zf0 := I2.z.frozen 0
      have zf1 := I2.z.frozen 1
      have zf2 := I2.z.frozen 2
      have zf3 := I2.z.frozen 3
      have zf4 := I2.z.frozen 4
      have l1 := I2.z.lt
      have HB := Lib.hid I2.b
      clear I2 HI
      go_wp2_with fail
      have B0 := HB.out
      refine bodyPost_ret (v := .agg #[.int .u64 (r 0), .int .u64 (r 1), .int .u64 (r 2), .int .u64 (r 3), .int .u64 (r 4)]) (by simp [results, Try.results103, go_sem, *]) rfl ⟨rfl, (by have hszz := B0.size; repeat (first | with_reducible exact B0 | with_reducible apply Below.drew | with_reducible refine below_drewN ?_ _ | (with_reducible refine Below.setCell ?_ ?_ _; rotate_left; focus (first | omega | (simp <;> omega))) | (with_reducible refine Below.alloc ?_ ?_ _; rotate_left; focus (first | omega | (simp <;> omega)))))⟩
end Go.Proofs.Ytkmcinibaffpmaa
