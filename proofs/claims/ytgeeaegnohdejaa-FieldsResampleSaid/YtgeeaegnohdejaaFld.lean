import Derived.Test.YtgeeaegnohdejaaCopyF
namespace Go.Proofs.Ytgeeaegnohdejaa
open Go.ChangeShapes Go.WideShapes Go.ChangeAt Go.RowKit
set_option linter.unusedVariables false

theorem run_store_float (P : Program) (w : World) (a : Addr) (m : Mode) (k : FloatKind) (n : Nat) : (store a (.float k n) m).run P w = stored P w a (.float k n) m := run_store P w a _ m rfl
attribute [go_sem] run_store_float

/-- block 'k' is just a field -/
def Fld (w : World) (k : Nat) (X Y W H : Int) (v : Value) : Prop := w.heap[k]? = some (.cells #[.int .i64 X, .int .i64 Y, .int .i64 W, .int .i64 H, v] /-T-/66 (0, 0))
section
variable {w w' : World} {k : Nat} {X Y W H : Int} {v : Value}
theorem Fld.lt (h : Fld w k X Y W H v) : k < w.heap.size := by
  rcases Nat.lt_or_ge k w.heap.size with hlt | hge
  · exact hlt
  · unfold Fld at h; rw [Array.getElem?_eq_none hge] at h; cases h
theorem Fld.cell (h : Fld w k X Y W H v) (i : Nat) : w.cell? ⟨k, i, none⟩ = (#[.int .i64 X, .int .i64 Y, .int .i64 W, .int .i64 H, v] : Array Value)[i]? := cell_of_row w k i _ _ _ h
theorem Fld.cells (h : Fld w k X Y W H v) : w.cell? ⟨k, 0, none⟩ = some (.int .i64 X) ∧ w.cell? ⟨k, 1, none⟩ = some (.int .i64 Y) ∧ w.cell? ⟨k, 2, none⟩ = some (.int .i64 W) ∧ w.cell? ⟨k, 3, none⟩ = some (.int .i64 H) ∧ w.cell? ⟨k, 4, none⟩ = some v :=
  ⟨h.cell 0, h.cell 1, h.cell 2, h.cell 3, h.cell 4⟩
theorem Fld.frozen (h : Fld w k X Y W H v) (i : Nat) : w.frozen? ⟨k, i, none⟩ = false := frozen_of_row w k i _ _ h
theorem Fld.below {B : Nat} (h : Fld w k X Y W H v) (hb : Below B w w') (hk : k < B) : Fld w' k X Y W H v := (hb.block k hk).trans h
theorem Fld.new (w : World) (X Y W H : Int) (v : Value) : Fld (w.alloc (.cells #[.int .i64 X, .int .i64 Y, .int .i64 W, .int .i64 H, v] /-T-/66)) w.heap.size X Y W H v := heap_alloc_new w _
theorem Fld.alloc (h : Fld w k X Y W H v) (o : Obj) : Fld (w.alloc o) k X Y W H v := (Below.heap_alloc w o k h.lt).trans h
theorem Fld.drew (h : Fld w k X Y W H v) : Fld w.drew k X Y W H v := h
theorem Fld.drewN (h : Fld w k X Y W H v) (n : Nat) : Fld (w.drewN n) k X Y W H v := h
theorem Fld.setCell (h : Fld w k X Y W H v) {p : Addr} (hp : k ≠ p.block) (u : Value) : Fld (w.setCell p u) k X Y W H v := (Below.heap_setCell w p u k hp).trans h
theorem Fld.grown {row : Option Nat} (h : Fld w k X Y W H v) (hb : w.grownBy w' row) (hg : some k ≠ row) : Fld w' k X Y W H v := (hb.block k h.lt hg).trans h
theorem Fld.set0 (h : Fld w k X Y W H v) (u : Int) : Fld (w.setCell ⟨k, 0, none⟩ (.int .i64 u)) k u Y W H v := by
  unfold Fld at *; exact heap_setCell_same w k 0 _ _ _ h
theorem Fld.set1 (h : Fld w k X Y W H v) (u : Int) : Fld (w.setCell ⟨k, 1, none⟩ (.int .i64 u)) k X u W H v := by
  unfold Fld at *; exact heap_setCell_same w k 1 _ _ _ h
theorem Fld.set2 (h : Fld w k X Y W H v) (u : Int) : Fld (w.setCell ⟨k, 2, none⟩ (.int .i64 u)) k X Y u H v := by
  unfold Fld at *; exact heap_setCell_same w k 2 _ _ _ h
theorem Fld.set3 (h : Fld w k X Y W H v) (u : Int) : Fld (w.setCell ⟨k, 3, none⟩ (.int .i64 u)) k X Y W u v := by
  unfold Fld at *; exact heap_setCell_same w k 3 _ _ _ h
theorem Fld.set4 (h : Fld w k X Y W H v) (u : Value) : Fld (w.setCell ⟨k, 4, none⟩ u) k X Y W H u := by
  unfold Fld at *; exact heap_setCell_same w k 4 _ _ _ h
end
theorem two_fields (w : World) (X Y W H : Int) (v : Value) : ∀ W0, W0 = (w.alloc (.cells #[.int .i64 X, .int .i64 Y, .int .i64 W, .int .i64 H, v] /-T-/66)).alloc (.cells #[.int .i64 0, .int .i64 0, .int .i64 0, .int .i64 0, .slice none 0 0] /-T-/66) →
    Fld W0 w.heap.size X Y W H v ∧ Fld W0 (w.heap.size + 1) 0 0 0 0 (.slice none 0 0) ∧ Below w.heap.size w W0 ∧ W0.heap.size = w.heap.size + 2 := by
  rintro _ rfl
  refine ⟨(Fld.new w X Y W H v).alloc _, ?_, (by repeat (first | with_reducible exact Below.refl _ _ | with_reducible apply Below.drew | with_reducible refine below_drewN ?_ _ | (with_reducible refine Below.setCell ?_ ?_ _; rotate_left; focus (first | omega | (simp <;> omega))) | (with_reducible refine Below.alloc ?_ ?_ _; rotate_left; focus (first | omega | (simp <;> omega))))), by simp⟩
  have := Fld.new (w.alloc (.cells #[.int .i64 X, .int .i64 Y, .int .i64 W, .int .i64 H, v] /-T-/66)) 0 0 0 0 (.slice none 0 0)
  simpa using this
end Go.Proofs.Ytgeeaegnohdejaa
