import Derived.Test.YtlpbofhmpfilnaaTerOp
import Derived.Test.YtlpbofhmpfilnaaAdded
import Derived.Deep.RegionHeld3
namespace Go.Proofs.Ytlpbofhmpfilnaa
open Go.ChangeShapes Go.WideShapes Go.ChangeAt Go.RowKit
open Ieee.Format (fin finE htE allFin allHt all_true all_false mulF subF addF Ht Bd divF rootF floorF easeF mixF)
set_option linter.unusedVariables false

theorem box_fm (w : World) (X Y W H : Int) (v : Value) (c1 : Array Value) (t : TypeId) : ∀ W0, W0 = ((w.alloc (.cells #[.int .i64 X, .int .i64 Y, .int .i64 W, .int .i64 H, v] 26)).alloc (.cells c1 t)).alloc (.cells #[.int .i64 0, .int .i64 0, .int .i64 0, .int .i64 0, .slice none 0 0] 26) →
    Fld W0 w.heap.size X Y W H v ∧ Blk W0 (w.heap.size + 1) c1 t ∧ Fld W0 (w.heap.size + 1 + 1) 0 0 0 0 (.slice none 0 0) ∧ Below w.heap.size w W0 := by
  rintro _ rfl
  refine ⟨((Fld.new w X Y W H v).alloc _).alloc _, ?_, ?_, (by repeat (first | with_reducible exact Below.refl _ _ | with_reducible apply Below.drew | with_reducible refine below_drewN ?_ _ | (with_reducible refine Below.setCell ?_ ?_ _; rotate_left; focus (first | omega | (simp <;> omega))) | (with_reducible refine Below.alloc ?_ ?_ _; rotate_left; focus (first | omega | (simp <;> omega)))))⟩
  · have := (Blk.new (w.alloc (.cells #[.int .i64 X, .int .i64 Y, .int .i64 W, .int .i64 H, v] 26)) c1 t).alloc (.cells #[.int .i64 0, .int .i64 0, .int .i64 0, .int .i64 0, .slice none 0 0] 26)
    simpa using this
  · have := Fld.new ((w.alloc (.cells #[.int .i64 X, .int .i64 Y, .int .i64 W, .int .i64 H, v] 26)).alloc (.cells c1 t)) 0 0 0 0 (.slice none 0 0)
    simpa using this

/-- the field's values, each given with its place to a function -/
def addL (φ : Int → Int → Nat → Nat) (X Y : Int) (Wn Hn : Nat) (l : List Nat) : List Nat := madeL (fun x y => φ x y (l.getD (cellNo X Y Wn x y).toNat 0)) X Y Wn (Hn * Wn)
theorem addL_small (φ : Int → Int → Nat → Nat) {X Y : Int} {Wn Hn : Nat} {l : List Nat} (hr : Right X Y Wn Hn l) : (addL φ X Y Wn Hn l).length ≤ 1099511627776 := by
  unfold addL
  rw [madeL_len]
  have := hr.small
  rw [hr.len] at this
  exact this

end Go.Proofs.Ytlpbofhmpfilnaa
