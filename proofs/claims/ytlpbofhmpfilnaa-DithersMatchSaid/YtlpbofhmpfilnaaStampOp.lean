import Derived.Test.YtlpbofhmpfilnaaStampFn
namespace Go.Proofs.Ytlpbofhmpfilnaa
open Go.ChangeShapes Go.WideShapes Go.ChangeAt Go.RowKit
open Ieee.Format (fin finE htE allFin allHt all_true all_false mulF subF addF Ht Bd divF rootF floorF easeF mixF)
set_option linter.unusedVariables false

theorem box_fb (w : World) (X Y W H : Int) (v : Value) (c1 : Array Value) (t : TypeId) : ∀ W0, W0 = ((w.alloc (.cells #[.int .i64 X, .int .i64 Y, .int .i64 W, .int .i64 H, v] 26)).alloc (.cells c1 t)).alloc (.cells #[.int .i64 0, .int .i64 0, .int .i64 0, .int .i64 0, .slice none 0 0] 26) →
    Fld W0 w.heap.size X Y W H v ∧ Blk W0 (w.heap.size + 1) c1 t ∧ Fld W0 (w.heap.size + 1 + 1) 0 0 0 0 (.slice none 0 0) ∧ Below w.heap.size w W0 := box_fm w X Y W H v c1 t

/-- a field's cells are places that a brush takes -/
theorem brush_at {k BX BY R : Int} {H : Nat} (hz : brushE k BX BY R H = 0) {X Y x y : Int} {Wn Hn : Nat} {l : List Nat} (hr : Right X Y Wn Hn l) (h1 : X ≤ x) (h2 : x < X + Wn) (h3 : Y ≤ y) (h4 : y < Y + Hn) : BrushOk BX BY R x y ∧ Bd 20 H := by
  obtain ⟨_, _, p, r1, r2, hH⟩ := brush_zero hz
  have g1 := hr.w2; have g2 := hr.h2; have g3 := hr.x1; have g4 := hr.x2; have g5 := hr.y1; have g6 := hr.y2
  exact ⟨⟨p, by omega, r1, r2⟩, Ieee.Format.Ht.bd (htE_one hH)⟩

/-- what Stamp gives of each cell -/
def stA (k BX BY R : Int) (H : Nat) (x y : Int) (v : Nat) : Nat := stF H v (weightF k (sqD x y BX BY) R)

end Go.Proofs.Ytlpbofhmpfilnaa
