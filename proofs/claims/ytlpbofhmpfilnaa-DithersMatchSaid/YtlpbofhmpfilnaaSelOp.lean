import Derived.Test.YtlpbofhmpfilnaaSelClos
import Derived.Test.YtlpbofhmpfilnaaRefShadeOp
import Derived.Deep.RegionHeld3
namespace Go.Proofs.Ytlpbofhmpfilnaa
open Go.ChangeShapes Go.WideShapes Go.ChangeAt Go.RowKit
open Ieee.Format (fin finE htE allFin allHt all_true all_false mulF subF addF Ht Bd divF rootF floorF easeF mixF)
set_option linter.unusedVariables false

theorem row_three_at (W : World) (g x y z : Nat) (hx : x < 4294967296) (hy : y < 4294967296) (hz : z < 4294967296) (h0 : W.cell? ⟨g, 0, none⟩ = some (.float .f32 x)) (h1 : W.cell? ⟨g, 1, none⟩ = some (.float .f32 y)) (h2 : W.cell? ⟨g, 2, none⟩ = some (.float .f32 z)) : SRow W (some ⟨g, 0, none⟩) [x, y, z] := by
  refine ⟨⟨by simp, by simp; exact ⟨hx, hy, hz⟩⟩, .inr ⟨g, 0, rfl, ?_⟩⟩
  intro i hi
  match i, hi with
  | 0, _ => exact h0
  | 1, _ => exact h1
  | 2, _ => exact h2
theorem heights_three (W : World) (g x y z : Nat) (hx : x < 4294967296) (hy : y < 4294967296) (hz : z < 4294967296) (h0 : W.cell? ⟨g, 0, none⟩ = some (.float .f32 x)) (h1 : W.cell? ⟨g, 1, none⟩ = some (.float .f32 y)) (h2 : W.cell? ⟨g, 2, none⟩ = some (.float .f32 z)) :
    Calls Try.prog 58 #[.slice (some ⟨g, 0, none⟩) 3 3] W fun e w' => e = .returned (.int .i64 (htE [x, y, z])) ∧ W = w' := heights_any (some ⟨g, 0, none⟩) 3 [x, y, z] W (row_three_at W g x y z hx hy hz h0 h1 h2)
theorem refheight_three (W : World) (g x y z : Nat) (hx : x < 4294967296) (hy : y < 4294967296) (hz : z < 4294967296) (h0 : W.cell? ⟨g, 0, none⟩ = some (.float .f32 x)) (h1 : W.cell? ⟨g, 1, none⟩ = some (.float .f32 y)) (h2 : W.cell? ⟨g, 2, none⟩ = some (.float .f32 z)) :
    Calls Try.prog 21 #[.slice (some ⟨g, 0, none⟩) 3 3] W fun e w' => e = .returned (.int .i64 (htE [x, y, z])) ∧ W = w' := refheight_any (some ⟨g, 0, none⟩) 3 [x, y, z] W (row_three_at W g x y z hx hy hz h0 h1 h2)

theorem box_f3c (w : World) (X Y W H : Int) (v : Value) (c1 c2 c3 : Array Value) (t : TypeId) : ∀ W0, W0 = ((((w.alloc (.cells #[.int .i64 X, .int .i64 Y, .int .i64 W, .int .i64 H, v] 26)).alloc (.cells c1 t)).alloc (.cells c2 t)).alloc (.cells c3 t)).alloc (.cells #[.int .i64 0, .int .i64 0, .int .i64 0, .int .i64 0, .slice none 0 0] 26) →
    Fld W0 w.heap.size X Y W H v ∧ Blk W0 (w.heap.size + 1) c1 t ∧ Blk W0 (w.heap.size + 1 + 1) c2 t ∧ Blk W0 (w.heap.size + 1 + 1 + 1) c3 t ∧ Fld W0 (w.heap.size + 1 + 1 + 1 + 1) 0 0 0 0 (.slice none 0 0) ∧ Below w.heap.size w W0 := by
  rintro _ rfl
  refine ⟨((((Fld.new w X Y W H v).alloc _).alloc _).alloc _).alloc _, ?_, ?_, ?_, ?_, (by repeat (first | with_reducible exact Below.refl _ _ | with_reducible apply Below.drew | with_reducible refine below_drewN ?_ _ | (with_reducible refine Below.setCell ?_ ?_ _; rotate_left; focus (first | omega | (simp <;> omega))) | (with_reducible refine Below.alloc ?_ ?_ _; rotate_left; focus (first | omega | (simp <;> omega)))))⟩
  · have := (((Blk.new (w.alloc (.cells #[.int .i64 X, .int .i64 Y, .int .i64 W, .int .i64 H, v] 26)) c1 t).alloc (.cells c2 t)).alloc (.cells c3 t)).alloc (.cells #[.int .i64 0, .int .i64 0, .int .i64 0, .int .i64 0, .slice none 0 0] 26)
    simpa using this
  · have := ((Blk.new ((w.alloc (.cells #[.int .i64 X, .int .i64 Y, .int .i64 W, .int .i64 H, v] 26)).alloc (.cells c1 t)) c2 t).alloc (.cells c3 t)).alloc (.cells #[.int .i64 0, .int .i64 0, .int .i64 0, .int .i64 0, .slice none 0 0] 26)
    simpa using this
  · have := (Blk.new (((w.alloc (.cells #[.int .i64 X, .int .i64 Y, .int .i64 W, .int .i64 H, v] 26)).alloc (.cells c1 t)).alloc (.cells c2 t)) c3 t).alloc (.cells #[.int .i64 0, .int .i64 0, .int .i64 0, .int .i64 0, .slice none 0 0] 26)
    simpa using this
  · have := Fld.new ((((w.alloc (.cells #[.int .i64 X, .int .i64 Y, .int .i64 W, .int .i64 H, v] 26)).alloc (.cells c1 t)).alloc (.cells c2 t)).alloc (.cells c3 t)) 0 0 0 0 (.slice none 0 0)
    simpa using this

/-- the field's values, each given to a function: by a function that counts -/
theorem make_map (gn : Nat) (caps : Array Value) (p : Nat) (φ : Nat → Nat) (X Y : Int) (Wn Hn : Nat) (l : List Nat) (w : World) (hr : Right X Y Wn Hn l)
    (eg : ∀ args w, (callFunc gn args).run Try.prog w = .ok (.enter gn args) w) (hp : CntAt w p (-1)) (hφ : ∀ v, φ v < 4294967296)
    (hf : ∀ x y (k : Nat), k < l.length → ∀ W', But w.heap.size (fun k => k = p) w W' → CntAt W' p ((k : Int) - 1) → Calls Try.prog gn (#[.int .i64 x, .int .i64 y] ++ caps) W' fun e w' => e = .returned (.float .f32 (φ (l.getD k 0))) ∧ But W'.heap.size (fun k => k = p) W' w' ∧ CntAt w' p (k : Int)) :
    Calls Try.prog 25 #[reg X Y Wn Hn, .func (.func gn) #[] caps] w fun e w' => MakeCP p X Y Wn Hn (l.map φ) w e w' := by
  have g1 := hr.w1; have g2 := hr.w2; have g3 := hr.h1; have g4 := hr.h2; have g5 := hr.x1; have g6 := hr.x2; have g7 := hr.y1; have g8 := hr.y2
  have := make_cnt gn caps p (fun x y => φ (l.getD (cellNo X Y Wn x y).toNat 0)) X Y Wn Hn w (by omega) (by omega) (by omega) (by omega) (by omega) (by omega) (by omega) (by omega) eg hp (fun x y => hφ _) ?_
  · rw [madeL_map φ X Y Wn Hn l (by omega) hr.len] at this
    exact this
  · intro i j k hi hj hk W' hb hc
    rw [cell_ij hk]
    exact hf _ _ k (by rw [hr.len]; exact cell_lt hi hj hk) W' hb hc

def selC (lo hi soft : Nat) : Int := if htE [lo, hi, soft] ≠ 0 then htE [lo, hi, soft] else if gtr lo hi = true then 8 else if lss soft 0 = true then 3 else 0

end Go.Proofs.Ytlpbofhmpfilnaa
