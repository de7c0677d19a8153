import Derived.Test.YtiiogjjjgoeghaaG04
import Derived.Shelf.Abstract
import Derived.Deep.AppendLies
import Derived.Deep.RegionLaw
import Derived.Test.YtiiogjjjgoeghaaG01
import Derived.Deep.RegionHeld3
import Derived.Outline
import Derived.Laws.BitsAllLaws
import Derived.Laws.BitsLemmas
import Derived.OwnWalk
import Derived.Lib.SmallJoins
import Derived.Deep.Slices
import Derived.OpenShut
import Derived.WalkLawsBesides
import Derived.StillTailTactics
namespace Go.Proofs.Ytiiogjjjgoeghaa
open Go.ChangeShapes Go.WideShapes Go.ChangeAt Go.RowKit
open Ieee.Format (fin finE htE allFin allHt all_true all_false finE_ok finE_bad htE_ok htE_far htE_bad mulF subF addF)
set_option linter.unusedVariables false

/-- block 'k' is just a region -/
def Reg (w : World) (k : Nat) (X Y W H : Int) : Prop := w.heap[k]? = some (.cells #[.int .i64 X, .int .i64 Y, .int .i64 W, .int .i64 H] /-T-/23 (0, 0))
section
variable {w w' : World} {k : Nat} {X Y W H : Int}
theorem Reg.lt (h : Reg w k X Y W H) : k < w.heap.size := by
  rcases Nat.lt_or_ge k w.heap.size with hlt | hge
  · exact hlt
  · unfold Reg at h; rw [Array.getElem?_eq_none hge] at h; cases h
theorem Reg.cell (h : Reg w k X Y W H) (i : Nat) : w.cell? ⟨k, i, none⟩ = (#[.int .i64 X, .int .i64 Y, .int .i64 W, .int .i64 H] : Array Value)[i]? := cell_of_row w k i _ _ _ h
theorem Reg.cells (h : Reg w k X Y W H) : w.cell? ⟨k, 0, none⟩ = some (.int .i64 X) ∧ w.cell? ⟨k, 1, none⟩ = some (.int .i64 Y) ∧ w.cell? ⟨k, 2, none⟩ = some (.int .i64 W) ∧ w.cell? ⟨k, 3, none⟩ = some (.int .i64 H) :=
  ⟨h.cell 0, h.cell 1, h.cell 2, h.cell 3⟩
theorem Reg.below {B : Nat} (h : Reg w k X Y W H) (hb : Below B w w') (hk : k < B) : Reg w' k X Y W H := (hb.block k hk).trans h
theorem Reg.new (w : World) (X Y W H : Int) : Reg (w.alloc (.cells #[.int .i64 X, .int .i64 Y, .int .i64 W, .int .i64 H] /-T-/23)) w.heap.size X Y W H := heap_alloc_new w _
theorem Reg.alloc (h : Reg w k X Y W H) (o : Obj) : Reg (w.alloc o) k X Y W H := (Below.heap_alloc w o k h.lt).trans h
theorem Reg.drew (h : Reg w k X Y W H) : Reg w.drew k X Y W H := h
theorem Reg.setCell (h : Reg w k X Y W H) {p : Addr} (hp : k ≠ p.block) (u : Value) : Reg (w.setCell p u) k X Y W H := (Below.heap_setCell w p u k hp).trans h
theorem Reg.grown {row : Option Nat} (h : Reg w k X Y W H) (hb : w.grownBy w' row) (hg : some k ≠ row) : Reg w' k X Y W H := (hb.block k h.lt hg).trans h
end

/-- what 'made' gives: the first 'n' values, row by row -/
def madeL (ψ : Int → Int → Nat) (X Y : Int) (W n : Nat) : List Nat := (List.range n).map fun k => ψ (X + ((k % W : Nat) : Int)) (Y + ((k / W : Nat) : Int))
theorem madeL_len (ψ : Int → Int → Nat) (X Y : Int) (W n : Nat) : (madeL ψ X Y W n).length = n := by simp [madeL]
theorem madeL_succ (ψ : Int → Int → Nat) (X Y : Int) (W i j : Nat) (hi : i < W) : madeL ψ X Y W (j * W + i + 1) = madeL ψ X Y W (j * W + i) ++ [ψ (X + (i : Int)) (Y + (j : Int))] := by
  have h1 : (j * W + i) % W = i := by rw [Nat.mul_comm, Nat.mul_add_mod, Nat.mod_eq_of_lt hi]
  have h2 : (j * W + i) / W = j := by rw [Nat.mul_comm, Nat.mul_add_div (by omega), Nat.div_eq_of_lt hi]; rfl
  unfold madeL
  rw [List.range_succ, List.map_append, List.map_singleton, h1, h2]

structure MadeInv (w wr : World) (X Y W H : Int) (v : Value) (m : List Nat) : Prop where
  rg : Reg wr w.heap.size X Y W H
  rz : Fld wr (w.heap.size + 1) 0 0 0 0 (.slice none 0 0)
  fo : Fld wr (w.heap.size + 1 + 1) X Y W H v
  own : wr.ownsRow (w.heap.size + 3) /-T-/27 1 v m.length (fls m)
  wf : ∀ x ∈ m, x < 4294967296
  below : Below w.heap.size w wr

theorem ownsRow_below {w w' : World} {B B' size n : Nat} {e : TypeId} {v : Value} {xs : List Value} (h : w.ownsRow B e size v n xs) (hb : Below B' w w') (hg : ∀ k, v.ownBlock = some k → k < B') : w'.ownsRow B e size v n xs := by
  refine ⟨h.1, ?_⟩
  rcases h.2 with h2 | ⟨g, cap, cur, rfl, hB, hh, r⟩
  · exact .inl h2
  · exact .inr ⟨g, cap, cur, rfl, hB, (hb.block g (hg g rfl)).trans hh, r⟩

theorem MadeInv.call {w wr w2 : World} {X Y W H : Int} {v : Value} {m : List Nat} (h : MadeInv w wr X Y W H v m) (hb : Below wr.drew.heap.size wr.drew w2) : MadeInv w w2 X Y W H v m :=
  ⟨h.rg.drew.below hb h.rg.lt, h.rz.drew.below hb h.rz.lt, h.fo.drew.below hb h.fo.lt, ownsRow_below (w := wr.drew) h.own hb (fun k hk => (h.own.lt k hk).2), h.wf,
    (h.below.drew).trans (hb.mono (show w.heap.size ≤ wr.heap.size from h.below.size))⟩

theorem MadeInv.mid {w w2 w3 : World} {X Y W H : Int} {v : Value} {m : List Nat} {o : Obj} (h : MadeInv w w2 X Y W H v m) (hg : (w2.alloc o).grownBy w3 v.ownBlock) :
    Reg w3 w.heap.size X Y W H ∧ Fld w3 (w.heap.size + 1) 0 0 0 0 (.slice none 0 0) ∧ Fld w3 (w.heap.size + 1 + 1) X Y W H v ∧ Below w.heap.size w w3 := by
  have hne : ∀ k, k < w.heap.size + 3 → some k ≠ v.ownBlock := fun k hk e => by
    have := (h.own.lt k e.symm).1; omega
  refine ⟨(h.rg.alloc o).grown hg (hne _ (by omega)), (h.rz.alloc o).grown hg (hne _ (by omega)), (h.fo.alloc o).grown hg (hne _ (by omega)), ?_⟩
  have hz := h.below.size
  refine (h.below.alloc hz o).grown hg (by simp; omega) (fun k hk => ?_)
  have := (h.own.lt k hk).1
  omega

theorem MadeInv.app {w w2 w3 : World} {X Y W H : Int} {v : Value} {m : List Nat} {o : Obj} (h : MadeInv w w2 X Y W H v m) {y g cap : Nat} (hy : y < 4294967296)
    (hown : w3.ownsRow (w.heap.size + 3) /-T-/27 1 (.slice (some ⟨g, 0, none⟩) (m.length + 1) cap) (m.length + 1) (fls m ++ [.float .f32 y])) (hg : (w2.alloc o).grownBy w3 v.ownBlock) :
    MadeInv w (w3.setCell ⟨w.heap.size + 1 + 1, 4, none⟩ (.slice (some ⟨g, 0, none⟩) (m.length + 1) cap)) X Y W H (.slice (some ⟨g, 0, none⟩) (m.length + 1) cap) (m ++ [y]) := by
  obtain ⟨a, b, c, d⟩ := h.mid hg
  have hgl := (hown.lt g rfl).1
  refine ⟨a.setCell (by show w.heap.size ≠ w.heap.size + 1 + 1; omega) _, b.setCell (by show w.heap.size + 1 ≠ w.heap.size + 1 + 1; omega) _, c.set4 _, ?_, ?_, d.setCell (by show w.heap.size ≤ w.heap.size + 1 + 1; omega) _⟩
  · have e : fls (m ++ [y]) = fls m ++ [.float .f32 y] := by unfold fls; simp
    have e2 : (m ++ [y]).length = m.length + 1 := by simp
    rw [e, e2]
    refine ⟨hown.1, ?_⟩
    rcases hown.2 with h2 | ⟨g', cap', cur, hv, hB, hh, r⟩
    · exact .inl h2
    · have : g' = g := by simp at hv; exact hv.1.symm
      subst this
      exact .inr ⟨g', cap', cur, hv, hB, (Below.heap_setCell w3 _ _ g' (by show g' ≠ w.heap.size + 1 + 1; omega)).trans hh, r⟩
  · intro x hx
    rcases List.mem_append.1 hx with hx | hx
    · exact h.wf x hx
    · have : x = y := by simpa using hx
      rw [this]; exact hy
end Go.Proofs.Ytiiogjjjgoeghaa

namespace Go.Proofs.Ytiiogjjjgoeghaa
open Go.ChangeShapes Go.WideShapes Go.ChangeAt Go.RowKit
open Ieee.Format (fin finE htE allFin allHt all_true all_false finE_ok finE_bad htE_ok htE_far htE_bad mulF subF addF)
set_option linter.unusedVariables false

theorem made_start (w : World) (X Y W H : Int) : ∀ W0, W0 = ((w.alloc (.cells #[.int .i64 X, .int .i64 Y, .int .i64 W, .int .i64 H] /-T-/23)).alloc (.cells #[.int .i64 0, .int .i64 0, .int .i64 0, .int .i64 0, .slice none 0 0] /-T-/26)).alloc (.cells #[.int .i64 X, .int .i64 Y, .int .i64 W, .int .i64 H, .slice none 0 0] /-T-/26) → MadeInv w W0 X Y W H (.slice none 0 0) [] := by
  rintro _ rfl
  refine ⟨((Reg.new w X Y W H).alloc _).alloc _, ?_, ?_, World.ownsRow_nil _ _ _ _, by simp, (by repeat (first | with_reducible exact Below.refl _ _ | with_reducible apply Below.drew | with_reducible refine below_drewN ?_ _ | (with_reducible refine Below.setCell ?_ ?_ _; rotate_left; focus (first | omega | (simp <;> omega))) | (with_reducible refine Below.alloc ?_ ?_ _; rotate_left; focus (first | omega | (simp <;> omega)))))⟩
  · have := (Fld.new (w.alloc (.cells #[.int .i64 X, .int .i64 Y, .int .i64 W, .int .i64 H] /-T-/23)) 0 0 0 0 (.slice none 0 0)).alloc (.cells #[.int .i64 X, .int .i64 Y, .int .i64 W, .int .i64 H, .slice none 0 0] /-T-/26)
    simpa using this
  · have := Fld.new ((w.alloc (.cells #[.int .i64 X, .int .i64 Y, .int .i64 W, .int .i64 H] /-T-/23)).alloc (.cells #[.int .i64 0, .int .i64 0, .int .i64 0, .int .i64 0, .slice none 0 0] /-T-/26)) X Y W H (.slice none 0 0)
    simpa using this

/-- what the reference's 'made' returns of the values 'm' -/
def MadeP (X Y W H : Int) (m : List Nat) (w : World) (e : Ending) (w' : World) : Prop :=
  (outE m = 0 → ∃ g cap, e = .returned (.tuple #[fldV X Y W H (some ⟨g, 0, none⟩) m.length cap, .int .i64 0]) ∧ OwnF w' w.heap.size g cap m) ∧
  (outE m ≠ 0 → e = .returned (.tuple #[fldV 0 0 0 0 none 0 0, .int .i64 3])) ∧ Below w.heap.size w w'

end Go.Proofs.Ytiiogjjjgoeghaa

namespace Go.Proofs.Ytiiogjjjgoeghaa
open Go.Shelf
open Go.ChangeShapes Go.WideShapes Go.ChangeAt Go.RowKit
open Ieee.Format (fin finE htE allFin allHt all_true all_false finE_ok finE_bad htE_ok htE_far htE_bad mulF subF addF Ht scaleF)
set_option linter.unusedVariables false

/-- 'made' over the cells of a field is the field's values turned -/
theorem madeL_map (φ : Nat → Nat) (X Y : Int) (Wn Hn : Nat) (l : List Nat) (h1 : 1 ≤ Wn) (hl : l.length = Hn * Wn) :
    madeL (fun x y => φ (l.getD (cellNo X Y Wn x y).toNat 0)) X Y Wn (Hn * Wn) = l.map φ := by
  refine List.ext_getElem? fun k => ?_
  unfold madeL
  rw [List.getElem?_map, List.getElem?_map]
  by_cases hk : k < Hn * Wn
  · have e : (cellNo X Y Wn (X + ((k % Wn : Nat) : Int)) (Y + ((k / Wn : Nat) : Int))).toNat = k := by
      unfold cellNo
      have := Nat.div_add_mod k Wn
      have h : (Y + ((k / Wn : Nat) : Int) - Y) * (Wn : Int) = ((Wn * (k / Wn) : Nat) : Int) := by
        rw [show Y + ((k / Wn : Nat) : Int) - Y = ((k / Wn : Nat) : Int) from by omega, Int.natCast_mul, Int.mul_comm]
      rw [h]
      omega
    rw [List.getElem?_range hk, List.getElem?_eq_getElem (by omega), Option.map_some, Option.map_some]
    dsimp only
    rw [e, List.getD_eq_getElem?_getD, List.getElem?_eq_getElem (by omega)]
    rfl
  · rw [List.getElem?_eq_none (by rw [List.length_range]; omega), List.getElem?_eq_none (by omega)]
    rfl

/-- a field of these values, or ErrRange where one of them is no height -/
def ResP (X Y W H : Int) (m : List Nat) (w : World) (e : Ending) (w' : World) : Prop :=
  (allHt m = true → ∃ g cap, e = .returned (.tuple #[fldV X Y W H (some ⟨g, 0, none⟩) m.length cap, .int .i64 0]) ∧ OwnF w' w.heap.size g cap m) ∧
  (allHt m = false → e = .returned (.tuple #[fldV 0 0 0 0 none 0 0, .int .i64 3])) ∧ Below w.heap.size w w'
theorem MadeP.res {X Y W H : Int} {m : List Nat} {w : World} {e : Ending} {w' : World} (h : MadeP X Y W H m w e w') : ResP X Y W H m w e w' := by
  refine ⟨fun hh => h.1 ?_, fun hh => h.2.1 ?_, h.2.2⟩
  · unfold outE; rw [Ieee.Format.htE_of_ht hh]; rfl
  · unfold outE; rw [if_neg (Ieee.Format.htE_ne hh)]; decide

theorem row_two (w : World) (x y : Nat) (hx : x < 4294967296) (hy : y < 4294967296) (t : TypeId) : SRow (w.alloc (.cells #[.float .f32 x, .float .f32 y] t)) (some ⟨w.heap.size, 0, none⟩) [x, y] := by
  refine ⟨⟨by simp, by simp; exact ⟨hx, hy⟩⟩, .inr ⟨w.heap.size, 0, rfl, ?_⟩⟩
  intro i hi
  have : i = 0 ∨ i = 1 := by simp at hi; omega
  rcases this with rfl | rfl <;> simp

/-- a right field: its region and values are right -/
structure Right (X Y : Int) (Wn Hn : Nat) (l : List Nat) : Prop where
  w1 : 1 ≤ Wn
  w2 : Wn ≤ 512
  h1 : 1 ≤ Hn
  h2 : Hn ≤ 512
  wh : Wn * Hn ≤ 65536
  x1 : -4194304 ≤ X
  x2 : X ≤ 4194304 - Wn
  y1 : -4194304 ≤ Y
  y2 : Y ≤ 4194304 - Hn
  len : l.length = Hn * Wn
  ht : ∀ x ∈ l, Ht x
theorem Right.chk {X Y : Int} {Wn Hn : Nat} {l : List Nat} (h : Right X Y Wn Hn l) : chkF X Y Wn Hn l = 0 := by
  have c : Go.Proofs.Ytiiogjjjgoeghaa.chk X Y Wn Hn = 0 := by
    unfold Go.Proofs.Ytiiogjjjgoeghaa.chk
    have e : ((Wn : Int) * (Hn : Int)) = ((Wn * Hn : Nat) : Int) := by rw [Int.natCast_mul]
    have := h.w1; have := h.w2; have := h.h1; have := h.h2; have := h.wh; have := h.x1; have := h.x2; have := h.y1; have := h.y2
    rw [if_neg (by omega), if_neg (by rw [e]; omega), if_neg (by omega)]
  rw [chkF_vals c (by rw [h.len, Int.natCast_mul, Int.mul_comm])]
  exact Ieee.Format.htE_of_ht (Ieee.Format.allHt_iff.2 h.ht)
theorem Right.ne {X Y : Int} {Wn Hn : Nat} {l : List Nat} (h : Right X Y Wn Hn l) : l ≠ [] := by
  intro e
  have := h.len
  rw [e] at this
  have := Nat.mul_le_mul h.h1 h.w1
  simp at *; omega

end Go.Proofs.Ytiiogjjjgoeghaa

namespace Go.Proofs.Ytiiogjjjgoeghaa
open Go.Shelf
open Go.ChangeShapes Go.WideShapes Go.ChangeAt Go.RowKit
open Ieee.Format (fin finE htE allFin allHt all_true all_false finE_ok finE_bad htE_ok htE_far htE_bad mulF subF addF Ht scaleF)
set_option linter.unusedVariables false

theorem Right.getD {X Y : Int} {Wn Hn : Nat} {l : List Nat} (h : Right X Y Wn Hn l) (i : Nat) : Ht (l.getD i 0) := by
  rcases Nat.lt_or_ge i l.length with hlt | hge
  · rw [List.getD_eq_getElem?_getD, List.getElem?_eq_getElem hlt]; exact h.ht _ (List.getElem_mem hlt)
  · rw [List.getD_eq_getElem?_getD, List.getElem?_eq_none hge]; show (0 : Nat) % 2147483648 ≤ 1233125376; decide

theorem row_two_at (W : World) (g x y : Nat) (hx : x < 4294967296) (hy : y < 4294967296) (h0 : W.cell? ⟨g, 0, none⟩ = some (.float .f32 x)) (h1 : W.cell? ⟨g, 1, none⟩ = some (.float .f32 y)) : SRow W (some ⟨g, 0, none⟩) [x, y] := by
  refine ⟨⟨by simp, by simp; exact ⟨hx, hy⟩⟩, .inr ⟨g, 0, rfl, ?_⟩⟩
  intro i hi
  have : i = 0 ∨ i = 1 := by simp at hi; omega
  rcases this with rfl | rfl
  · exact h0
  · exact h1
theorem scale_world (w : World) (X Y W H : Int) (v : Value) (x y : Nat) : ∀ W0, W0 = ((((w.alloc (.cells #[.int .i64 X, .int .i64 Y, .int .i64 W, .int .i64 H, v] /-T-/26)).alloc (.cells #[.float .f32 x] /-T-/27)).alloc (.cells #[.float .f32 y] /-T-/27)).alloc (.cells #[.int .i64 0, .int .i64 0, .int .i64 0, .int .i64 0, .slice none 0 0] /-T-/26)).alloc (.cells #[.float .f32 x, .float .f32 y] /-T-/27) →
    Fld W0 w.heap.size X Y W H v ∧ Fld W0 (w.heap.size + 1 + 1 + 1) 0 0 0 0 (.slice none 0 0) ∧ W0.cell? ⟨w.heap.size + 1, 0, none⟩ = some (.float .f32 x) ∧ W0.cell? ⟨w.heap.size + 1 + 1, 0, none⟩ = some (.float .f32 y) ∧ Below w.heap.size w W0 ∧ W0.heap.size = w.heap.size + 5 := by
  rintro _ rfl
  refine ⟨((((Fld.new w X Y W H v).alloc _).alloc _).alloc _).alloc _, ?_, by simp [go_sem], by simp [go_sem], (by repeat (first | with_reducible exact Below.refl _ _ | with_reducible apply Below.drew | with_reducible refine below_drewN ?_ _ | (with_reducible refine Below.setCell ?_ ?_ _; rotate_left; focus (first | omega | (simp <;> omega))) | (with_reducible refine Below.alloc ?_ ?_ _; rotate_left; focus (first | omega | (simp <;> omega))))), by simp⟩
  have := (Fld.new (((w.alloc (.cells #[.int .i64 X, .int .i64 Y, .int .i64 W, .int .i64 H, v] /-T-/26)).alloc (.cells #[.float .f32 x] /-T-/27)).alloc (.cells #[.float .f32 y] /-T-/27)) 0 0 0 0 (.slice none 0 0)).alloc (.cells #[.float .f32 x, .float .f32 y] /-T-/27)
  simpa using this

end Go.Proofs.Ytiiogjjjgoeghaa

namespace Go.Proofs.Ytiiogjjjgoeghaa
open Go.Shelf
open Go.ChangeShapes Go.WideShapes Go.ChangeAt Go.RowKit
open Ieee.Format (fin finE htE allFin allHt all_true all_false finE_ok finE_bad htE_ok htE_far htE_bad mulF subF addF Ht scaleF)
set_option linter.unusedVariables false

/-- a value held within two bounds -/
def clampF (a d x : Nat) : Nat := if (Ieee.single.order x a == some .lt) = true then a else if (Ieee.single.order x d == some .gt) = true then d else x
theorem clampF_ht {a d x : Nat} (ha : Ht a) (hd : Ht d) (hx : Ht x) : Ht (clampF a d x) := by
  unfold clampF; split
  · exact ha
  · split
    · exact hd
    · exact hx
theorem clampF_lt {a d x : Nat} (ha : a < 4294967296) (hd : d < 4294967296) (hx : x < 4294967296) : clampF a d x < 4294967296 := by
  unfold clampF; split
  · exact ha
  · split
    · exact hd
    · exact hx

end Go.Proofs.Ytiiogjjjgoeghaa

namespace Go.Proofs.Ytiiogjjjgoeghaa
open Go.Shelf
open Go.ChangeShapes Go.WideShapes Go.ChangeAt Go.RowKit
open Ieee.Format (fin finE htE allFin allHt all_true all_false finE_ok finE_bad htE_ok htE_far htE_bad mulF subF addF Ht scaleF)
set_option linter.unusedVariables false

theorem map_clamp_ht {X Y : Int} {Wn Hn : Nat} {l : List Nat} {x y : Nat} (hr : Right X Y Wn Hn l) (hx : Ht x) (hy : Ht y) : allHt (l.map (clampF x y)) = true := by
  refine Ieee.Format.allHt_iff.2 fun z hz => ?_
  obtain ⟨v, hv, rfl⟩ := List.mem_map.1 hz
  exact clampF_ht hx hy (hr.ht v hv)
theorem ht_lt {w : World} {a : Option Addr} {l : List Nat} (h : SRow w a l) (i : Nat) : l.getD i 0 < 4294967296 := by
  rcases Nat.lt_or_ge i l.length with hlt | hge
  · rw [List.getD_eq_getElem?_getD, List.getElem?_eq_getElem hlt]; exact h.1.2 _ (List.getElem_mem hlt)
  · rw [List.getD_eq_getElem?_getD, List.getElem?_eq_none hge]; show (0 : Nat) < 4294967296; decide

end Go.Proofs.Ytiiogjjjgoeghaa

namespace Go.Proofs.Ytiiogjjjgoeghaa
open Go.Shelf
open Go.ChangeShapes Go.WideShapes Go.ChangeAt Go.RowKit
open Ieee.Format (fin finE htE allFin allHt all_true all_false finE_ok finE_bad htE_ok htE_far htE_bad mulF subF addF Ht scaleF)
set_option linter.unusedVariables false

theorem and15 (n : Int) : ∃ k : Nat, k ≤ 15 ∧ bits .and .i64 n 15 = (k : Int) := by
  refine ⟨(BitVec.ofInt 64 n).toNat &&& 15, Nat.and_le_right, ?_⟩
  have hx : (BitVec.ofInt 64 n).toNat &&& 15 ≤ 15 := Nat.and_le_right
  show IntKind.i64.wrap ((BitVec.ofInt 64 n &&& BitVec.ofInt 64 15).toNat : Int) = _
  rw [BitVec.toNat_and, show (BitVec.ofInt 64 15).toNat = 15 from by decide, IntKind.wrap_i64]
  omega

theorem conv_all : (List.range 256).all (fun i => decide (floatOfInt .f32 (i : Int) % 2147483648 ≤ 1233125376 ∧ floatOfInt .f32 (i : Int) < 4294967296)) = true := by decide +kernel
theorem conv_ht {i : Nat} (h : i < 256) : Ht (floatOfInt .f32 (i : Int)) ∧ floatOfInt .f32 (i : Int) < 4294967296 := by
  have := List.all_eq_true.1 conv_all i (List.mem_range.2 h)
  exact of_decide_eq_true this
theorem made_zero {z : Value} {n : Nat} (hz : z = .float .f32 0) : (madeCells z.cells (n * 1)).toList = fls (List.replicate n 0) := by
  subst hz
  unfold madeCells fls
  refine List.ext_getElem? fun k => ?_
  by_cases hk : k < n
  · simp [Value.cells, hk, Nat.mod_one]
  · simp [Value.cells, hk]

/-- the loop of 'fit' -/
structure FitInv (w wr : World) (X Y P Q : Int) (v : Value) (g n i : Nat) (m : List Nat) : Prop where
  fo : Fld wr w.heap.size X Y P Q v
  rz : Fld wr (w.heap.size + 1) 0 0 0 0 (.slice none 0 0)
  own : OwnF wr w.heap.size g n m
  below : Below w.heap.size w wr
  len : m.length = n
  gg : w.heap.size + 1 < g
  ht : ∀ j, j < i → Ht (m.getD j 0)
theorem FitInv.set {w wr : World} {X Y P Q : Int} {v : Value} {g n i : Nat} {m : List Nat} (h : FitInv w wr X Y P Q v g n i m) (x : Nat) (hx : x < 4294967296) : FitInv w (wr.setCell ⟨g, i, none⟩ (.float .f32 x)) X Y P Q v g n i (m.set i x) := by
  have hg := h.gg
  refine ⟨h.fo.setCell (by simp; omega) _, h.rz.setCell (by simp; omega) _, h.own.store i x hx, Below.setCell h.below (by simp; omega) _, by rw [List.length_set]; exact h.len, hg, fun j hj => ?_⟩
  have := h.ht j hj
  rw [List.getD_eq_getElem?_getD, List.getElem?_set_ne (by omega), ← List.getD_eq_getElem?_getD]
  exact this
theorem FitInv.next {w wr : World} {X Y P Q : Int} {v : Value} {g n i : Nat} {m : List Nat} (h : FitInv w wr X Y P Q v g n i m) (hx : Ht (m.getD i 0)) : FitInv w wr X Y P Q v g n (i + 1) m := by
  refine ⟨h.fo, h.rz, h.own, h.below, h.len, h.gg, fun j hj => ?_⟩
  rcases Nat.lt_or_ge j i with hlt | hge
  · exact h.ht j hlt
  · have : j = i := by omega
    subst this; exact hx
theorem getD_set_self {m : List Nat} {i x : Nat} (h : i < m.length) : (m.set i x).getD i 0 = x := by
  rw [List.getD_eq_getElem?_getD, List.getElem?_set_self h]; rfl
theorem FitInv.alloc {w wr : World} {X Y P Q : Int} {v : Value} {g n i : Nat} {m : List Nat} (h : FitInv w wr X Y P Q v g n i m) (o : Obj) : FitInv w (wr.alloc o) X Y P Q v g n i m :=
  ⟨h.fo.alloc o, h.rz.alloc o, h.own.alloc o, Below.alloc h.below (by have := h.fo.lt; omega) o, h.len, h.gg, h.ht⟩
theorem FitInv.drew {w wr : World} {X Y P Q : Int} {v : Value} {g n i : Nat} {m : List Nat} (h : FitInv w wr X Y P Q v g n i m) : FitInv w wr.drew X Y P Q v g n i m :=
  ⟨h.fo, h.rz, h.own, h.below.drew, h.len, h.gg, h.ht⟩

/-- as SRow, of whatever length -/
def Row63 (w : World) (a : Option Addr) (l : List Nat) : Prop :=
  (l.length ≤ 9223372036854775807 ∧ ∀ x ∈ l, x < 4294967296) ∧ (l = [] ∨ ∃ b o, a = some ⟨b, o, none⟩ ∧ ∀ i, i < l.length → w.cell? ⟨b, o + i, none⟩ = some (.float .f32 (l.getD i 0)))
theorem Row63.below {w w' : World} {a : Option Addr} {l : List Nat} (h : Row63 w a l) (hb : Below w.heap.size w w') : Row63 w' a l := by
  obtain ⟨h1, h2⟩ := h
  refine ⟨h1, ?_⟩
  rcases h2 with h2 | ⟨b, o, rfl, hc⟩
  · exact .inl h2
  · refine .inr ⟨b, o, rfl, fun i hi => ?_⟩
    have h := hc i hi
    have hlt := World.block_lt_of_cell? _ _ h
    rw [hb.cell (p := ⟨b, o + i, none⟩) hlt]
    exact h
theorem Row63.at_ {w : World} {b o : Nat} {l : List Nat} (h : Row63 w (some ⟨b, o, none⟩) l) {k : Nat} (hk : k < l.length) : w.cell? ⟨b, o + k, none⟩ = some (.float .f32 (l.getD k 0)) := by
  rcases h.2 with h | ⟨b', o', e, hc⟩
  · subst h; simp at hk
  · cases e; exact hc k hk
theorem Row63.lt {w : World} {a : Option Addr} {l : List Nat} (h : Row63 w a l) (i : Nat) : l.getD i 0 < 4294967296 := by
  rcases Nat.lt_or_ge i l.length with hlt | hge
  · rw [List.getD_eq_getElem?_getD, List.getElem?_eq_getElem hlt]; exact h.1.2 _ (List.getElem_mem hlt)
  · rw [List.getD_eq_getElem?_getD, List.getElem?_eq_none hge]; show (0 : Nat) < 4294967296; decide

/-- what 'fit' gives -/
def FitP (w : World) (e : Ending) (w' : World) : Prop :=
  ∃ (X Y : Int) (Wn Hn : Nat) (g cap : Nat) (l : List Nat), e = .returned (fldV X Y Wn Hn (some ⟨g, 0, none⟩) l.length cap) ∧ Right X Y Wn Hn l ∧ (-5000 ≤ X ∧ X ≤ 5000 ∧ -5000 ≤ Y ∧ Y ≤ 5000 ∧ Wn ≤ 16 ∧ Hn ≤ 16) ∧ OwnF w' w.heap.size g cap l ∧ Below w.heap.size w w'
end Go.Proofs.Ytiiogjjjgoeghaa

namespace Go.Proofs.Ytiiogjjjgoeghaa
open Go.ChangeShapes Go.WideShapes Go.ChangeAt Go.RowKit
set_option linter.unusedVariables false

theorem trod_single {H : Type} {enc : TypeId × Value → H} {W : World} {fuel : Nat} {v : Value} {y : DataW H × List MemPlace}
    (h : DataW.trod enc Try.prog W 0 (fun _ => true) true fuel /-T-/27 [v] = some y) : ∃ b, v = .float .f32 b ∧ b < 4294967296 := by
  cases fuel with
  | zero => simp [DataW.trod] at h
  | succ n =>
    simp only [DataW.trod, Try.underlying27] at h
    cases v with
    | float k b =>
      by_cases hk : k = .f32 ∧ (Lit.float .f32 b).wf = true
      · obtain ⟨rfl, hw⟩ := hk
        exact ⟨b, rfl, by simpa [Lit.wf] using hw⟩
      · simp [hk] at h
    | _ => simp at h

theorem row_of {H : Type} {enc : TypeId × Value → H} {W : World} {fuel : Nat} {v : Value} {y : DataW H × List MemPlace}
    (h : DataW.trod enc Try.prog W 0 (fun _ => true) true fuel /-T-/24 [v] = some y) : ∃ a l cap, v = .slice a l.length cap ∧ Row63 W a l := by
  rcases Go.Deep.open_slice1 Try.underlying24 (by kernel_rfl) h with ⟨hcs, _⟩ | ⟨a, len, cap, m, n, V, D, Pl, hcs, _, hl, hm, hmm, hx, hc⟩
  · simp at hcs
    subst hcs
    exact ⟨none, [], 0, rfl, ⟨by simp, by simp⟩, .inl rfl⟩
  · simp at hcs
    subst hcs
    obtain rfl : m = cap := by simpa using hmm
    unfold maxLen at hm
    have hf : ∀ i, i < m → ∃ b, V i = .float .f32 b ∧ b < 4294967296 := fun i hi => trod_single (hc i hi).2
    let g : Nat → Nat := fun i => match V i with | .float _ b => b | _ => 0
    have hg : ∀ i, i < m → V i = .float .f32 (g i) ∧ g i < 4294967296 := by
      intro i hi
      obtain ⟨b, hb, hlt⟩ := hf i hi
      refine ⟨?_, ?_⟩ <;> (show _) <;> simp only [g, hb] <;> first | rfl | exact hlt
    have hlen : ((List.range len).map g).length = len := by simp
    refine ⟨some a, (List.range len).map g, m, by rw [hlen], ⟨by rw [hlen]; omega, ?_⟩, ?_⟩
    · intro x hx
      obtain ⟨i, hi, rfl⟩ := List.mem_map.1 hx
      exact (hg i (by have := List.mem_range.1 hi; omega)).2
    · by_cases h0 : len = 0
      · subst h0; exact .inl rfl
      · right
        obtain ⟨b, off, spot⟩ := a
        have hspot : spot = none := by simpa [Addr.add] using World.cell?_spot (hc 0 (by omega)).1
        subst hspot
        refine ⟨b, off, rfl, fun i hi => ?_⟩
        rw [hlen] at hi
        have h1 := (hc i (by omega)).1
        rw [Go.WideShapes.add_plain, (hg i (by omega)).1] at h1
        rw [h1]
        simp [List.getD_eq_getElem?_getD, List.getElem?_map, List.getElem?_range hi]

theorem array5 {α : Type} {cs : Array α} (h : cs.size = 5) : ∃ c0 c1 c2 c3 c4, cs = #[c0, c1, c2, c3, c4] := by
  obtain ⟨l⟩ := cs
  match l, h with
  | [c0, c1, c2, c3, c4], _ => exact ⟨c0, c1, c2, c3, c4, rfl⟩
theorem cells66 : Try.prog.cellsOf /-T-/26 = 5 := by kernel_rfl
theorem cells30 : Try.prog.cellsOf /-T-/23 = 4 := by kernel_rfl
theorem cells64 : Try.prog.cellsOf /-T-/24 = 1 := by kernel_rfl
theorem cells3 : Try.prog.cellsOf /-T-/3 = 1 := by kernel_rfl

set_option maxRecDepth 100000 in
/-- a field that came in -/
theorem open_field {H : Type} {enc : TypeId × Value → H} {W : World} {r : Reach} {b0 : Nat} {v : Value} {d : DataW H} {p : List MemPlace}
    (hv : Value.okWide Try.prog W r b0 /-T-/26 v) (h : DataW.Trod enc Try.prog W 0 (fun _ => true) true /-T-/26 v d p) :
    ∃ (X Y A B : Int) (a : Option Addr) (l : List Nat) (cap : Nat), v = fldV X Y A B a l.length cap ∧ Row63 W a l ∧ ((Lit.int .i64 X).wf = true ∧ (Lit.int .i64 Y).wf = true ∧ (Lit.int .i64 A).wf = true ∧ (Lit.int .i64 B).wf = true) := by
  obtain ⟨cs, rfl, hsz⟩ := okWide_struct Try.underlying26 hv
  obtain ⟨c0, c1, c2, c3, c4, rfl⟩ := array5 (hsz.trans cells66)
  obtain ⟨fuel, hf⟩ := h
  obtain ⟨y0, y1, n, hx, _, h0, h1⟩ := trod_struct2 Try.underlying26 hf
  simp only [Value.cells, cells30, cells64] at h0 h1
  obtain ⟨a, l, cap, e4, hr⟩ := row_of (v := c4) (by simpa using h1)
  obtain ⟨z0, z1, z2, z3, n2, hx2, _, g0, g1, g2, g3⟩ := Joins.trod_struct4 Try.underlying23 h0
  simp only [cells3] at g0 g1 g2 g3
  obtain ⟨X, e0, _, wx⟩ := DataW.trod_int Try.underlying3 g0
  obtain ⟨Y, e1, _, wy⟩ := DataW.trod_int Try.underlying3 g1
  obtain ⟨A, e2, _, wa⟩ := DataW.trod_int Try.underlying3 g2
  obtain ⟨B, e3, _, wb⟩ := DataW.trod_int Try.underlying3 g3
  simp at e0 e1 e2 e3
  subst e0 e1 e2 e3 e4
  exact ⟨X, Y, A, B, a, l, cap, rfl, hr, wx, wy, wa, wb⟩
end Go.Proofs.Ytiiogjjjgoeghaa

namespace Go.Proofs.Ytiiogjjjgoeghaa
open Go.Shelf
open Go.ChangeShapes Go.WideShapes Go.ChangeAt Go.RowKit
open Ieee.Format (fin finE htE allFin allHt all_true all_false finE_ok finE_bad htE_ok htE_far htE_bad mulF subF addF Ht scaleF)
set_option linter.unusedVariables false

/-- a field with its error: no field with an error, or the field of these values -/
def OutV (c : Int) (X Y W H : Int) (m : List Nat) (w : World) (B : Nat) (x y p q : Int) (a : Option Addr) (n k : Nat) : Prop :=
  (c ≠ 0 ∧ x = 0 ∧ y = 0 ∧ p = 0 ∧ q = 0 ∧ a = none ∧ n = 0 ∧ k = 0) ∨ (c = 0 ∧ x = X ∧ y = Y ∧ p = W ∧ q = H ∧ ∃ g, a = some ⟨g, 0, none⟩ ∧ n = m.length ∧ OwnF w B g k m)
theorem OutV.below {c X Y W H : Int} {m : List Nat} {w w' : World} {B : Nat} {x y p q : Int} {a : Option Addr} {n k : Nat} (h : OutV c X Y W H m w B x y p q a n k) (hb : Below w.heap.size w w') : OutV c X Y W H m w' B x y p q a n k := by
  rcases h with h | ⟨h0, h1, h2, h3, h4, g, h5, h6, h7⟩
  · exact .inl h
  · exact .inr ⟨h0, h1, h2, h3, h4, g, h5, h6, h7.below hb h7.lt.2⟩
def OpP (c : Int) (X Y W H : Int) (m : List Nat) (w : World) (e : Ending) (w' : World) : Prop :=
  (∃ x y p q a n k, e = .returned (.tuple #[fldV x y p q a n k, .int .i64 c]) ∧ OutV c X Y W H m w' w.heap.size x y p q a n k) ∧ Below w.heap.size w w'

theorem OpP.err {c X Y W H : Int} {m : List Nat} {w : World} {e : Ending} {w' : World} (hc : c ≠ 0) (he : e = .returned (.tuple #[fldV 0 0 0 0 none 0 0, .int .i64 c])) (hb : Below w.heap.size w w') : OpP c X Y W H m w e w' :=
  ⟨⟨0, 0, 0, 0, none, 0, 0, he, .inl ⟨hc, rfl, rfl, rfl, rfl, rfl, rfl, rfl⟩⟩, hb⟩
theorem ResP.op {X Y W H : Int} {m : List Nat} {w : World} {e : Ending} {w' : World} (h : ResP X Y W H m w e w') : OpP (if allHt m = true then 0 else 3) X Y W H m w e w' := by
  obtain ⟨h1, h2, h3⟩ := h
  by_cases hh : allHt m = true
  · rw [if_pos hh]
    obtain ⟨g, cap, he, ho⟩ := h1 hh
    exact ⟨⟨X, Y, W, H, _, _, cap, he, .inr ⟨rfl, rfl, rfl, rfl, rfl, g, rfl, rfl, ho⟩⟩, h3⟩
  · rw [if_neg hh]
    exact OpP.err (by decide) (h2 (by simpa using hh)) h3

def scaleC (s t : Nat) (l : List Nat) : Int := if htE [s, t] ≠ 0 then htE [s, t] else if allHt (l.map (scaleF s t)) = true then 0 else 3
def clampC (s t : Nat) : Int := if htE [s, t] ≠ 0 then htE [s, t] else if (Go.FloatKind.f32.format.order s t == some .gt) = true then 8 else 0

theorem clamp_c {X Y : Int} {Wn Hn : Nat} {l : List Nat} {x y : Nat} (hr : Right X Y Wn Hn l) (h : htE [x, y] = 0) : (if allHt (l.map (clampF x y)) = true then (0 : Int) else 3) = 0 := by
  have hts := Ieee.Format.allHt_iff.1 (Ieee.Format.htE_zero h)
  exact if_pos (map_clamp_ht hr (hts x (by simp)) (hts y (by simp)))
end Go.Proofs.Ytiiogjjjgoeghaa

namespace Go.Proofs.Ytiiogjjjgoeghaa
open Go.Shelf
open Go.ChangeShapes Go.WideShapes Go.ChangeAt Go.RowKit
open Ieee.Format (fin finE htE allFin allHt all_true all_false finE_ok finE_bad htE_ok htE_far htE_bad mulF subF addF Ht scaleF)
set_option linter.unusedVariables false

theorem fld_store (w : World) (k : Nat) (X Y A B : Int) (v : Value) (x y p q : Int) (u : Value) (h : Fld w k X Y A B v) :
    ∀ W', W' = ((((w.setCell ⟨k, 0, none⟩ (.int .i64 x)).setCell ⟨k, 1, none⟩ (.int .i64 y)).setCell ⟨k, 2, none⟩ (.int .i64 p)).setCell ⟨k, 3, none⟩ (.int .i64 q)).setCell ⟨k, 4, none⟩ u →
    Fld W' k x y p q u ∧ Below k w W' ∧ (∀ g B cap l, OwnF w B g cap l → g ≠ k → OwnF W' B g cap l) ∧ (∀ j X Y A B v, Fld w j X Y A B v → j ≠ k → Fld W' j X Y A B v) ∧ W'.heap.size = w.heap.size := by
  rintro _ rfl
  refine ⟨((((h.set0 x).set1 y).set2 p).set3 q).set4 u, (by repeat (first | with_reducible exact Below.refl _ _ | with_reducible apply Below.drew | with_reducible refine below_drewN ?_ _ | (with_reducible refine Below.setCell ?_ ?_ _; rotate_left; focus (first | omega | (simp <;> omega))) | (with_reducible refine Below.alloc ?_ ?_ _; rotate_left; focus (first | omega | (simp <;> omega))))), fun g B cap l ho hg => ?_, fun j X Y A B v hj hk => ?_, by simp⟩
  · exact ((((ho.setCell (by simpa using hg) _).setCell (by simpa using hg) _).setCell (by simpa using hg) _).setCell (by simpa using hg) _).setCell (by simpa using hg) _
  · exact ((((hj.setCell (by simpa using hk) _).setCell (by simpa using hk) _).setCell (by simpa using hk) _).setCell (by simpa using hk) _).setCell (by simpa using hk) _

theorem OutV.set {c X Y W H : Int} {m : List Nat} {w w' : World} {B j : Nat} {x y p q : Int} {a : Option Addr} {n k : Nat} (h : OutV c X Y W H m w B x y p q a n k)
    (hs : ∀ g B cap l, OwnF w B g cap l → g ≠ j → OwnF w' B g cap l) (hj : j < B) : OutV c X Y W H m w' B x y p q a n k := by
  rcases h with h | ⟨h0, h1, h2, h3, h4, g, h5, h6, h7⟩
  · exact .inl h
  · exact .inr ⟨h0, h1, h2, h3, h4, g, h5, h6, hs _ _ _ _ h7 (by have := h7.lt.1; omega)⟩
theorem SRow.under {w w' : World} {g B : Nat} {l : List Nat} (h : SRow w (some ⟨g, 0, none⟩) l) (hb : Below B w w') (hg : g < B) : SRow w' (some ⟨g, 0, none⟩) l := by
  obtain ⟨h1, h2⟩ := h
  refine ⟨h1, ?_⟩
  rcases h2 with h2 | ⟨b, o, e, hc⟩
  · exact .inl h2
  · obtain ⟨rfl, rfl⟩ : g = b ∧ 0 = o := by simpa using e
    refine .inr ⟨g, 0, rfl, fun i hi => ?_⟩
    rw [hb.cell (p := ⟨g, 0 + i, none⟩) hg]
    exact hc i hi

end Go.Proofs.Ytiiogjjjgoeghaa

namespace Go.Proofs.Ytiiogjjjgoeghaa
open Go.ChangeShapes Go.WideShapes Go.ChangeAt Go.RowKit
open Ieee.Format (fin finE htE allFin allHt all_true all_false finE_ok finE_bad htE_ok htE_far htE_bad mulF subF addF)
set_option linter.unusedVariables false

/-- the loops of field.Make: the field lies in block 'k5', its row in another one -/
structure MakeInv (w wr : World) (k5 : Nat) (X Y W H : Int) (v : Value) (m : List Nat) : Prop where
  rg : Reg wr w.heap.size X Y W H
  rz : Fld wr (w.heap.size + 1) 0 0 0 0 (.slice none 0 0)
  fo : Fld wr k5 X Y W H v
  k5g : w.heap.size + 2 ≤ k5
  ne : v.ownBlock ≠ some k5
  own : wr.ownsRow (w.heap.size + 2) /-T-/27 1 v m.length (fls m)
  wf : ∀ x ∈ m, x < 4294967296
  below : Below w.heap.size w wr

theorem MakeInv.call {w wr w2 : World} {k5 : Nat} {X Y W H : Int} {v : Value} {m : List Nat} (h : MakeInv w wr k5 X Y W H v m) (hb : Below wr.drew.heap.size wr.drew w2) : MakeInv w w2 k5 X Y W H v m :=
  ⟨h.rg.drew.below hb h.rg.lt, h.rz.drew.below hb h.rz.lt, h.fo.drew.below hb h.fo.lt, h.k5g, h.ne, ownsRow_below (w := wr.drew) h.own hb (fun k hk => (h.own.lt k hk).2), h.wf,
    (h.below.drew).trans (hb.mono (show w.heap.size ≤ wr.heap.size from h.below.size))⟩

theorem MakeInv.mid {w w2 w3 : World} {k5 : Nat} {X Y W H : Int} {v : Value} {m : List Nat} {o : Obj} (h : MakeInv w w2 k5 X Y W H v m) (hg : (w2.alloc o).grownBy w3 v.ownBlock) :
    Reg w3 w.heap.size X Y W H ∧ Fld w3 (w.heap.size + 1) 0 0 0 0 (.slice none 0 0) ∧ Fld w3 k5 X Y W H v ∧ Below w.heap.size w w3 := by
  have hne : ∀ k, k < w.heap.size + 2 → some k ≠ v.ownBlock := fun k hk e => by
    have := (h.own.lt k e.symm).1; omega
  refine ⟨(h.rg.alloc o).grown hg (hne _ (by omega)), (h.rz.alloc o).grown hg (hne _ (by omega)), (h.fo.alloc o).grown hg (fun e => h.ne e.symm), ?_⟩
  have hz := h.below.size
  refine (h.below.alloc hz o).grown hg (by simp; omega) (fun k hk => ?_)
  have := (h.own.lt k hk).1
  omega

theorem MakeInv.app {w w2 w3 : World} {k5 : Nat} {X Y W H : Int} {v : Value} {m : List Nat} {o : Obj} (h : MakeInv w w2 k5 X Y W H v m) {y g cap : Nat} (hy : y < 4294967296)
    (hown : w3.ownsRow (w.heap.size + 2) /-T-/27 1 (.slice (some ⟨g, 0, none⟩) (m.length + 1) cap) (m.length + 1) (fls m ++ [.float .f32 y])) (hg : (w2.alloc o).grownBy w3 v.ownBlock) (hgk : g ≠ k5) :
    MakeInv w (w3.setCell ⟨k5, 4, none⟩ (.slice (some ⟨g, 0, none⟩) (m.length + 1) cap)) k5 X Y W H (.slice (some ⟨g, 0, none⟩) (m.length + 1) cap) (m ++ [y]) := by
  obtain ⟨a, b, c, d⟩ := h.mid hg
  have hgl := (hown.lt g rfl).1
  have hk5 := h.k5g
  refine ⟨a.setCell (by show w.heap.size ≠ k5; omega) _, b.setCell (by show w.heap.size + 1 ≠ k5; omega) _, c.set4 _, hk5, (by simp [Value.ownBlock]; exact hgk), ?_, ?_, d.setCell (by show w.heap.size ≤ k5; omega) _⟩
  · have e : fls (m ++ [y]) = fls m ++ [.float .f32 y] := by unfold fls; simp
    have e2 : (m ++ [y]).length = m.length + 1 := by simp
    rw [e, e2]
    refine ⟨hown.1, ?_⟩
    rcases hown.2 with h2 | ⟨g', cap', cur, hv, hB, hh, r⟩
    · exact .inl h2
    · have : g' = g := by simp at hv; exact hv.1.symm
      subst this
      exact .inr ⟨g', cap', cur, hv, hB, (Below.heap_setCell w3 _ _ g' hgk).trans hh, r⟩
  · intro x hx
    rcases List.mem_append.1 hx with hx | hx
    · exact h.wf x hx
    · have : x = y := by simpa using hx
      rw [this]; exact hy
end Go.Proofs.Ytiiogjjjgoeghaa

namespace Go.Proofs.Ytiiogjjjgoeghaa
open Go.ChangeShapes Go.WideShapes Go.ChangeAt Go.RowKit
open Ieee.Format (fin finE htE allFin allHt all_true all_false finE_ok finE_bad htE_ok htE_far htE_bad mulF subF addF)
set_option linter.unusedVariables false

set_option maxRecDepth 100000 in
theorem make_law (i0 : TypeInfo) (hi : Try.prog.info? /-T-/27 = some i0) (hz0 : i0.zero = some (.float .f32 0)) (hz1 : i0.size = 1) (hz2 : i0.bytes = 4) (n : Nat) (hn : n ≤ 262144) :
    ∃ o : Obj, (∀ w : World, (Instr.makeSlice /-T-/24 (.int .i64 0) (.int .i64 (n : Int))).run Try.prog w = .ok (.slice (some ⟨w.heap.size, 0, none⟩) 0 n) (w.alloc o)) ∧
      ∀ (w : World) (B : Nat), B ≤ w.heap.size → (w.alloc o).ownsRow B /-T-/27 1 (.slice (some ⟨w.heap.size, 0, none⟩) 0 n) 0 [] := by
  refine ⟨.cells (madeCells (Value.cells (.float .f32 0)) (n * i0.size)) /-T-/27, fun w => ?_, fun w B hB => ?_⟩
  · have hr := run_make (P := Try.prog) w /-T-/24 /-T-/27 i0 (.float .f32 0) (by rfl) hi hz0 .i64 .i64 0 n (Int.le_refl _) (by omega) (by rw [hz2]; omega) (by omega)
    simp only [Int.toNat_zero, Int.toNat_natCast] at hr
    exact hr
  · rw [hz1]
    exact World.ownsRow_made w _ n hB (by unfold maxLen; omega) (size_madeCells _ _)

theorem make_start1 (w : World) (X Y W H : Int) (oM : Obj) (n : Nat) (hm : ∀ (w : World) (B : Nat), B ≤ w.heap.size → (w.alloc oM).ownsRow B /-T-/27 1 (.slice (some ⟨w.heap.size, 0, none⟩) 0 n) 0 []) :
    ∀ W0, W0 = ((((w.alloc (.cells #[.int .i64 X, .int .i64 Y, .int .i64 W, .int .i64 H] /-T-/23)).alloc (.cells #[.int .i64 0, .int .i64 0, .int .i64 0, .int .i64 0, .slice none 0 0] /-T-/26)).alloc (.cells #[.int .i64 X, .int .i64 Y, .int .i64 W, .int .i64 H, .slice (some ⟨w.heap.size + 1 + 1 + 1, 0, none⟩) 0 n] /-T-/26)).alloc oM) →
    MakeInv w W0 (w.heap.size + 1 + 1) X Y W H (.slice (some ⟨w.heap.size + 1 + 1 + 1, 0, none⟩) 0 n) [] := by
  rintro _ rfl
  refine ⟨(((Reg.new w X Y W H).alloc _).alloc _).alloc _, ?_, ?_, by omega, by simp [Value.ownBlock], ?_, by simp, (by repeat (first | with_reducible exact Below.refl _ _ | with_reducible apply Below.drew | with_reducible refine below_drewN ?_ _ | (with_reducible refine Below.setCell ?_ ?_ _; rotate_left; focus (first | omega | (simp <;> omega))) | (with_reducible refine Below.alloc ?_ ?_ _; rotate_left; focus (first | omega | (simp <;> omega)))))⟩
  · have := ((Fld.new (w.alloc (.cells #[.int .i64 X, .int .i64 Y, .int .i64 W, .int .i64 H] /-T-/23)) 0 0 0 0 (.slice none 0 0)).alloc (.cells #[.int .i64 X, .int .i64 Y, .int .i64 W, .int .i64 H, .slice (some ⟨w.heap.size + 1 + 1 + 1, 0, none⟩) 0 n] /-T-/26)).alloc oM
    simpa using this
  · have := (Fld.new ((w.alloc (.cells #[.int .i64 X, .int .i64 Y, .int .i64 W, .int .i64 H] /-T-/23)).alloc (.cells #[.int .i64 0, .int .i64 0, .int .i64 0, .int .i64 0, .slice none 0 0] /-T-/26)) X Y W H (.slice (some ⟨w.heap.size + 1 + 1 + 1, 0, none⟩) 0 n)).alloc oM
    simpa using this
  · have := hm (((w.alloc (.cells #[.int .i64 X, .int .i64 Y, .int .i64 W, .int .i64 H] /-T-/23)).alloc (.cells #[.int .i64 0, .int .i64 0, .int .i64 0, .int .i64 0, .slice none 0 0] /-T-/26)).alloc (.cells #[.int .i64 X, .int .i64 Y, .int .i64 W, .int .i64 H, .slice (some ⟨w.heap.size + 1 + 1 + 1, 0, none⟩) 0 n] /-T-/26)) (w.heap.size + 2) (by simp)
    simpa [fls] using this
theorem make_start2 (w : World) (X Y W H : Int) (oM : Obj) (n : Nat) (hm : ∀ (w : World) (B : Nat), B ≤ w.heap.size → (w.alloc oM).ownsRow B /-T-/27 1 (.slice (some ⟨w.heap.size, 0, none⟩) 0 n) 0 []) :
    ∀ W0, W0 = ((((w.alloc (.cells #[.int .i64 X, .int .i64 Y, .int .i64 W, .int .i64 H] /-T-/23)).alloc (.cells #[.int .i64 0, .int .i64 0, .int .i64 0, .int .i64 0, .slice none 0 0] /-T-/26)).alloc oM).alloc (.cells #[.int .i64 X, .int .i64 Y, .int .i64 W, .int .i64 H, .slice (some ⟨w.heap.size + 1 + 1, 0, none⟩) 0 n] /-T-/26)) →
    MakeInv w W0 (w.heap.size + 1 + 1 + 1) X Y W H (.slice (some ⟨w.heap.size + 1 + 1, 0, none⟩) 0 n) [] := by
  rintro _ rfl
  refine ⟨(((Reg.new w X Y W H).alloc _).alloc _).alloc _, ?_, ?_, by omega, by simp [Value.ownBlock], ?_, by simp, (by repeat (first | with_reducible exact Below.refl _ _ | with_reducible apply Below.drew | with_reducible refine below_drewN ?_ _ | (with_reducible refine Below.setCell ?_ ?_ _; rotate_left; focus (first | omega | (simp <;> omega))) | (with_reducible refine Below.alloc ?_ ?_ _; rotate_left; focus (first | omega | (simp <;> omega)))))⟩
  · have := ((Fld.new (w.alloc (.cells #[.int .i64 X, .int .i64 Y, .int .i64 W, .int .i64 H] /-T-/23)) 0 0 0 0 (.slice none 0 0)).alloc oM).alloc (.cells #[.int .i64 X, .int .i64 Y, .int .i64 W, .int .i64 H, .slice (some ⟨w.heap.size + 1 + 1, 0, none⟩) 0 n] /-T-/26)
    simpa using this
  · have := Fld.new (((w.alloc (.cells #[.int .i64 X, .int .i64 Y, .int .i64 W, .int .i64 H] /-T-/23)).alloc (.cells #[.int .i64 0, .int .i64 0, .int .i64 0, .int .i64 0, .slice none 0 0] /-T-/26)).alloc oM) X Y W H (.slice (some ⟨w.heap.size + 1 + 1, 0, none⟩) 0 n)
    simpa using this
  · have h := hm ((w.alloc (.cells #[.int .i64 X, .int .i64 Y, .int .i64 W, .int .i64 H] /-T-/23)).alloc (.cells #[.int .i64 0, .int .i64 0, .int .i64 0, .int .i64 0, .slice none 0 0] /-T-/26)) (w.heap.size + 2) (by simp)
    have := World.ownsRow.alloc h (.cells #[.int .i64 X, .int .i64 Y, .int .i64 W, .int .i64 H, .slice (some ⟨w.heap.size + 1 + 1, 0, none⟩) 0 n] /-T-/26)
    simpa [fls] using this

theorem MakeInv.drew {w wr : World} {k5 : Nat} {X Y W H : Int} {v : Value} {m : List Nat} (h : MakeInv w wr k5 X Y W H v m) : MakeInv w wr.drew k5 X Y W H v m :=
  ⟨h.rg, h.rz, h.fo, h.k5g, h.ne, h.own, h.wf, h.below.drew⟩
/-- what field.Make gives -/
def MakeP (X Y W H : Int) (m : List Nat) (w : World) (e : Ending) (w' : World) : Prop :=
  (∃ g cap, e = .returned (fldV X Y W H (some ⟨g, 0, none⟩) m.length cap) ∧ OwnF w' w.heap.size g cap m) ∧ Below w.heap.size w w'

end Go.Proofs.Ytiiogjjjgoeghaa

namespace Go.Proofs.Ytiiogjjjgoeghaa
open Go.ChangeShapes Go.WideShapes Go.ChangeAt Go.RowKit
open Ieee.Format (fin finE htE allFin allHt all_true all_false finE_ok finE_bad htE_ok htE_far htE_bad mulF subF addF)
set_option linter.unusedVariables false

/-- below block B, all blocks but one are as they were -/
structure But (B : Nat) (q : Nat → Prop) (w w' : World) : Prop where
  os : w'.os = w.os
  tape : w'.tape = w.tape
  output : w'.output = w.output
  size : w.heap.size ≤ w'.heap.size
  block : ∀ k, k < B → ¬ q k → w'.heap[k]? = w.heap[k]?
theorem But.of {B : Nat} {q : Nat → Prop} {w w' : World} (h : Below B w w') : But B q w w' := ⟨h.os, h.tape, h.output, h.size, fun k hk _ => h.block k hk⟩
theorem But.trans {B : Nat} {q : Nat → Prop} {a b c : World} (h : But B q a b) (k : But B q b c) : But B q a c :=
  ⟨k.os.trans h.os, k.tape.trans h.tape, k.output.trans h.output, Nat.le_trans h.size k.size, fun i hi hq => (k.block i hi hq).trans (h.block i hi hq)⟩
theorem But.mono {B B' : Nat} {q : Nat → Prop} {w w' : World} (h : But B q w w') (hB : B' ≤ B) : But B' q w w' := ⟨h.os, h.tape, h.output, h.size, fun k hk hq => h.block k (Nat.lt_of_lt_of_le hk hB) hq⟩
/-- what came after w is not the block -/
theorem But.cell {B : Nat} {q : Nat → Prop} {w w' : World} (h : But B q w w') {p : Addr} (hp : p.block < B) (hq : ¬ q p.block) : w'.cell? p = w.cell? p := by
  have hb := h.block p.block hp hq
  exact World.cell?_of_block hb
theorem But.below {B : Nat} {w w' : World} (h : But B (fun _ => False) w w') : Below B w w' := ⟨h.os, h.tape, h.output, h.size, fun k hk => h.block k hk (by simp)⟩

/-- the loops of field.Make: the field lies in block 'k5', its row in another one -/
structure MakeSt (q : Nat → Prop) (J : World → Prop) (w wr : World) (k5 : Nat) (X Y W H : Int) (v : Value) (m : List Nat) : Prop where
  rg : Reg wr w.heap.size X Y W H
  rz : Fld wr (w.heap.size + 1) 0 0 0 0 (.slice none 0 0)
  fo : Fld wr k5 X Y W H v
  k5g : w.heap.size + 2 ≤ k5
  ne : v.ownBlock ≠ some k5
  own : wr.ownsRow (w.heap.size + 2) /-T-/27 1 v m.length (fls m)
  wf : ∀ x ∈ m, x < 4294967296
  below : But w.heap.size q w wr
  st : J wr

theorem MakeSt.call {q : Nat → Prop} {J J' : World → Prop} {w wr w2 : World} {k5 : Nat} {X Y W H : Int} {v : Value} {m : List Nat} (h : MakeSt q J w wr k5 X Y W H v m) (hq : ∀ k, q k → k < w.heap.size) (hb : But wr.drew.heap.size q wr.drew w2) (hj : J' w2) : MakeSt q J' w w2 k5 X Y W H v m := by
  have hne : ∀ k, w.heap.size ≤ k → ¬ q k := fun k hk e => by have := hq k e; omega
  have hk := h.k5g
  refine ⟨(hb.block _ h.rg.drew.lt (hne _ (by omega))).trans h.rg, (hb.block _ h.rz.drew.lt (hne _ (by omega))).trans h.rz, (hb.block _ h.fo.drew.lt (hne _ (by omega))).trans h.fo, h.k5g, h.ne, ?_, h.wf, ?_, hj⟩
  · refine ⟨h.own.1, ?_⟩
    rcases h.own.2 with h2 | ⟨g, cap, cur, rfl, hB, hh, r⟩
    · exact .inl h2
    · exact .inr ⟨g, cap, cur, rfl, hB, (hb.block g (h.own.lt g rfl).2 (hne _ (by omega))).trans hh, r⟩
  · exact h.below.trans ((But.of (Below.refl _ _).drew).trans (hb.mono (show w.heap.size ≤ wr.heap.size from h.below.size)))

theorem MakeSt.mid {q : Nat → Prop} {J : World → Prop} {w w2 w3 : World} {k5 : Nat} {X Y W H : Int} {v : Value} {m : List Nat} {o : Obj} (h : MakeSt q J w w2 k5 X Y W H v m) (hst : ∀ W W', w.heap.size ≤ W.heap.size → J W → Below w.heap.size W W' → J W') (hg : (w2.alloc o).grownBy w3 v.ownBlock) :
    Reg w3 w.heap.size X Y W H ∧ Fld w3 (w.heap.size + 1) 0 0 0 0 (.slice none 0 0) ∧ Fld w3 k5 X Y W H v ∧ But w.heap.size q w w3 ∧ J w3 := by
  have hne : ∀ k, k < w.heap.size + 2 → some k ≠ v.ownBlock := fun k hk e => by
    have := (h.own.lt k e.symm).1; omega
  have hz := h.below.size
  have hb : Below w.heap.size w2 w3 := by
    refine ((Below.refl w.heap.size w2).alloc hz o).grown hg (by simp; omega) (fun k hk => ?_)
    have := (h.own.lt k hk).1
    omega
  exact ⟨(h.rg.alloc o).grown hg (hne _ (by omega)), (h.rz.alloc o).grown hg (hne _ (by omega)), (h.fo.alloc o).grown hg (fun e => h.ne e.symm), h.below.trans (But.of hb), hst _ _ hz h.st hb⟩

theorem MakeSt.app {q : Nat → Prop} {J : World → Prop} {w w2 w3 : World} {k5 : Nat} {X Y W H : Int} {v : Value} {m : List Nat} {o : Obj} (h : MakeSt q J w w2 k5 X Y W H v m) (hst : ∀ W W', w.heap.size ≤ W.heap.size → J W → Below w.heap.size W W' → J W') {y g cap : Nat} (hy : y < 4294967296)
    (hown : w3.ownsRow (w.heap.size + 2) /-T-/27 1 (.slice (some ⟨g, 0, none⟩) (m.length + 1) cap) (m.length + 1) (fls m ++ [.float .f32 y])) (hg : (w2.alloc o).grownBy w3 v.ownBlock) (hgk : g ≠ k5) :
    MakeSt q J w (w3.setCell ⟨k5, 4, none⟩ (.slice (some ⟨g, 0, none⟩) (m.length + 1) cap)) k5 X Y W H (.slice (some ⟨g, 0, none⟩) (m.length + 1) cap) (m ++ [y]) := by
  obtain ⟨a, b, c, d, e⟩ := h.mid hst hg
  have hgl := (hown.lt g rfl).1
  have hk5 := h.k5g
  refine ⟨a.setCell (by show w.heap.size ≠ k5; omega) _, b.setCell (by show w.heap.size + 1 ≠ k5; omega) _, c.set4 _, hk5, (by simp [Value.ownBlock]; exact hgk), ?_, ?_, d.trans (But.of (Below.setCell (Below.refl _ _) (by show w.heap.size ≤ k5; omega) _)), hst _ _ d.size e (Below.setCell (Below.refl _ _) (by show w.heap.size ≤ k5; omega) _)⟩
  · have e : fls (m ++ [y]) = fls m ++ [.float .f32 y] := by unfold fls; simp
    have e2 : (m ++ [y]).length = m.length + 1 := by simp
    rw [e, e2]
    refine ⟨hown.1, ?_⟩
    rcases hown.2 with h2 | ⟨g', cap', cur, hv, hB, hh, r⟩
    · exact .inl h2
    · have : g' = g := by simp at hv; exact hv.1.symm
      subst this
      exact .inr ⟨g', cap', cur, hv, hB, (Below.heap_setCell w3 _ _ g' hgk).trans hh, r⟩
  · intro x hx
    rcases List.mem_append.1 hx with hx | hx
    · exact h.wf x hx
    · have : x = y := by simpa using hx
      rw [this]; exact hy
theorem MakeInv.state {w wr : World} {k5 : Nat} {X Y W H : Int} {v : Value} {m : List Nat} (h : MakeInv w wr k5 X Y W H v m) (q : Nat → Prop) (J : World → Prop) (hj : J wr) : MakeSt q J w wr k5 X Y W H v m :=
  ⟨h.rg, h.rz, h.fo, h.k5g, h.ne, h.own, h.wf, But.of h.below, hj⟩

/-- what field.Make gives, where the function keeps a state -/
def MakeSP (q : Nat → Prop) (J : World → Prop) (X Y W H : Int) (m : List Nat) (w : World) (e : Ending) (w' : World) : Prop :=
  (∃ g cap, e = .returned (fldV X Y W H (some ⟨g, 0, none⟩) m.length cap) ∧ OwnF w' w.heap.size g cap m) ∧ But w.heap.size q w w' ∧ J w'

end Go.Proofs.Ytiiogjjjgoeghaa

namespace Go.Proofs.Ytiiogjjjgoeghaa
open Go.Shelf
open Go.ChangeShapes Go.WideShapes Go.ChangeAt Go.RowKit
open Ieee.Format (fin finE htE allFin allHt all_true all_false finE_ok finE_bad htE_ok htE_far htE_bad mulF subF addF)
set_option linter.unusedVariables false

structure MadeSt (q : Nat → Prop) (J : World → Prop) (w wr : World) (X Y W H : Int) (v : Value) (m : List Nat) : Prop where
  rg : Reg wr w.heap.size X Y W H
  rz : Fld wr (w.heap.size + 1) 0 0 0 0 (.slice none 0 0)
  fo : Fld wr (w.heap.size + 1 + 1) X Y W H v
  own : wr.ownsRow (w.heap.size + 3) /-T-/27 1 v m.length (fls m)
  wf : ∀ x ∈ m, x < 4294967296
  below : But w.heap.size q w wr
  st : J wr
theorem MadeInv.state {w wr : World} {X Y W H : Int} {v : Value} {m : List Nat} (h : MadeInv w wr X Y W H v m) (q : Nat → Prop) (J : World → Prop) (hj : J wr) : MadeSt q J w wr X Y W H v m :=
  ⟨h.rg, h.rz, h.fo, h.own, h.wf, But.of h.below, hj⟩
theorem MadeSt.call {q : Nat → Prop} {J J' : World → Prop} {w wr w2 : World} {X Y W H : Int} {v : Value} {m : List Nat} (h : MadeSt q J w wr X Y W H v m) (hq : ∀ k, q k → k < w.heap.size) (hb : But wr.drew.heap.size q wr.drew w2) (hj : J' w2) : MadeSt q J' w w2 X Y W H v m := by
  have hne : ∀ k, w.heap.size ≤ k → ¬ q k := fun k hk e => by have := hq k e; omega
  refine ⟨(hb.block _ h.rg.drew.lt (hne _ (by omega))).trans h.rg, (hb.block _ h.rz.drew.lt (hne _ (by omega))).trans h.rz, (hb.block _ h.fo.drew.lt (hne _ (by omega))).trans h.fo, ?_, h.wf, ?_, hj⟩
  · refine ⟨h.own.1, ?_⟩
    rcases h.own.2 with h2 | ⟨g, cap, cur, rfl, hB, hh, r⟩
    · exact .inl h2
    · exact .inr ⟨g, cap, cur, rfl, hB, (hb.block g (h.own.lt g rfl).2 (hne _ (by omega))).trans hh, r⟩
  · exact h.below.trans ((But.of (Below.refl _ _).drew).trans (hb.mono (show w.heap.size ≤ wr.heap.size from h.below.size)))
theorem MadeSt.mid {q : Nat → Prop} {J : World → Prop} {w w2 w3 : World} {X Y W H : Int} {v : Value} {m : List Nat} {o : Obj} (h : MadeSt q J w w2 X Y W H v m) (hst : ∀ W W', w.heap.size ≤ W.heap.size → J W → Below w.heap.size W W' → J W') (hg : (w2.alloc o).grownBy w3 v.ownBlock) :
    Reg w3 w.heap.size X Y W H ∧ Fld w3 (w.heap.size + 1) 0 0 0 0 (.slice none 0 0) ∧ Fld w3 (w.heap.size + 1 + 1) X Y W H v ∧ But w.heap.size q w w3 ∧ J w3 := by
  have hne : ∀ k, k < w.heap.size + 3 → some k ≠ v.ownBlock := fun k hk e => by
    have := (h.own.lt k e.symm).1; omega
  have hz := h.below.size
  have hb : Below w.heap.size w2 w3 := by
    refine ((Below.refl w.heap.size w2).alloc hz o).grown hg (by simp; omega) (fun k hk => ?_)
    have := (h.own.lt k hk).1
    omega
  exact ⟨(h.rg.alloc o).grown hg (hne _ (by omega)), (h.rz.alloc o).grown hg (hne _ (by omega)), (h.fo.alloc o).grown hg (hne _ (by omega)), h.below.trans (But.of hb), hst _ _ hz h.st hb⟩

theorem MadeSt.app {q : Nat → Prop} {J : World → Prop} {w w2 w3 : World} {X Y W H : Int} {v : Value} {m : List Nat} {o : Obj} (h : MadeSt q J w w2 X Y W H v m) (hst : ∀ W W', w.heap.size ≤ W.heap.size → J W → Below w.heap.size W W' → J W') {y g cap : Nat} (hy : y < 4294967296)
    (hown : w3.ownsRow (w.heap.size + 3) /-T-/27 1 (.slice (some ⟨g, 0, none⟩) (m.length + 1) cap) (m.length + 1) (fls m ++ [.float .f32 y])) (hg : (w2.alloc o).grownBy w3 v.ownBlock) :
    MadeSt q J w (w3.setCell ⟨w.heap.size + 1 + 1, 4, none⟩ (.slice (some ⟨g, 0, none⟩) (m.length + 1) cap)) X Y W H (.slice (some ⟨g, 0, none⟩) (m.length + 1) cap) (m ++ [y]) := by
  obtain ⟨a, b, c, d, e⟩ := h.mid hst hg
  have hgl := (hown.lt g rfl).1
  refine ⟨a.setCell (by show w.heap.size ≠ w.heap.size + 1 + 1; omega) _, b.setCell (by show w.heap.size + 1 ≠ w.heap.size + 1 + 1; omega) _, c.set4 _, ?_, ?_, d.trans (But.of (Below.setCell (Below.refl _ _) (by show w.heap.size ≤ w.heap.size + 1 + 1; omega) _)), hst _ _ d.size e (Below.setCell (Below.refl _ _) (by show w.heap.size ≤ w.heap.size + 1 + 1; omega) _)⟩
  · have e : fls (m ++ [y]) = fls m ++ [.float .f32 y] := by unfold fls; simp
    have e2 : (m ++ [y]).length = m.length + 1 := by simp
    rw [e, e2]
    refine ⟨hown.1, ?_⟩
    rcases hown.2 with h2 | ⟨g', cap', cur, hv, hB, hh, r⟩
    · exact .inl h2
    · have : g' = g := by simp at hv; exact hv.1.symm
      subst this
      exact .inr ⟨g', cap', cur, hv, hB, (Below.heap_setCell w3 _ _ g' (by show g' ≠ w.heap.size + 1 + 1; omega)).trans hh, r⟩
  · intro x hx
    rcases List.mem_append.1 hx with hx | hx
    · exact h.wf x hx
    · have : x = y := by simpa using hx
      rw [this]; exact hy

/-- what 'made' gives, where the function keeps a state -/
def MadeSP (q : Nat → Prop) (J : World → Prop) (X Y W H : Int) (m : List Nat) (w : World) (e : Ending) (w' : World) : Prop :=
  (outE m = 0 → ∃ g cap, e = .returned (.tuple #[fldV X Y W H (some ⟨g, 0, none⟩) m.length cap, .int .i64 0]) ∧ OwnF w' w.heap.size g cap m) ∧
  (outE m ≠ 0 → e = .returned (.tuple #[fldV 0 0 0 0 none 0 0, .int .i64 3])) ∧ But w.heap.size q w w' ∧ J w'

end Go.Proofs.Ytiiogjjjgoeghaa

namespace Go.Proofs.Ytiiogjjjgoeghaa
open Go.ChangeShapes Go.WideShapes Go.ChangeAt Go.RowKit
set_option linter.unusedVariables false

end Go.Proofs.Ytiiogjjjgoeghaa

namespace Go.Proofs.Ytiiogjjjgoeghaa
open Go.ChangeShapes Go.WideShapes Go.ChangeAt Go.RowKit
set_option linter.unusedVariables false

end Go.Proofs.Ytiiogjjjgoeghaa
