import Derived.Test.YtgeeaegnohdejaaSameF
import Derived.Shelf.Abstract
import Derived.Deep.AppendLies
import Derived.Deep.RegionLaw
namespace Go.Proofs.Ytgeeaegnohdejaa
open Go.ChangeShapes Go.WideShapes Go.ChangeAt Go.RowKit
open Ieee.Format (fin finE htE allFin allHt all_true all_false finE_ok finE_bad htE_ok htE_far htE_bad mulF subF addF)
set_option linter.unusedVariables false

/-- block 'k' is just a region -/
def Reg (w : World) (k : Nat) (X Y W H : Int) : Prop := w.heap[k]? = some (.cells #[.int .i64 X, .int .i64 Y, .int .i64 W, .int .i64 H] /-T-/30 (0, 0))
section
variable {w w' : World} {k : Nat} {X Y W H : Int}
theorem Reg.lt (h : Reg w k X Y W H) : k < w.heap.size := by
  rcases Nat.lt_or_ge k w.heap.size with hlt | hge
  · exact hlt
  · unfold Reg at h; rw [Array.getElem?_eq_none hge] at h; cases h
theorem Reg.cell (h : Reg w k X Y W H) (i : Nat) : w.cell? ⟨k, i, none⟩ = (#[.int .i64 X, .int .i64 Y, .int .i64 W, .int .i64 H] : Array Value)[i]? := cell_of_row w k i _ _ _ h
theorem Reg.cells (h : Reg w k X Y W H) : w.cell? ⟨k, 0, none⟩ = some (.int .i64 X) ∧ w.cell? ⟨k, 1, none⟩ = some (.int .i64 Y) ∧ w.cell? ⟨k, 2, none⟩ = some (.int .i64 W) ∧ w.cell? ⟨k, 3, none⟩ = some (.int .i64 H) :=
  ⟨h.cell 0, h.cell 1, h.cell 2, h.cell 3⟩
theorem Reg.below {B : Nat} (h : Reg w k X Y W H) (hb : Below B w w') (hk : k < B) : Reg w' k X Y W H := (hb.block k hk).trans h
theorem Reg.new (w : World) (X Y W H : Int) : Reg (w.alloc (.cells #[.int .i64 X, .int .i64 Y, .int .i64 W, .int .i64 H] /-T-/30)) w.heap.size X Y W H := heap_alloc_new w _
theorem Reg.alloc (h : Reg w k X Y W H) (o : Obj) : Reg (w.alloc o) k X Y W H := (Below.heap_alloc w o k h.lt).trans h
theorem Reg.drew (h : Reg w k X Y W H) : Reg w.drew k X Y W H := h
theorem Reg.setCell (h : Reg w k X Y W H) {p : Addr} (hp : k ≠ p.block) (u : Value) : Reg (w.setCell p u) k X Y W H := (Below.heap_setCell w p u k hp).trans h
theorem Reg.grown {row : Option Nat} (h : Reg w k X Y W H) (hb : w.grownBy w' row) (hg : some k ≠ row) : Reg w' k X Y W H := (hb.block k h.lt hg).trans h
end

/-- what 'made' gives: the first 'n' values, row by row -/
def madeL (ψ : Int → Int → Nat) (X Y : Int) (W n : Nat) : List Nat := (List.range n).map fun k => ψ (X + ((k % W : Nat) : Int)) (Y + ((k / W : Nat) : Int))
theorem madeL_len (ψ : Int → Int → Nat) (X Y : Int) (W n : Nat) : (madeL ψ X Y W n).length = n := by simp [madeL]
theorem madeL_succ (ψ : Int → Int → Nat) (X Y : Int) (W i j : Nat) (hi : i < W) : madeL ψ X Y W (j * W + i + 1) = madeL ψ X Y W (j * W + i) ++ [ψ (X + (i : Int)) (Y + (j : Int))] := by
  have h1 : (j * W + i) % W = i := by rw [Nat.mul_comm, Nat.mul_add_mod, Nat.mod_eq_of_lt hi]
  have h2 : (j * W + i) / W = j := by rw [Nat.mul_comm, Nat.mul_add_div (by omega), Nat.div_eq_of_lt hi]; rfl
  unfold madeL
  rw [List.range_succ, List.map_append, List.map_singleton, h1, h2]

structure MadeInv (w wr : World) (X Y W H : Int) (v : Value) (m : List Nat) : Prop where
  rg : Reg wr w.heap.size X Y W H
  rz : Fld wr (w.heap.size + 1) 0 0 0 0 (.slice none 0 0)
  fo : Fld wr (w.heap.size + 1 + 1) X Y W H v
  own : wr.ownsRow (w.heap.size + 3) /-T-/24 1 v m.length (fls m)
  wf : ∀ x ∈ m, x < 4294967296
  below : Below w.heap.size w wr

theorem ownsRow_below {w w' : World} {B B' size n : Nat} {e : TypeId} {v : Value} {xs : List Value} (h : w.ownsRow B e size v n xs) (hb : Below B' w w') (hg : ∀ k, v.ownBlock = some k → k < B') : w'.ownsRow B e size v n xs := by
  refine ⟨h.1, ?_⟩
  rcases h.2 with h2 | ⟨g, cap, cur, rfl, hB, hh, r⟩
  · exact .inl h2
  · exact .inr ⟨g, cap, cur, rfl, hB, (hb.block g (hg g rfl)).trans hh, r⟩

theorem MadeInv.call {w wr w2 : World} {X Y W H : Int} {v : Value} {m : List Nat} (h : MadeInv w wr X Y W H v m) (hb : Below wr.drew.heap.size wr.drew w2) : MadeInv w w2 X Y W H v m :=
  ⟨h.rg.drew.below hb h.rg.lt, h.rz.drew.below hb h.rz.lt, h.fo.drew.below hb h.fo.lt, ownsRow_below (w := wr.drew) h.own hb (fun k hk => (h.own.lt k hk).2), h.wf,
    (h.below.drew).trans (hb.mono (show w.heap.size ≤ wr.heap.size from h.below.size))⟩

theorem MadeInv.mid {w w2 w3 : World} {X Y W H : Int} {v : Value} {m : List Nat} {o : Obj} (h : MadeInv w w2 X Y W H v m) (hg : (w2.alloc o).grownBy w3 v.ownBlock) :
    Reg w3 w.heap.size X Y W H ∧ Fld w3 (w.heap.size + 1) 0 0 0 0 (.slice none 0 0) ∧ Fld w3 (w.heap.size + 1 + 1) X Y W H v ∧ Below w.heap.size w w3 := by
  have hne : ∀ k, k < w.heap.size + 3 → some k ≠ v.ownBlock := fun k hk e => by
    have := (h.own.lt k e.symm).1; omega
  refine ⟨(h.rg.alloc o).grown hg (hne _ (by omega)), (h.rz.alloc o).grown hg (hne _ (by omega)), (h.fo.alloc o).grown hg (hne _ (by omega)), ?_⟩
  have hz := h.below.size
  refine (h.below.alloc hz o).grown hg (by simp; omega) (fun k hk => ?_)
  have := (h.own.lt k hk).1
  omega

theorem MadeInv.app {w w2 w3 : World} {X Y W H : Int} {v : Value} {m : List Nat} {o : Obj} (h : MadeInv w w2 X Y W H v m) {y g cap : Nat} (hy : y < 4294967296)
    (hown : w3.ownsRow (w.heap.size + 3) /-T-/24 1 (.slice (some ⟨g, 0, none⟩) (m.length + 1) cap) (m.length + 1) (fls m ++ [.float .f32 y])) (hg : (w2.alloc o).grownBy w3 v.ownBlock) :
    MadeInv w (w3.setCell ⟨w.heap.size + 1 + 1, 4, none⟩ (.slice (some ⟨g, 0, none⟩) (m.length + 1) cap)) X Y W H (.slice (some ⟨g, 0, none⟩) (m.length + 1) cap) (m ++ [y]) := by
  obtain ⟨a, b, c, d⟩ := h.mid hg
  have hgl := (hown.lt g rfl).1
  refine ⟨a.setCell (by show w.heap.size ≠ w.heap.size + 1 + 1; omega) _, b.setCell (by show w.heap.size + 1 ≠ w.heap.size + 1 + 1; omega) _, c.set4 _, ?_, ?_, d.setCell (by show w.heap.size ≤ w.heap.size + 1 + 1; omega) _⟩
  · have e : fls (m ++ [y]) = fls m ++ [.float .f32 y] := by unfold fls; simp
    have e2 : (m ++ [y]).length = m.length + 1 := by simp
    rw [e, e2]
    refine ⟨hown.1, ?_⟩
    rcases hown.2 with h2 | ⟨g', cap', cur, hv, hB, hh, r⟩
    · exact .inl h2
    · have : g' = g := by simp at hv; exact hv.1.symm
      subst this
      exact .inr ⟨g', cap', cur, hv, hB, (Below.heap_setCell w3 _ _ g' (by show g' ≠ w.heap.size + 1 + 1; omega)).trans hh, r⟩
  · intro x hx
    rcases List.mem_append.1 hx with hx | hx
    · exact h.wf x hx
    · have : x = y := by simpa using hx
      rw [this]; exact hy
end Go.Proofs.Ytgeeaegnohdejaa
