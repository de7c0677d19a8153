import Derived.Test.YtgeeaegnohdejaaMade
namespace Go.Proofs.Ytgeeaegnohdejaa
open Go.ChangeShapes Go.WideShapes Go.ChangeAt Go.RowKit
open Ieee.Format (fin finE htE allFin allHt all_true all_false finE_ok finE_bad htE_ok htE_far htE_bad mulF subF addF)
set_option linter.unusedVariables false

/-- the loops of field.Make: the field lies in block 'k5', its row in another one -/
structure MakeInv (w wr : World) (k5 : Nat) (X Y W H : Int) (v : Value) (m : List Nat) : Prop where
  rg : Reg wr w.heap.size X Y W H
  rz : Fld wr (w.heap.size + 1) 0 0 0 0 (.slice none 0 0)
  fo : Fld wr k5 X Y W H v
  k5g : w.heap.size + 2 ≤ k5
  ne : v.ownBlock ≠ some k5
  own : wr.ownsRow (w.heap.size + 2) /-T-/24 1 v m.length (fls m)
  wf : ∀ x ∈ m, x < 4294967296
  below : Below w.heap.size w wr

theorem MakeInv.call {w wr w2 : World} {k5 : Nat} {X Y W H : Int} {v : Value} {m : List Nat} (h : MakeInv w wr k5 X Y W H v m) (hb : Below wr.drew.heap.size wr.drew w2) : MakeInv w w2 k5 X Y W H v m :=
  ⟨h.rg.drew.below hb h.rg.lt, h.rz.drew.below hb h.rz.lt, h.fo.drew.below hb h.fo.lt, h.k5g, h.ne, ownsRow_below (w := wr.drew) h.own hb (fun k hk => (h.own.lt k hk).2), h.wf,
    (h.below.drew).trans (hb.mono (show w.heap.size ≤ wr.heap.size from h.below.size))⟩

theorem MakeInv.mid {w w2 w3 : World} {k5 : Nat} {X Y W H : Int} {v : Value} {m : List Nat} {o : Obj} (h : MakeInv w w2 k5 X Y W H v m) (hg : (w2.alloc o).grownBy w3 v.ownBlock) :
    Reg w3 w.heap.size X Y W H ∧ Fld w3 (w.heap.size + 1) 0 0 0 0 (.slice none 0 0) ∧ Fld w3 k5 X Y W H v ∧ Below w.heap.size w w3 := by
  have hne : ∀ k, k < w.heap.size + 2 → some k ≠ v.ownBlock := fun k hk e => by
    have := (h.own.lt k e.symm).1; omega
  refine ⟨(h.rg.alloc o).grown hg (hne _ (by omega)), (h.rz.alloc o).grown hg (hne _ (by omega)), (h.fo.alloc o).grown hg (fun e => h.ne e.symm), ?_⟩
  have hz := h.below.size
  refine (h.below.alloc hz o).grown hg (by simp; omega) (fun k hk => ?_)
  have := (h.own.lt k hk).1
  omega

theorem MakeInv.app {w w2 w3 : World} {k5 : Nat} {X Y W H : Int} {v : Value} {m : List Nat} {o : Obj} (h : MakeInv w w2 k5 X Y W H v m) {y g cap : Nat} (hy : y < 4294967296)
    (hown : w3.ownsRow (w.heap.size + 2) /-T-/24 1 (.slice (some ⟨g, 0, none⟩) (m.length + 1) cap) (m.length + 1) (fls m ++ [.float .f32 y])) (hg : (w2.alloc o).grownBy w3 v.ownBlock) (hgk : g ≠ k5) :
    MakeInv w (w3.setCell ⟨k5, 4, none⟩ (.slice (some ⟨g, 0, none⟩) (m.length + 1) cap)) k5 X Y W H (.slice (some ⟨g, 0, none⟩) (m.length + 1) cap) (m ++ [y]) := by
  obtain ⟨a, b, c, d⟩ := h.mid hg
  have hgl := (hown.lt g rfl).1
  have hk5 := h.k5g
  refine ⟨a.setCell (by show w.heap.size ≠ k5; omega) _, b.setCell (by show w.heap.size + 1 ≠ k5; omega) _, c.set4 _, hk5, (by simp [Value.ownBlock]; exact hgk), ?_, ?_, d.setCell (by show w.heap.size ≤ k5; omega) _⟩
  · have e : fls (m ++ [y]) = fls m ++ [.float .f32 y] := by unfold fls; simp
    have e2 : (m ++ [y]).length = m.length + 1 := by simp
    rw [e, e2]
    refine ⟨hown.1, ?_⟩
    rcases hown.2 with h2 | ⟨g', cap', cur, hv, hB, hh, r⟩
    · exact .inl h2
    · have : g' = g := by simp at hv; exact hv.1.symm
      subst this
      exact .inr ⟨g', cap', cur, hv, hB, (Below.heap_setCell w3 _ _ g' hgk).trans hh, r⟩
  · intro x hx
    rcases List.mem_append.1 hx with hx | hx
    · exact h.wf x hx
    · have : x = y := by simpa using hx
      rw [this]; exact hy
end Go.Proofs.Ytgeeaegnohdejaa
