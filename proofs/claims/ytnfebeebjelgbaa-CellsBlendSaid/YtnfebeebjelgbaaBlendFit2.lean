import Derived.Test.YtnfebeebjelgbaaBlendFit
import Derived.Test.YtnfebeebjelgbaaRepRow
namespace Go.Proofs.Ytnfebeebjelgbaa
open Go.ChangeShapes Go.WideShapes Go.ChangeAt Go.RowKit
open Ieee.Format (fin finE htE allFin allHt all_true all_false mulF subF addF Ht Bd divF rootF floorF easeF mixF)
set_option linter.unusedVariables false

theorem two_slices (w W5 w2 w3 : World) (X Y : Int) (Wn Hn g c g' n' c' g'' n'' c'' NB NS : Nat) (l LB LS : List Nat)
    (h1 : Fld W5 w.heap.size X Y Wn Hn (.slice (some ⟨g, 0, none⟩) l.length c)) (h2 : Fld W5 (w.heap.size + 1) X Y Wn Hn (.slice (some ⟨g', 0, none⟩) n' c')) (h3 : Fld W5 (w.heap.size + 1 + 1) X Y Wn Hn (.slice (some ⟨g'', 0, none⟩) n'' c''))
    (ho : OwnF W5 (w.heap.size + 3) g c l) (hb : Below w.heap.size w W5) (kB : Blk w2 W5.heap.size (fls LB).toArray 37) (b2 : Below W5.heap.size W5 w2) (b3 : Below w2.heap.size w2 w3) (kS : Blk w3 w2.heap.size (fls LS).toArray 37)
    (hLB : ∀ x ∈ LB, x < 4294967296) (hLS : ∀ x ∈ LS, x < 4294967296) (n1 : l.length ≤ LB.length) (n2 : l.length ≤ LS.length) (n3 : l.length ≤ 1000) :
    ∀ W', W' = (w3.setCell ⟨w.heap.size + 1, 4, none⟩ (.slice (some ⟨W5.heap.size, 0, none⟩) l.length NB)).setCell ⟨w.heap.size + 1 + 1, 4, none⟩ (.slice (some ⟨w2.heap.size, 0, none⟩) l.length NS) →
    ∃ (gb gs : Nat), Fld W' w.heap.size X Y Wn Hn (.slice (some ⟨g, 0, none⟩) l.length c) ∧ Fld W' (w.heap.size + 1) X Y Wn Hn (.slice (some ⟨gb, 0, none⟩) l.length NB) ∧ Fld W' (w.heap.size + 1 + 1) X Y Wn Hn (.slice (some ⟨gs, 0, none⟩) l.length NS) ∧ OwnF W' (w.heap.size + 3) g c l ∧
      SRow W' (some ⟨gb, 0, none⟩) (LB.take l.length) ∧ SRow W' (some ⟨gs, 0, none⟩) (LS.take l.length) ∧ Below w.heap.size w W' := by
  intro W' hW
  have bz3 : Below W5.heap.size W5 w3 := bel_step b2 b3
  have z1 := h1.lt
  have z2 := h2.lt
  have z3 := h3.lt
  have y2 := kB.lt
  have y3 := kS.lt
  have g1 := ho.lt
  have zz := b2.size
  have k1 : w.heap.size ≠ w.heap.size + 1 := by omega
  have k2 : w.heap.size ≠ w.heap.size + 1 + 1 := by omega
  have k3 : w.heap.size + 1 ≠ w.heap.size + 1 + 1 := by omega
  have k4 : w.heap.size + 1 + 1 ≠ w.heap.size + 1 := by omega
  have k5 : g ≠ w.heap.size + 1 := by omega
  have k6 : g ≠ w.heap.size + 1 + 1 := by omega
  have k7 : W5.heap.size ≠ w.heap.size + 1 := by omega
  have k8 : W5.heap.size ≠ w.heap.size + 1 + 1 := by omega
  have k9 : w2.heap.size ≠ w.heap.size + 1 := by omega
  have k0 : w2.heap.size ≠ w.heap.size + 1 + 1 := by omega
  refine ⟨W5.heap.size, w2.heap.size, ?_, ?_, ?_, ?_, ?_, ?_, ?_⟩
  · subst hW; exact ((h1.below bz3 z1).setCell (p := ⟨w.heap.size + 1, 4, none⟩) k1 _).setCell (p := ⟨w.heap.size + 1 + 1, 4, none⟩) k2 _
  · subst hW; exact ((h2.below bz3 z2).set4 _).setCell (p := ⟨w.heap.size + 1 + 1, 4, none⟩) k3 _
  · subst hW; exact ((h3.below bz3 z3).setCell (p := ⟨w.heap.size + 1, 4, none⟩) k4 _).set4 _
  · subst hW; exact ((ho.below bz3 g1.2).setCell (p := ⟨w.heap.size + 1, 4, none⟩) k5 _).setCell (p := ⟨w.heap.size + 1 + 1, 4, none⟩) k6 _
  · have : Blk W' W5.heap.size (fls LB).toArray 37 := by
      subst hW; exact ((kB.below b3 kB.lt).setCell (p := ⟨w.heap.size + 1, 4, none⟩) k7 _).setCell (p := ⟨w.heap.size + 1 + 1, 4, none⟩) k8 _
    exact rep_rowB this hLB n1 n3
  · have : Blk W' w2.heap.size (fls LS).toArray 37 := by
      subst hW; exact (kS.setCell (p := ⟨w.heap.size + 1, 4, none⟩) k9 _).setCell (p := ⟨w.heap.size + 1 + 1, 4, none⟩) k0 _
    exact rep_rowB this hLS n2 n3
  · subst hW
    exact ((hb.trans (bz3.mono hb.size)).setCell (p := ⟨w.heap.size + 1, 4, none⟩) (by show w.heap.size ≤ w.heap.size + 1; omega) _).setCell (p := ⟨w.heap.size + 1 + 1, 4, none⟩) (by show w.heap.size ≤ w.heap.size + 1 + 1; omega) _
end Go.Proofs.Ytnfebeebjelgbaa
