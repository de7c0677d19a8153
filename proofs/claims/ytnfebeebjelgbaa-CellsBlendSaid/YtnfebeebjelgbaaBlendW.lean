import Derived.Test.YtnfebeebjelgbaaRefBlendOp
import Derived.Test.YtnfebeebjelgbaaBlendFit2
namespace Go.Proofs.Ytnfebeebjelgbaa
open Go.ChangeShapes Go.WideShapes Go.ChangeAt Go.RowKit
open Ieee.Format (fin finE htE allFin allHt all_true all_false mulF subF addF Ht Bd divF rootF floorF easeF mixF)
set_option linter.unusedVariables false

theorem bl_blt {w : World} {b o : Nat} {l : List Nat} (h : SRow w (some ⟨b, o, none⟩) l) (hn : 0 < l.length) : b < w.heap.size := by
  have := h.at_ hn
  rcases Nat.lt_or_ge b w.heap.size with hlt | hge
  · exact hlt
  · simp [World.cell?, Array.getElem?_eq_none hge] at this
theorem bl_pos {X Y : Int} {Wn Hn : Nat} {l : List Nat} (h : Right X Y Wn Hn l) : 0 < l.length := by
  have := Nat.mul_le_mul h.h1 h.w1
  rw [← h.len] at this; omega
/-- the three fields of the law, each in its variable -/
structure BlW (w wx : World) (X Y : Int) (Wn Hn g c gb NB gs NS n : Nat) (A B S : List Nat) : Prop where
  fa : Fld wx w.heap.size X Y Wn Hn (.slice (some ⟨g, 0, none⟩) n c)
  fb : Fld wx (w.heap.size + 1) X Y Wn Hn (.slice (some ⟨gb, 0, none⟩) n NB)
  fs : Fld wx (w.heap.size + 1 + 1) X Y Wn Hn (.slice (some ⟨gs, 0, none⟩) n NS)
  sa : SRow wx (some ⟨g, 0, none⟩) A
  sb : SRow wx (some ⟨gb, 0, none⟩) B
  ss : SRow wx (some ⟨gs, 0, none⟩) S
  be : Below w.heap.size w wx
theorem BlW.below {w wx w' : World} {X Y : Int} {Wn Hn g c gb NB gs NS n : Nat} {A B S : List Nat} (h : BlW w wx X Y Wn Hn g c gb NB gs NS n A B S) (hb : Below wx.heap.size wx w') : BlW w w' X Y Wn Hn g c gb NB gs NS n A B S :=
  ⟨h.fa.below hb h.fa.lt, h.fb.below hb h.fb.lt, h.fs.below hb h.fs.lt, SRow.below h.sa hb, SRow.below h.sb hb, SRow.below h.ss hb, h.be.trans (hb.mono h.be.size)⟩
theorem BlW.under {w wx w' : World} {X Y : Int} {Wn Hn g c gb NB gs NS n K : Nat} {A B S : List Nat} (h : BlW w wx X Y Wn Hn g c gb NB gs NS n A B S) (hb : Below K wx w') (k0 : w.heap.size + 1 + 1 < K) (k1 : g < K) (k2 : gb < K) (k3 : gs < K) : BlW w w' X Y Wn Hn g c gb NB gs NS n A B S :=
  ⟨h.fa.below hb (by omega), h.fb.below hb (by omega), h.fs.below hb (by omega), SRow.under h.sa hb k1, SRow.under h.sb hb k2, SRow.under h.ss hb k3, h.be.trans (hb.mono (by omega))⟩
end Go.Proofs.Ytnfebeebjelgbaa
