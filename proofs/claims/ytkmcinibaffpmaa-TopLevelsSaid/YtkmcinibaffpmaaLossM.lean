import Derived.Test.YtkmcinibaffpmaaLossF
namespace Go.Proofs.Ytkmcinibaffpmaa
open Go.ChangeShapes Go.WideShapes Go.ChangeAt Go.RowKit
open Ieee.Format (fin finE htE allFin allHt all_true all_false mulF subF addF Ht Bd divF rootF floorF easeF mixF)
set_option linter.unusedVariables false
open Ieee.Format (sub_dbl)

/-- a loss: at most twice the greatest magnitude -/
def LossOk (m z : Nat) : Prop := fin Ieee.single z ∧ z < 4294967296 ∧ Ieee.single.V z ≤ 2 * Ieee.single.V m
theorem loss_val {a b m : Nat} (fa : fin Ieee.single a) (fb : fin Ieee.single b) (fm : fin Ieee.single m) (sm : Ieee.single.sgn m = false) (hm : Ieee.single.V m ≤ Ieee.P2 20) (a1 : Ieee.single.V a ≤ Ieee.single.V m) (a2 : -Ieee.single.V m ≤ Ieee.single.V a) (b1 : Ieee.single.V b ≤ Ieee.single.V m) (b2 : -Ieee.single.V m ≤ Ieee.single.V b) :
    fin Ieee.single (subF a b) ∧ LossOk m (mag (subF a b)) := by
  have p := Ieee.P2_lt (show (20 : Int) < 100 by omega)
  obtain ⟨f, h1, h2⟩ := sub_dbl fa fb fm sm (by grind) a1 a2 b1 b2
  refine ⟨f, mag_fin f, mag_lt _, ?_⟩
  rcases (mag_V (subF a b)).2 with h | h <;> rw [h] <;> grind

/-- the memory of 'losses': the first field's box, the row of the losses -/
structure LosInv (w wr : World) (kf g cap : Nat) (v : Lv) (gf cf : Nat) (Z : List Nat) : Prop where
  f : Fld wr kf v.X v.Y v.W v.H (.slice (some ⟨gf, 0, none⟩) v.l.length cf)
  out : OwnF wr w.heap.size g cap Z
  ne : kf ≠ g
  kb : w.heap.size ≤ kf
  bl : Below w.heap.size w wr
section
variable {w wr w2 : World} {kf g cap gf cf : Nat} {v : Lv} {Z : List Nat}
theorem LosInv.call (h : LosInv w wr kf g cap v gf cf Z) (hb : Below wr.heap.size wr w2) : LosInv w w2 kf g cap v gf cf Z :=
  ⟨h.f.below hb h.f.lt, h.out.below hb h.out.lt.2, h.ne, h.kb, h.bl.trans (hb.mono h.bl.size)⟩
theorem LosInv.drew (h : LosInv w wr kf g cap v gf cf Z) : LosInv w wr.drew kf g cap v gf cf Z := ⟨h.f.drew, h.out.drew, h.ne, h.kb, h.bl.drew⟩
theorem LosInv.alloc (h : LosInv w wr kf g cap v gf cf Z) (o : Obj) : LosInv w (wr.alloc o) kf g cap v gf cf Z := h.call ((Below.refl _ _).alloc (Nat.le_refl _) _)
theorem LosInv.put (h : LosInv w wr kf g cap v gf cf Z) (k x : Nat) (hx : x < 4294967296) : LosInv w (wr.setCell ⟨g, k, none⟩ (.float .f32 x)) kf g cap v gf cf (Z.set k x) :=
  ⟨h.f.setCell h.ne _, h.out.store k x hx, h.ne, h.kb, h.bl.setCell h.out.lt.1 _⟩
end
/-- the same, with the box of a level -/
structure LosJ (w wr : World) (kf g cap : Nat) (v : Lv) (gf cf : Nat) (k6 : Nat) (u : Lv) (gu cu : Nat) (Z : List Nat) : Prop where
  i : LosInv w wr kf g cap v gf cf Z
  f6 : Fld wr k6 u.X u.Y u.W u.H (.slice (some ⟨gu, 0, none⟩) u.l.length cu)
  ne6 : k6 ≠ g
section
variable {w wr w2 : World} {kf g cap gf cf k6 gu cu : Nat} {v u : Lv} {Z : List Nat}
theorem LosJ.call (h : LosJ w wr kf g cap v gf cf k6 u gu cu Z) (hb : Below wr.heap.size wr w2) : LosJ w w2 kf g cap v gf cf k6 u gu cu Z := ⟨h.i.call hb, h.f6.below hb h.f6.lt, h.ne6⟩
theorem LosJ.drew (h : LosJ w wr kf g cap v gf cf k6 u gu cu Z) : LosJ w wr.drew kf g cap v gf cf k6 u gu cu Z := ⟨h.i.drew, h.f6.drew, h.ne6⟩
theorem LosJ.put (h : LosJ w wr kf g cap v gf cf k6 u gu cu Z) (k x : Nat) (hx : x < 4294967296) : LosJ w (wr.setCell ⟨g, k, none⟩ (.float .f32 x)) kf g cap v gf cf k6 u gu cu (Z.set k x) := ⟨h.i.put k x hx, h.f6.setCell h.ne6 _, h.ne6⟩
theorem LosInv.box (h : LosInv w wr kf g cap v gf cf Z) (u : Lv) (gu cu : Nat) :
    LosJ w (wr.alloc (.cells #[.int .i64 u.X, .int .i64 u.Y, .int .i64 (u.W : Int), .int .i64 (u.H : Int), .slice (some ⟨gu, 0, none⟩) u.l.length cu] 26)) kf g cap v gf cf wr.heap.size u gu cu Z :=
  ⟨h.alloc _, Fld.new wr u.X u.Y u.W u.H _, by have := h.out.lt.2; omega⟩
end
end Go.Proofs.Ytkmcinibaffpmaa
