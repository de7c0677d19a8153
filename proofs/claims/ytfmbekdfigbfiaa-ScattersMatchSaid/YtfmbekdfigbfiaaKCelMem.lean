import Derived.Test.YtfmbekdfigbfiaaJM
import Derived.Deep.DeepCutAuto
namespace Go.Proofs.Ytfmbekdfigbfiaa
open Go.ChangeShapes Go.WideShapes Go.ChangeAt Go.RowKit
open Ieee.Format (fin finE htE allFin allHt all_true all_false mulF subF addF Ht Bd divF rootF floorF easeF mixF)
set_option linter.unusedVariables false
open Wide Go.Sort Go.Proofs

theorem Try.infoPt : (Try.prog.info? 36).map (fun i => (i.zero, i.size, i.bytes)) = some (some (.agg #[.int .i64 0, .int .i64 0]), 2, 16) := by kernel_rfl
def ptsV (l : List (Int × Int)) : List Value := l.flatMap fun p => [.int .i64 p.1, .int .i64 p.2]
theorem ptsV_app (a b : List (Int × Int)) : ptsV (a ++ b) = ptsV a ++ ptsV b := by simp [ptsV]
theorem ptsV_one (p : Int × Int) : ptsV [p] = [.int .i64 p.1, .int .i64 p.2] := rfl
/-- the memory of the reference's search -/
structure CelR (w wr : World) (B kp : Nat) (c x y : Int) (v : Value) (m : List (Int × Int)) : Prop where
  q : Blk wr w.heap.size #[.int .i64 c] 3
  a : Blk wr (w.heap.size + 1) #[.int .i64 0, .int .i64 0] 36
  p : Blk wr kp #[.int .i64 x, .int .i64 y] 36
  b0 : w.heap.size + 1 < B
  bp : kp < B
  bz : B ≤ wr.heap.size
  own : wr.ownsRow B 36 2 v m.length (ptsV m)
  below : Below w.heap.size w wr
section
variable {w wr w2 w3 : World} {B kp : Nat} {c x y : Int} {v v' : Value} {m : List (Int × Int)}
theorem CelR.call (h : CelR w wr B kp c x y v m) (hb : Below wr.heap.size wr w2) : CelR w w2 B kp c x y v m :=
  ⟨h.q.below hb h.q.lt, h.a.below hb h.a.lt, h.p.below hb h.p.lt, h.b0, h.bp, Nat.le_trans h.bz hb.size, ownsRow_below h.own hb (fun k hk => (h.own.lt k hk).2), h.below.trans (hb.mono h.below.size)⟩
theorem CelR.alloc (h : CelR w wr B kp c x y v m) (o : Obj) : CelR w (wr.alloc o) B kp c x y v m := h.call ((Below.refl _ _).alloc (Nat.le_refl _) _)
theorem Blk.grown {k : Nat} {cs : Array Value} {t : TypeId} {o : Option Nat} (h : Blk w k cs t) (hg : w.grownBy w3 o) (hk : some k ≠ o) : Blk w3 k cs t := (hg.block k h.lt hk).trans h
theorem CelR.app {r : Int × Int} {o : Obj} (h : CelR w w2 B kp c x y v m)
    (hown : w3.ownsRow B 36 2 v' (m.length + 1) (ptsV m ++ [.int .i64 r.1, .int .i64 r.2])) (hg : (w2.alloc o).grownBy w3 v.ownBlock) : CelR w w3 B kp c x y v' (m ++ [r]) := by
  have hne : ∀ k, k < B → some k ≠ v.ownBlock := fun k hk e => by
    have := (h.own.lt k e.symm).1; omega
  have hA := h.alloc o
  have hb0 := h.b0
  refine ⟨hA.q.grown hg (hne _ (by omega)), hA.a.grown hg (hne _ h.b0), hA.p.grown hg (hne _ h.bp), h.b0, h.bp, Nat.le_trans hA.bz hg.size, ?_, ?_⟩
  · rw [ptsV_app, ptsV_one]; simpa using hown
  · refine hA.below.grown hg (by have := hA.below.size; exact this) (fun k hk => ?_)
    have := (h.own.lt k hk).1
    omega
end
theorem celr_start (w : World) (c x y : Int) (w2 : World) (h : CelW w c (0, 0) w2) :
    CelR w (w2.alloc (.cells #[.int .i64 x, .int .i64 y] 36)) (w2.heap.size + 1) w2.heap.size c x y (.slice none 0 0) [] := by
  have hA := h.alloc (.cells #[.int .i64 x, .int .i64 y] 36)
  have := h.p.lt
  exact ⟨hA.q, hA.p, Blk.new _ _ _, by omega, by omega, by simp, World.ownsRow_nil _ _ _ _, hA.b⟩
end Go.Proofs.Ytfmbekdfigbfiaa
