import Derived.Test.YtkmcinibaffpmaaGreatM6
import Derived.Test.YtkmcinibaffpmaaGreatM1
import Derived.Test.YtkmcinibaffpmaaGreatM5
import Derived.Deep.RegionHeld3
import Derived.Test.YtkmcinibaffpmaaGreatM3
import Derived.OwnWalk
import Derived.Deep.AppendLies
namespace Go.Proofs.YtkmcinibaffpmaaGreat
open Go.Shelf
open Go.ChangeShapes Go.WideShapes Go.ChangeAt Go.RowKit
open Ieee.Format (fin finE htE allFin allHt all_true all_false mulF subF addF Ht Bd smoothF smooth2 smooth_bd const_eighth const_2nd)
set_option linter.unusedVariables false

/-- the reference's At by the cell's number -/
theorem refat_k (X Y : Int) (Wn Hn : Nat) (x y : Int) (b o c k : Nat) (l : List Nat) (w : World) (hl : SRow w (some ⟨b, o, none⟩) l) (hn : l.length = Hn * Wn) (hw : 1 ≤ Wn) (hw2 : Wn ≤ 512) (hh : 1 ≤ Hn) (hh2 : Hn ≤ 512) (hx0 : -8388608 ≤ X) (hx1 : X ≤ 8388608) (hy0 : -8388608 ≤ Y) (hy1 : Y ≤ 8388608)
    (hx : X ≤ x) (hx' : x < X + Wn) (hy : Y ≤ y) (hy' : y < Y + Hn) (hk : cellNo X Y Wn x y = (k : Int)) :
    Calls Tryz.prog 38 #[fldV X Y Wn Hn (some ⟨b, o, none⟩) l.length c, .int .i64 x, .int .i64 y] w fun e w' => e = .returned (.float .f32 (l.getD k 0)) ∧ Below w.heap.size w w' := by
  have h := refat_any X Y Wn Hn x y b o c l w hl (by rw [hn, Int.natCast_mul, Int.mul_comm]) (by omega) (by omega) (by omega) (by omega) hx0 hx1 hy0 hy1 hx hx' hy hy'
  rw [hk, Int.toNat_natCast] at h
  exact h

/-- the values at a cell and around it, given to a function -/
def nbr (φ : Nat → Nat → Nat → Nat → Nat → Nat) (l : List Nat) (Wn k : Nat) : Nat := φ (l.getD (k - Wn) 0) (l.getD (k + Wn) 0) (l.getD (k + 1) 0) (l.getD (k - 1) 0) (l.getD k 0)

end Go.Proofs.YtkmcinibaffpmaaGreat

namespace Go.Proofs.YtkmcinibaffpmaaGreat
open Go.Shelf
open Go.ChangeShapes Go.WideShapes Go.ChangeAt Go.RowKit
set_option linter.unusedVariables false

end Go.Proofs.YtkmcinibaffpmaaGreat

namespace Go.Proofs.YtkmcinibaffpmaaGreat
open Go.Shelf
open Go.ChangeShapes Go.WideShapes Go.ChangeAt Go.RowKit
open Ieee.Format (fin finE htE allFin allHt all_true all_false mulF subF addF Ht)
set_option linter.unusedVariables false

/-- a field's values after 'i' steps -/
def stepsL (φ : Nat → Nat → Nat → Nat → Nat → Nat) (X Y : Int) (Wn Hn : Nat) (l : List Nat) : Nat → List Nat
  | 0 => l
  | i + 1 => madeL (fun x y => nbr φ (stepsL φ X Y Wn Hn l i) (Wn - 2 * i) (cellNo (X + i) (Y + i) ((Wn - 2 * i : Nat) : Int) x y).toNat) (X + i + 1) (Y + i + 1) (Wn - 2 * i - 2) ((Hn - 2 * i - 2) * (Wn - 2 * i - 2))

theorem stepsL_len (φ : Nat → Nat → Nat → Nat → Nat → Nat) (X Y : Int) (Wn Hn : Nat) (l : List Nat) (hn : l.length = Hn * Wn) (i : Nat) : (stepsL φ X Y Wn Hn l i).length = (Hn - 2 * i) * (Wn - 2 * i) := by
  cases i with
  | zero => simpa [stepsL] using hn
  | succ i =>
    show (madeL _ _ _ _ _).length = _
    rw [madeL_len, show Hn - 2 * (i + 1) = Hn - 2 * i - 2 from by omega, show Wn - 2 * (i + 1) = Wn - 2 * i - 2 from by omega]

theorem getD_all {P : Nat → Prop} (h0 : P 0) {l : List Nat} (h : ∀ x ∈ l, P x) (j : Nat) : P (l.getD j 0) := by
  rcases Nat.lt_or_ge j l.length with hlt | hge
  · rw [List.getD_eq_getElem?_getD, List.getElem?_eq_getElem hlt]; exact h _ (List.getElem_mem hlt)
  · rw [List.getD_eq_getElem?_getD, List.getElem?_eq_none hge]; exact h0

theorem stepsL_all (P : Nat → Nat → Prop) (φ : Nat → Nat → Nat → Nat → Nat → Nat) (X Y : Int) (Wn Hn : Nat) (l : List Nat) (N : Nat) (h0 : ∀ i, P i 0) (hl : ∀ x ∈ l, P 0 x)
    (hφ : ∀ i, i < N → ∀ n s e w v, P i n → P i s → P i e → P i w → P i v → P (i + 1) (φ n s e w v)) : ∀ i, i ≤ N → ∀ x ∈ stepsL φ X Y Wn Hn l i, P i x := by
  intro i
  induction i with
  | zero => exact fun _ => hl
  | succ i ih =>
    intro hi x hx
    have H := getD_all (h0 i) (ih (by omega))
    change x ∈ madeL _ _ _ _ _ at hx
    unfold madeL at hx
    obtain ⟨k, _, rfl⟩ := List.mem_map.1 hx
    exact hφ i (by omega) _ _ _ _ _ (H _) (H _) (H _) (H _) (H _)

/-- the loop of 'steps' -/
structure StepInv (w wr : World) (kt : Nat) (u : Value) (X Y W H : Int) (m : List Nat) (g cap : Nat) : Prop where
  fo : Fld wr kt X Y W H (.slice (some ⟨g, 0, none⟩) m.length cap)
  rz : Fld wr (w.heap.size + 1 + 1) 0 0 0 0 (.slice none 0 0)
  fc : wr.cell? ⟨w.heap.size + 1, 0, none⟩ = some u
  own : OwnF wr w.heap.size g cap m
  kg : w.heap.size + 1 + 1 < kt
  ne : g ≠ kt
  gr : w.heap.size + 1 + 1 < g
  below : Below w.heap.size w wr
theorem StepInv.upto {w wr w2 : World} {kt : Nat} {u : Value} {X Y W H : Int} {m : List Nat} {g cap : Nat} (h : StepInv w wr kt u X Y W H m g cap) (hb : Below wr.heap.size wr w2) : StepInv w w2 kt u X Y W H m g cap := by
  have hk := h.fo.lt
  have hg := h.kg
  exact ⟨h.fo.below hb h.fo.lt, h.rz.below hb h.rz.lt, (hb.cell (p := ⟨w.heap.size + 1, 0, none⟩) (by simp; omega)).trans h.fc, h.own.below hb h.own.lt.2, h.kg, h.ne, h.gr, h.below.trans (hb.mono h.below.size)⟩
theorem StepInv.next {w wr : World} {kt : Nat} {u : Value} {X Y W H : Int} {m : List Nat} {g cap : Nat} (h : StepInv w wr kt u X Y W H m g cap) {X' Y' W' H' : Int} {m' : List Nat} {g' cap' : Nat} (ho : OwnF wr w.heap.size g' cap' m') (hg : g' ≠ kt) (hr : w.heap.size + 1 + 1 < g') :
    ∀ W6, W6 = ((((wr.setCell ⟨kt, 0, none⟩ (.int .i64 X')).setCell ⟨kt, 1, none⟩ (.int .i64 Y')).setCell ⟨kt, 2, none⟩ (.int .i64 W')).setCell ⟨kt, 3, none⟩ (.int .i64 H')).setCell ⟨kt, 4, none⟩ (.slice (some ⟨g', 0, none⟩) m'.length cap') →
    StepInv w W6 kt u X' Y' W' H' m' g' cap' := by
  intro W6 e
  obtain ⟨f, b, oo, ff, z⟩ := fld_store wr kt X Y W H _ X' Y' W' H' (.slice (some ⟨g', 0, none⟩) m'.length cap') h.fo W6 e
  have hk := h.kg
  refine ⟨f, ff _ _ _ _ _ _ h.rz (by omega), ?_, oo _ _ _ _ ho hg, hk, hg, hr, h.below.trans (b.mono (by omega))⟩
  exact (b.cell (p := ⟨w.heap.size + 1, 0, none⟩) (by simp; omega)).trans h.fc

end Go.Proofs.YtkmcinibaffpmaaGreat

namespace Go.Proofs.YtkmcinibaffpmaaGreat
open Go.Shelf
open Go.ChangeShapes Go.WideShapes Go.ChangeAt Go.RowKit
open Ieee.Format (fin finE htE allFin allHt all_true all_false mulF subF addF Ht)
set_option linter.unusedVariables false

end Go.Proofs.YtkmcinibaffpmaaGreat

namespace Go.Proofs.YtkmcinibaffpmaaGreat
open Go.Shelf
open Go.ChangeShapes Go.WideShapes Go.ChangeAt Go.RowKit
open Ieee.Format (fin finE htE allFin allHt all_true all_false mulF subF addF Ht)
set_option linter.unusedVariables false

/-- the reference's rounds: 'f' -/
structure RepInv (w wr : World) (X Y W H : Int) (m : List Nat) (b o c : Nat) : Prop where
  fo : Fld wr w.heap.size X Y W H (.slice (some ⟨b, o, none⟩) m.length c)
  rz : Fld wr (w.heap.size + 1) 0 0 0 0 (.slice none 0 0)
  row : SRow wr (some ⟨b, o, none⟩) m
  below : Below w.heap.size w wr
theorem RepInv.upto {w wr w2 : World} {X Y W H : Int} {m : List Nat} {b o c : Nat} (h : RepInv w wr X Y W H m b o c) (hb : Below wr.heap.size wr w2) : RepInv w w2 X Y W H m b o c :=
  ⟨h.fo.below hb h.fo.lt, h.rz.below hb h.rz.lt, h.row.below hb, h.below.trans (hb.mono h.below.size)⟩
theorem RepInv.next {w wr : World} {X Y W H : Int} {m : List Nat} {b o c : Nat} (h : RepInv w wr X Y W H m b o c) {X' Y' W' H' : Int} {m' : List Nat} {B g cap : Nat} (ho : OwnF wr B g cap m') (hg : g ≠ w.heap.size) (hm : m'.length ≤ 1099511627776) :
    ∀ W6, W6 = ((((wr.setCell ⟨w.heap.size, 0, none⟩ (.int .i64 X')).setCell ⟨w.heap.size, 1, none⟩ (.int .i64 Y')).setCell ⟨w.heap.size, 2, none⟩ (.int .i64 W')).setCell ⟨w.heap.size, 3, none⟩ (.int .i64 H')).setCell ⟨w.heap.size, 4, none⟩ (.slice (some ⟨g, 0, none⟩) m'.length cap) →
    RepInv w W6 X' Y' W' H' m' g 0 cap := by
  intro W6 e
  obtain ⟨f, bb, oo, ff, z⟩ := fld_store wr w.heap.size X Y W H _ X' Y' W' H' (.slice (some ⟨g, 0, none⟩) m'.length cap) h.fo W6 e
  exact ⟨f, ff _ _ _ _ _ _ h.rz (by omega), (oo _ _ _ _ ho hg).row hm, h.below.trans bb⟩

/-- the reference's rounds: 'next' lies in the block that came first -/
structure NextInv (wo wr : World) (X Y W H : Int) (v : Value) (m : List Nat) : Prop where
  fo : Fld wr wo.heap.size X Y W H v
  own : wr.ownsRow (wo.heap.size + 1) /-T-/23 1 v m.length (fls m)
  wf : ∀ x ∈ m, x < 4294967296
  below : Below wo.heap.size wo wr
theorem NextInv.call {wo wr w2 : World} {X Y W H : Int} {v : Value} {m : List Nat} (h : NextInv wo wr X Y W H v m) (hb : Below wr.drew.heap.size wr.drew w2) : NextInv wo w2 X Y W H v m :=
  ⟨h.fo.drew.below hb h.fo.lt, ownsRow_below (w := wr.drew) h.own hb (fun k hk => (h.own.lt k hk).2), h.wf, (h.below.drew).trans (hb.mono (show wo.heap.size ≤ wr.heap.size from h.below.size))⟩
theorem NextInv.mid {wo w2 w3 : World} {X Y W H : Int} {v : Value} {m : List Nat} {o : Obj} (h : NextInv wo w2 X Y W H v m) (hg : (w2.alloc o).grownBy w3 v.ownBlock) :
    Fld w3 wo.heap.size X Y W H v ∧ Below wo.heap.size wo w3 := by
  have hne : ∀ k, k < wo.heap.size + 1 → some k ≠ v.ownBlock := fun k hk e => by
    have := (h.own.lt k e.symm).1; omega
  refine ⟨(h.fo.alloc o).grown hg (hne _ (by omega)), ?_⟩
  have hz := h.below.size
  refine (h.below.alloc hz o).grown hg (by simp; omega) (fun k hk => ?_)
  have := (h.own.lt k hk).1
  omega
theorem NextInv.app {wo w2 w3 : World} {X Y W H : Int} {v : Value} {m : List Nat} {o : Obj} (h : NextInv wo w2 X Y W H v m) {y g cap : Nat} (hy : y < 4294967296)
    (hown : w3.ownsRow (wo.heap.size + 1) /-T-/23 1 (.slice (some ⟨g, 0, none⟩) (m.length + 1) cap) (m.length + 1) (fls m ++ [.float .f32 y])) (hg : (w2.alloc o).grownBy w3 v.ownBlock) :
    NextInv wo (w3.setCell ⟨wo.heap.size, 4, none⟩ (.slice (some ⟨g, 0, none⟩) (m.length + 1) cap)) X Y W H (.slice (some ⟨g, 0, none⟩) (m.length + 1) cap) (m ++ [y]) := by
  obtain ⟨c, d⟩ := h.mid hg
  have hgl := (hown.lt g rfl).1
  refine ⟨c.set4 _, ?_, ?_, d.setCell (by show wo.heap.size ≤ wo.heap.size; omega) _⟩
  · have e : fls (m ++ [y]) = fls m ++ [.float .f32 y] := by unfold fls; simp
    have e2 : (m ++ [y]).length = m.length + 1 := by simp
    rw [e, e2]
    refine ⟨hown.1, ?_⟩
    rcases hown.2 with h2 | ⟨g', cap', cur, hv, hB, hh, r⟩
    · exact .inl h2
    · have : g' = g := by simp at hv; exact hv.1.symm
      subst this
      exact .inr ⟨g', cap', cur, hv, hB, (Below.heap_setCell w3 _ _ g' (by show g' ≠ wo.heap.size; omega)).trans hh, r⟩
  · intro x hx
    rcases List.mem_append.1 hx with hx | hx
    · exact h.wf x hx
    · have : x = y := by simpa using hx
      rw [this]; exact hy

end Go.Proofs.YtkmcinibaffpmaaGreat
