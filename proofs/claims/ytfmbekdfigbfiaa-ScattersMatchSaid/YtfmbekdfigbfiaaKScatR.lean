import Derived.Test.YtfmbekdfigbfiaaKScatQ
import Derived.Deep.DeepCutAuto
import Derived.Deep.AppendLies
namespace Go.Proofs.Ytfmbekdfigbfiaa
open Go.ChangeShapes Go.WideShapes Go.ChangeAt Go.RowKit
open Ieee.Format (fin finE htE allFin allHt all_true all_false mulF subF addF Ht Bd divF rootF floorF easeF mixF)
set_option linter.unusedVariables false
open Wide

/-! ### the reference's Scatter -/
theorem th_idx {L : List (Int × Int)} (hL : L.Pairwise ltC) {m k : Nat} {d q : Int × Int} (hm : L[m]? = some d) (hk : L[k]? = some q) : (ltC d q ↔ m < k) ∧ (d = q ↔ m = k) := by
  obtain ⟨h1, e1⟩ := List.getElem?_eq_some_iff.1 hm
  obtain ⟨h2, e2⟩ := List.getElem?_eq_some_iff.1 hk
  have hp := List.pairwise_iff_getElem.1 hL
  rcases Nat.lt_trichotomy m k with h | h | h
  · have := hp m k h1 h2 h
    rw [e1, e2] at this
    exact ⟨⟨fun _ => h, fun _ => this⟩, ⟨fun e => by subst e; exact absurd this (ltC_irr _), fun e => absurd e (by omega)⟩⟩
  · subst h
    have : d = q := by rw [← e1, ← e2]
    subst this
    exact ⟨⟨fun e => absurd e (ltC_irr _), fun e => absurd e (by omega)⟩, ⟨fun _ => rfl, fun _ => rfl⟩⟩
  · have := hp k m h2 h1 h
    rw [e1, e2] at this
    exact ⟨⟨fun e => absurd (ltC_trans e this) (ltC_irr _), fun e => absurd e (by omega)⟩, ⟨fun e => by subst e; exact absurd this (ltC_irr _), fun e => absurd e (by omega)⟩⟩
def rcC (seed c : Int) (q : Int × Int) : List Value := [.int .i64 q.1, .int .i64 q.2, .int .u32 (rkI seed q), .int .i64 (plI seed c q).1, .int .i64 (plI seed c q).2]
def rcL (seed c : Int) (l : List (Int × Int)) : List Value := l.flatMap (rcC seed c)
theorem rcL_app (seed c : Int) (a b : List (Int × Int)) : rcL seed c (a ++ b) = rcL seed c a ++ rcL seed c b := by simp [rcL]
theorem rcL_one (seed c : Int) (q : Int × Int) : rcL seed c [q] = rcC seed c q := by simp [rcL]
theorem Try.infoRc : (Try.prog.info? 195).map (fun i => (i.zero, i.size, i.bytes)) = some (some (.agg #[.int .i64 0, .int .i64 0, .int .u32 0, .int .i64 0, .int .i64 0]), 5, 40) := by kernel_rfl
theorem rcL_get (seed c : Int) (L : List (Int × Int)) (n : Nat) (q : Int × Int) (hq : L[n]? = some q) (t : Nat) (ht : t < 5) : (rcL seed c L)[n * 5 + t]? = (rcC seed c q)[t]? := by
  induction L generalizing n with
  | nil => simp at hq
  | cons x L ih =>
    have hl : (rcC seed c x).length = 5 := rfl
    have e : rcL seed c (x :: L) = rcC seed c x ++ rcL seed c L := rfl
    rw [e]
    cases n with
    | zero =>
      simp only [List.getElem?_cons_zero, Option.some.injEq] at hq
      subst hq
      rw [List.getElem?_append_left (by rw [hl]; omega)]
      congr 1; omega
    | succ n =>
      rw [List.getElem?_append_right (by rw [hl]; omega), hl, show (n + 1) * 5 + t - 5 = n * 5 + t by omega]
      exact ih n (by simpa using hq)
/-- a row of the reference's candidates, as it is read -/
def RcR (seed c : Int) (w : World) (g : Nat) (L : List (Int × Int)) : Prop := g < w.heap.size ∧ ∀ (n : Nat) (q : Int × Int), L[n]? = some q → ∀ t, t < 5 → w.cell? ⟨g, n * 5 + t, none⟩ = (rcC seed c q)[t]?
theorem RcR.below {seed c : Int} {w w' : World} {g : Nat} {L : List (Int × Int)} (h : RcR seed c w g L) (hb : Below w.heap.size w w') : RcR seed c w' g L :=
  ⟨Nat.lt_of_lt_of_le h.1 hb.size, fun n q hq t ht => (hb.cell (p := ⟨g, n * 5 + t, none⟩) h.1).trans (h.2 n q hq t ht)⟩
theorem RcR.of {seed c : Int} {w : World} {B g n cap : Nat} {L : List (Int × Int)} (h : w.ownsRow B 195 5 (.slice (some ⟨g, 0, none⟩) n cap) n (rcL seed c L)) (hn : n = L.length) : RcR seed c w g L := by
  refine ⟨(h.lt g rfl).2, fun m q hq t ht => ?_⟩
  have hm : m < L.length := (List.getElem?_eq_some_iff.1 hq).1
  rw [h.cellAt (m * 5 + t) (by omega)]
  exact rcL_get seed c L m q hq t ht
/-- the memory of the first loops -/
structure RfI (seed c : Int) (sh : Nat) (ap X Y : Int) (P Q : Nat) (w wr : World) (B : Nat) (v : Value) (m : List (Int × Int)) : Prop where
  s : Blk wr w.heap.size (scC seed c sh ap) 93
  r : Reg wr (w.heap.size + 1) X Y P Q
  lb : w.heap.size + 1 < B
  bz : B ≤ wr.heap.size
  own : wr.ownsRow B 195 5 v m.length (rcL seed c m)
  b : Below w.heap.size w wr
section
variable {seed c : Int} {sh : Nat} {ap X Y : Int} {P Q : Nat} {w wr w2 w3 : World} {B : Nat} {v v' : Value} {m : List (Int × Int)}
theorem RfI.call (h : RfI seed c sh ap X Y P Q w wr B v m) (hb : Below wr.heap.size wr w2) : RfI seed c sh ap X Y P Q w w2 B v m :=
  ⟨h.s.below hb h.s.lt, h.r.below hb h.r.lt, h.lb, Nat.le_trans h.bz hb.size, ownsRow_below h.own hb (fun k hk => (h.own.lt k hk).2), h.b.trans (hb.mono h.b.size)⟩
theorem RfI.drew (h : RfI seed c sh ap X Y P Q w wr B v m) : RfI seed c sh ap X Y P Q w wr.drew B v m := h.call (Below.refl _ _).drew
theorem RfI.alloc (h : RfI seed c sh ap X Y P Q w wr B v m) (o : Obj) : RfI seed c sh ap X Y P Q w (wr.alloc o) B v m := h.call ((Below.refl _ _).alloc (Nat.le_refl _) _)
theorem RfI.app {q : Int × Int} (h : RfI seed c sh ap X Y P Q w w2 B v m)
    (hown : w3.ownsRow B 195 5 v' (m.length + 1) (rcL seed c m ++ rcC seed c q)) (hg : w2.grownBy w3 v.ownBlock) : RfI seed c sh ap X Y P Q w w3 B v' (m ++ [q]) := by
  have hb0 := h.lb
  have hbl : Below B w2 w3 := (Below.refl B w2).grown hg h.bz (fun k hk => (h.own.lt k hk).1)
  refine ⟨(hbl.block _ (by omega)).trans h.s, (hbl.block _ hb0).trans h.r, h.lb, Nat.le_trans h.bz hg.size, ?_, h.b.trans (hbl.mono (by omega))⟩
  rw [rcL_app, rcL_one]; simpa using hown
end
/-- the memory of the last loops -/
structure RgI (seed c : Int) (sh : Nat) (ap X Y : Int) (P Q : Nat) (w wr : World) (B g : Nat) (L : List (Int × Int)) (v : Value) (m : List (Int × Int)) : Prop where
  s : Blk wr w.heap.size (scC seed c sh ap) 93
  r : Reg wr (w.heap.size + 1) X Y P Q
  a : RcR seed c wr g L
  lb : w.heap.size + 1 < B
  gb : g < B
  bz : B ≤ wr.heap.size
  own : wr.ownsRow B 36 2 v m.length (ptsV m)
  b : Below w.heap.size w wr
section
variable {seed c : Int} {sh : Nat} {ap X Y : Int} {P Q : Nat} {w wr w2 w3 : World} {B g : Nat} {L : List (Int × Int)} {v v' : Value} {m : List (Int × Int)}
theorem RgI.call (h : RgI seed c sh ap X Y P Q w wr B g L v m) (hb : Below wr.heap.size wr w2) : RgI seed c sh ap X Y P Q w w2 B g L v m :=
  ⟨h.s.below hb h.s.lt, h.r.below hb h.r.lt, h.a.below hb, h.lb, h.gb, Nat.le_trans h.bz hb.size, ownsRow_below h.own hb (fun k hk => (h.own.lt k hk).2), h.b.trans (hb.mono h.b.size)⟩
theorem RgI.drew (h : RgI seed c sh ap X Y P Q w wr B g L v m) : RgI seed c sh ap X Y P Q w wr.drew B g L v m := h.call (Below.refl _ _).drew
theorem RgI.alloc (h : RgI seed c sh ap X Y P Q w wr B g L v m) (o : Obj) : RgI seed c sh ap X Y P Q w (wr.alloc o) B g L v m := h.call ((Below.refl _ _).alloc (Nat.le_refl _) _)
theorem RgI.app {p : Int × Int} {o : Obj} (h : RgI seed c sh ap X Y P Q w w2 B g L v m)
    (hown : w3.ownsRow B 36 2 v' (m.length + 1) (ptsV m ++ [.int .i64 p.1, .int .i64 p.2])) (hg : (w2.alloc o).grownBy w3 v.ownBlock) : RgI seed c sh ap X Y P Q w w3 B g L v' (m ++ [p]) := by
  have hA := h.alloc o
  have hb0 := h.lb
  have hbl : Below B (w2.alloc o) w3 := (Below.refl B (w2.alloc o)).grown hg hA.bz (fun k hk => (h.own.lt k hk).1)
  refine ⟨(hbl.block _ (by omega)).trans hA.s, (hbl.block _ hb0).trans hA.r, ⟨Nat.lt_of_lt_of_le h.gb (Nat.le_trans hA.bz hg.size), fun n q hq t ht => (hbl.cell (p := ⟨g, n * 5 + t, none⟩) h.gb).trans (hA.a.2 n q hq t ht)⟩, h.lb, h.gb, Nat.le_trans hA.bz hg.size, ?_, hA.b.trans (hbl.mono (by omega))⟩
  rw [ptsV_app, ptsV_one]; simpa using hown
end
/-- what the reference chooses of the first of the cells -/
def rfL (seed c : Int) (sh : Nat) (ap X Y : Int) (P Q : Nat) (L L0 : List (Int × Int)) : List (Int × Int) := (L0.filter fun q => insR X Y P Q (plI seed c q) && !(L.any fun d => exB ap (thB seed sh) (rkI seed) (plI seed c) q d)).map (plI seed c)
theorem rfL_next {seed c : Int} {sh : Nat} {ap X Y : Int} {P Q : Nat} {L L0 : List (Int × Int)} {q : Int × Int} : rfL seed c sh ap X Y P Q L (L0 ++ [q]) = rfL seed c sh ap X Y P Q L L0 ++ (if (insR X Y P Q (plI seed c q) && !(L.any fun d => exB ap (thB seed sh) (rkI seed) (plI seed c) q d)) = true then [plI seed c q] else []) := by
  unfold rfL
  rw [List.filter_append, List.map_append]
  congr 1
  by_cases h : (insR X Y P Q (plI seed c q) && !(L.any fun d => exB ap (thB seed sh) (rkI seed) (plI seed c) q d)) = true
  · rw [if_pos h, List.filter_cons]; simp only [List.filter_nil]; rw [if_pos h]; rfl
  · rw [if_neg h, List.filter_cons]; simp only [List.filter_nil]; rw [if_neg h]; rfl
theorem rfL_len (seed c : Int) (sh : Nat) (ap X Y : Int) (P Q : Nat) (L L0 : List (Int × Int)) : (rfL seed c sh ap X Y P Q L L0).length ≤ L0.length := by
  unfold rfL; rw [List.length_map]; exact List.length_filter_le _ _
theorem any_none {α : Type} {L : List α} {p : α → Bool} (h : ∀ (m : Nat) (d : α), L[m]? = some d → p d = false) : L.any p = false := by
  rw [List.any_eq_false]
  intro x hx
  obtain ⟨m, hm, rfl⟩ := List.mem_iff_getElem.1 hx
  rw [h m _ (List.getElem?_eq_getElem hm)]; simp
theorem any_some {α : Type} {L : List α} {p : α → Bool} {m : Nat} {d : α} (hm : L[m]? = some d) (h : p d = true) : L.any p = true :=
  List.any_eq_true.2 ⟨d, List.mem_of_getElem? hm, h⟩
end Go.Proofs.Ytfmbekdfigbfiaa
