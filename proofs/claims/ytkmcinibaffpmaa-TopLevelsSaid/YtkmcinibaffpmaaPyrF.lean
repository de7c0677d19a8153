import Derived.Test.YtkmcinibaffpmaaDownOp
namespace Go.Proofs.Ytkmcinibaffpmaa
open Go.ChangeShapes Go.WideShapes Go.ChangeAt Go.RowKit
open Ieee.Format (fin finE htE allFin allHt all_true all_false mulF subF addF Ht Bd divF rootF floorF easeF mixF)
set_option linter.unusedVariables false

theorem Try.infoFld : (Try.prog.info? 26).map (fun i => (i.zero, i.size, i.bytes)) = some (some (.agg #[.int .i64 0, .int .i64 0, .int .i64 0, .int .i64 0, .slice none 0 0]), 5, 56) := by kernel_rfl

/-! ### slices of fields -/
/-- a field: its value, its row's block, its capacity -/
abbrev FE := Lv × Nat × Nat
def feC (e : FE) : List Value := [.int .i64 e.1.X, .int .i64 e.1.Y, .int .i64 e.1.W, .int .i64 e.1.H, .slice (some ⟨e.2.1, 0, none⟩) e.1.l.length e.2.2]
def feL (L : List FE) : List Value := L.flatMap feC
theorem feL_append (l m : List FE) : feL (l ++ m) = feL l ++ feL m := by unfold feL; simp
theorem feL_one (r : FE) : feL [r] = feC r := by unfold feL; simp
def feAt (L : List FE) (i : Nat) : FE := L.getD i (⟨0, 0, 0, 0, []⟩, 0, 0)
theorem feAt_eq {L : List FE} {i : Nat} (h : i < L.length) : feAt L i = L[i] := by unfold feAt; rw [List.getD_eq_getElem?_getD, List.getElem?_eq_getElem h]; rfl
theorem feL_get (L : List FE) (i : Nat) (hi : i < L.length) (t : Nat) (ht : t < 5) : (feL L)[i * 5 + t]? = (feC (feAt L i))[t]? := by
  induction L generalizing i with
  | nil => simp at hi
  | cons a L ih =>
    have e : feL (a :: L) = feC a ++ feL L := rfl
    have hl : (feC a).length = 5 := rfl
    rw [e]
    cases i with
    | zero => rw [Nat.zero_mul, Nat.zero_add, List.getElem?_append_left (by rw [hl]; exact ht)]; rfl
    | succ i =>
      rw [List.getElem?_append_right (by rw [hl]; omega), hl, show (i + 1) * 5 + t - 5 = i * 5 + t by omega]
      exact ih i (by simpa using hi)
theorem SRow.grown {w w' : World} {row : Option Nat} {b : Nat} {l : List Nat} (h : SRow w (some ⟨b, 0, none⟩) l) (hg : w.grownBy w' row) (hb : some b ≠ row) : SRow w' (some ⟨b, 0, none⟩) l := by
  obtain ⟨h1, h2⟩ := h
  refine ⟨h1, ?_⟩
  rcases h2 with h2 | ⟨b', o', e, h2⟩
  · exact .inl h2
  · cases e
    exact .inr ⟨b, 0, rfl, fun i hi => hg.cell (h2 i hi) hb⟩
/-- each field's values lie in memory -/
def FRows (w : World) (L : List FE) : Prop := ∀ e ∈ L, e.1.l ≠ [] ∧ e.2.1 < w.heap.size ∧ SRow w (some ⟨e.2.1, 0, none⟩) e.1.l
theorem FRows.below {w w' : World} {L : List FE} (h : FRows w L) (hb : Below w.heap.size w w') : FRows w' L := fun e he => by
  obtain ⟨a, b, c⟩ := h e he
  exact ⟨a, Nat.lt_of_lt_of_le b hb.size, c.below hb⟩

structure PyrInv (w wr : World) (B : Nat) (v : Value) (L : List FE) : Prop where
  own : wr.ownsRow B 26 5 v L.length (feL L)
  rows : FRows wr L
  pos : 0 < L.length
  bz : B ≤ wr.heap.size
  lb : w.heap.size ≤ B
  below : Below w.heap.size w wr
section
variable {w wr w2 w3 : World} {B : Nat} {v v' : Value} {L : List FE}
theorem PyrInv.call (h : PyrInv w wr B v L) (hb : Below wr.heap.size wr w2) : PyrInv w w2 B v L :=
  ⟨ownsRow_below h.own hb (fun k hk => (h.own.lt k hk).2), h.rows.below hb, h.pos, Nat.le_trans h.bz hb.size, h.lb, h.below.trans (hb.mono h.below.size)⟩
theorem PyrInv.alloc (h : PyrInv w wr B v L) (o : Obj) : PyrInv w (wr.alloc o) B v L := h.call ((Below.refl _ _).alloc (Nat.le_refl _) _)
theorem PyrInv.val (h : PyrInv w wr B v L) : ∃ g cap, v = .slice (some ⟨g, 0, none⟩) L.length cap ∧ B ≤ g ∧ g < wr.heap.size := by
  have p := h.pos
  rcases h.own.2 with ⟨_, h0⟩ | ⟨g, cap, cur, he, _⟩
  · omega
  · subst he
    exact ⟨g, cap, rfl, h.own.lt g rfl⟩
theorem PyrInv.get (h : PyrInv w wr B v L) {g cap : Nat} (hv : v = .slice (some ⟨g, 0, none⟩) L.length cap) {i : Nat} (hi : i < L.length) (t : Nat) (ht : t < 5) : wr.cell? ⟨g, i * 5 + t, none⟩ = (feC (feAt L i))[t]? := by
  have ho := h.own
  rw [hv] at ho
  rw [ho.cellAt (i * 5 + t) (by omega)]
  exact feL_get L i hi t ht
/-- the slice's block holds no field's values -/
theorem PyrInv.ne (h : PyrInv w wr B v L) : ∀ e : FE, e.1.l ≠ [] → SRow wr (some ⟨e.2.1, 0, none⟩) e.1.l → some e.2.1 ≠ v.ownBlock := by
  intro e he hr hc
  obtain ⟨g, cap, hv, _⟩ := h.val
  have c0 := h.get hv h.pos 0 (by omega)
  have c1 := hr.at_ (List.length_pos_iff.2 he)
  rw [hv] at hc
  have : e.2.1 = g := Option.some.inj hc
  rw [this] at c1
  simp only [Nat.zero_mul, Nat.add_zero] at c0 c1
  rw [c0] at c1
  simp [feC] at c1
theorem PyrInv.app {r : FE} {o : Obj} (h : PyrInv w w2 B v L) (hr : r.1.l ≠ [] ∧ r.2.1 < w2.heap.size ∧ SRow w2 (some ⟨r.2.1, 0, none⟩) r.1.l)
    (hown : w3.ownsRow B 26 5 v' (L.length + 1) (feL L ++ feC r)) (hg : (w2.alloc o).grownBy w3 v.ownBlock) : PyrInv w w3 B v' (L ++ [r]) := by
  have hA := h.alloc o
  have bA : Below w2.heap.size w2 (w2.alloc o) := (Below.refl _ _).alloc (Nat.le_refl _) _
  refine ⟨?_, ?_, by simp, Nat.le_trans hA.bz hg.size, h.lb, ?_⟩
  · rw [feL_append, feL_one]; simpa using hown
  · intro e he
    have : e.1.l ≠ [] ∧ e.2.1 < w2.heap.size ∧ SRow w2 (some ⟨e.2.1, 0, none⟩) e.1.l := by
      rcases List.mem_append.1 he with he | he
      · exact h.rows e he
      · rw [List.mem_singleton.1 he]; exact hr
    obtain ⟨a, b, c⟩ := this
    have cA := c.below bA
    exact ⟨a, Nat.lt_of_lt_of_le (Nat.lt_of_lt_of_le b bA.size) hg.size, cA.grown hg (hA.ne e a cA)⟩
  · refine hA.below.grown hg (by have := hA.below.size; exact this) (fun k hk => ?_)
    have := (h.own.lt k hk).1
    have := h.lb
    omega
end
theorem PyrInv.start (w w1 : World) (B : Nat) (e : FE) (hb : Below w.heap.size w w1) (hB : w.heap.size ≤ B) (hB1 : B ≤ w1.heap.size) (hr : e.1.l ≠ [] ∧ e.2.1 < w1.heap.size ∧ SRow w1 (some ⟨e.2.1, 0, none⟩) e.1.l) :
    PyrInv w (w1.alloc (.cells #[.int .i64 e.1.X, .int .i64 e.1.Y, .int .i64 e.1.W, .int .i64 e.1.H, .slice (some ⟨e.2.1, 0, none⟩) e.1.l.length e.2.2] 26)) B (.slice (some ⟨w1.heap.size, 0, none⟩) 1 1) [e] := by
  have bA : Below w1.heap.size w1 (w1.alloc (.cells #[.int .i64 e.1.X, .int .i64 e.1.Y, .int .i64 e.1.W, .int .i64 e.1.H, .slice (some ⟨e.2.1, 0, none⟩) e.1.l.length e.2.2] 26)) := (Below.refl _ _).alloc (Nat.le_refl _) _
  refine ⟨?_, ?_, by simp, Nat.le_trans hB1 bA.size, hB, hb.trans (bA.mono hb.size)⟩
  · rw [feL_one]
    exact World.ownsRow_lit (base := B) (e := 26) (size := 5) w1 _ 1 hB1 (by decide) rfl
  · intro e' he
    rw [List.mem_singleton.1 he]
    exact ⟨hr.1, Nat.lt_of_lt_of_le hr.2.1 bA.size, hr.2.2.below bA⟩
end Go.Proofs.Ytkmcinibaffpmaa
