import Derived.Test.YtnfebeebjelgbaaDirFn
import Derived.Test.YtnfebeebjelgbaaRefSlope
namespace Go.Proofs.Ytnfebeebjelgbaa
open Go.ChangeShapes Go.WideShapes Go.ChangeAt Go.RowKit
open Ieee.Format (fin finE htE allFin allHt all_true all_false mulF subF addF Ht Bd divF rootF floorF easeF mixF)
set_option linter.unusedVariables false
open Ieee.Format (negF gradF grad_bd Bd.neg negF_parts gradF_lt)

/-- which way the ground goes down, in a cell -/
def aspZ (l : List Nat) (Wn k : Nat) : Int := dirF (negF (gradF (l.getD (k + 1) 0) (l.getD (k - 1) 0))) (negF (gradF (l.getD (k + Wn) 0) (l.getD (k - Wn) 0)))
def madeZ (ψ : Int → Int → Int) (X Y : Int) (W n : Nat) : List Int := (List.range n).map fun k => ψ (X + ((k % W : Nat) : Int)) (Y + ((k / W : Nat) : Int))
theorem madeZ_len (ψ : Int → Int → Int) (X Y : Int) (W n : Nat) : (madeZ ψ X Y W n).length = n := by simp [madeZ]
theorem madeZ_succ (ψ : Int → Int → Int) (X Y : Int) (W i j : Nat) (hi : i < W) : madeZ ψ X Y W (j * W + i + 1) = madeZ ψ X Y W (j * W + i) ++ [ψ (X + (i : Int)) (Y + (j : Int))] := by
  have h1 : (j * W + i) % W = i := by rw [Nat.mul_comm, Nat.mul_add_mod, Nat.mod_eq_of_lt hi]
  have h2 : (j * W + i) / W = j := by rw [Nat.mul_comm, Nat.mul_add_div (by omega), Nat.div_eq_of_lt hi]; rfl
  unfold madeZ
  rw [List.range_succ, List.map_append, List.map_singleton, h1, h2]

theorem Try.infoInt : (Try.prog.info? 3).map (fun i => (i.zero, i.size, i.bytes)) = some (some (.int .i64 0), 1, 8) := by kernel_rfl

/-- a slice of whole numbers -/
def IRow (w : World) (a : Option Addr) (m : List Int) : Prop := m.length ≤ 1099511627776 ∧ (m = [] ∨ ∃ b o, a = some ⟨b, o, none⟩ ∧ ∀ i, i < m.length → w.cell? ⟨b, o + i, none⟩ = some (.int .i64 (m.getD i 0)))
theorem IRow.below {w w' : World} {a : Option Addr} {m : List Int} (h : IRow w a m) (hb : Below w.heap.size w w') : IRow w' a m := by
  obtain ⟨h1, h2⟩ := h
  refine ⟨h1, ?_⟩
  rcases h2 with h2 | ⟨b, o, e, hc⟩
  · exact .inl h2
  · refine .inr ⟨b, o, e, fun i hi => ?_⟩
    rw [hb.cell (World.block_lt_of_cell? w _ (hc i hi))]
    exact hc i hi
theorem IRow.setCell {w : World} {g : Nat} {m : List Int} (h : IRow w (some ⟨g, 0, none⟩) m) {p : Addr} (hp : g ≠ p.block) (u : Value) : IRow (w.setCell p u) (some ⟨g, 0, none⟩) m := by
  obtain ⟨h1, h2⟩ := h
  refine ⟨h1, ?_⟩
  rcases h2 with h2 | ⟨b, o, e, hc⟩
  · exact .inl h2
  · cases e
    refine .inr ⟨g, 0, rfl, fun i hi => ?_⟩
    rw [← hc i hi]
    exact World.cell?_of_block (w := w) (w' := w.setCell p u) (a := ⟨g, 0 + i, none⟩) (Below.heap_setCell w p u g hp)
theorem IRow.drew {w : World} {a : Option Addr} {m : List Int} (h : IRow w a m) : IRow w.drew a m := h
theorem IRow.drewN {w : World} {a : Option Addr} {m : List Int} (h : IRow w a m) (n : Nat) : IRow (w.drewN n) a m := h
theorem IRow.nil (w : World) (a : Option Addr) : IRow w a [] := ⟨by simp, .inl rfl⟩
theorem irow_of {w : World} {B g cap : Nat} {m : List Int} (h : w.ownsRow B 3 1 (.slice (some ⟨g, 0, none⟩) m.length cap) m.length (m.map (Value.int .i64))) (hm : m.length ≤ 1099511627776) : IRow w (some ⟨g, 0, none⟩) m := by
  refine ⟨hm, .inr ⟨g, 0, rfl, fun i hi => ?_⟩⟩
  rw [Nat.zero_add, h.cellAt i (by omega), List.getElem?_map, List.getD_eq_getElem?_getD, List.getElem?_eq_getElem hi]
  rfl

/-- what Aspect gives -/
def DirP (C X1 Y1 W1 H1 : Int) (m : List Int) (w : World) (e : Ending) (w' : World) : Prop :=
  (∃ a k, e = .returned (.tuple #[.slice a m.length k, reg X1 Y1 W1 H1, .int .i64 C]) ∧ IRow w' a m) ∧ Below w.heap.size w w'

structure AspInv (w wr : World) (r : Nat) (X Y : Int) (Wn Hn : Nat) (x1 y1 : Int) (W2 H2 : Nat) (u : Value) (v : Value) (m : List Int) : Prop where
  fo : Fld wr w.heap.size X Y Wn Hn u
  rz : Reg wr (w.heap.size + 1) 0 0 0 0
  rg : Reg wr r x1 y1 (W2 : Int) (H2 : Int)
  lr : w.heap.size + 1 < r
  own : wr.ownsRow (r + 1) 3 1 v m.length (m.map (Value.int .i64))
  below : Below w.heap.size w wr

theorem AspInv.call {w wr w2 : World} {r : Nat} {X Y : Int} {Wn Hn : Nat} {x1 y1 : Int} {W2 H2 : Nat} {u v : Value} {m : List Int} (h : AspInv w wr r X Y Wn Hn x1 y1 W2 H2 u v m) (hb : Below wr.heap.size wr w2) : AspInv w w2 r X Y Wn Hn x1 y1 W2 H2 u v m :=
  ⟨h.fo.below hb h.fo.lt, h.rz.below hb h.rz.lt, h.rg.below hb h.rg.lt, h.lr, ownsRow_below h.own hb (fun k hk => (h.own.lt k hk).2), h.below.trans (hb.mono h.below.size)⟩

theorem AspInv.app {w w2 w3 : World} {r : Nat} {X Y : Int} {Wn Hn : Nat} {x1 y1 : Int} {W2 H2 : Nat} {u v v' : Value} {m : List Int} {y : Int} {o : Obj} (h : AspInv w w2 r X Y Wn Hn x1 y1 W2 H2 u v m)
    (hown : w3.ownsRow (r + 1) 3 1 v' (m.length + 1) (m.map (Value.int .i64) ++ [.int .i64 y])) (hg : (w2.alloc o).grownBy w3 v.ownBlock) : AspInv w w3 r X Y Wn Hn x1 y1 W2 H2 u v' (m ++ [y]) := by
  have hne : ∀ k, k ≤ r → some k ≠ v.ownBlock := fun k hk e => by
    have := (h.own.lt k e.symm).1; omega
  have lr := h.lr
  refine ⟨(h.fo.alloc o).grown hg (hne _ (by omega)), (h.rz.alloc o).grown hg (hne _ (by omega)), (h.rg.alloc o).grown hg (hne _ (by omega)), h.lr, ?_, ?_⟩
  · simpa using hown
  · have hz := h.below.size
    refine (h.below.alloc hz o).grown hg (by simp; omega) (fun k hk => ?_)
    have := (h.own.lt k hk).1
    omega

theorem asp_start (w : World) (X Y : Int) (Wn Hn : Nat) (x1 y1 : Int) (W2 H2 : Nat) (u : Value) (w1 : World) (E1 : Fld w1 w.heap.size X Y Wn Hn u) (R1 : Reg w1 (w.heap.size + 1) 0 0 0 0) (B1 : Below w.heap.size w w1) :
    ∀ WW, WW = w1.alloc (.cells #[.int .i64 x1, .int .i64 y1, .int .i64 (W2 : Int), .int .i64 (H2 : Int)] 23) → AspInv w WW w1.heap.size X Y Wn Hn x1 y1 W2 H2 u (.slice none 0 0) [] := by
  rintro _ rfl
  exact ⟨E1.alloc _, R1.alloc _, Reg.new _ _ _ _ _, R1.lt, World.ownsRow_nil _ _ _ _, B1.alloc B1.size _⟩

/-- the two differences, each with its sign turned -/
theorem neg_bds {X Y : Int} {Wn Hn : Nat} {l : List Nat} (hr : Right X Y Wn Hn l) (i j : Nat) : Bd 20 (negF (gradF (l.getD i 0) (l.getD j 0))) ∧ negF (gradF (l.getD i 0) (l.getD j 0)) < 4294967296 :=
  ⟨Ieee.Format.Bd.neg (grad_bd (hr.bd i) (hr.bd j) (by omega)).2 (gradF_lt _ _), (negF_parts (gradF_lt _ _)).2.2⟩
end Go.Proofs.Ytnfebeebjelgbaa
