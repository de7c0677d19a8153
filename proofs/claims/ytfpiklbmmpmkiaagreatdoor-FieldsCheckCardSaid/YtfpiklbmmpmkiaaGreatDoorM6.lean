import Derived.Test.YtfpiklbmmpmkiaaGreatDoorM5
import Derived.OwnWalk
import Derived.Test.YtfpiklbmmpmkiaaGreatDoorM4
import Derived.StillTailTactics
namespace Go.Proofs.YtfpiklbmmpmkiaaGreatDoor
open Go.ChangeShapes Go.WideShapes Go.ChangeAt Go.RowKit
open Ieee.Format (fin finE htE allFin allHt all_true all_false finE_ok finE_bad htE_ok htE_far htE_bad mulF subF addF)
set_option linter.unusedVariables false

/-- the loops of field.Make: the field lies in block 'k5', its row in another one -/
structure MakeInv (w wr : World) (k5 : Nat) (X Y W H : Int) (v : Value) (m : List Nat) : Prop where
  rg : Reg wr w.heap.size X Y W H
  rz : Fld wr (w.heap.size + 1) 0 0 0 0 (.slice none 0 0)
  fo : Fld wr k5 X Y W H v
  k5g : w.heap.size + 2 ≤ k5
  ne : v.ownBlock ≠ some k5
  own : wr.ownsRow (w.heap.size + 2) /-T-/30 1 v m.length (fls m)
  wf : ∀ x ∈ m, x < 4294967296
  below : Below w.heap.size w wr

theorem MakeInv.call {w wr w2 : World} {k5 : Nat} {X Y W H : Int} {v : Value} {m : List Nat} (h : MakeInv w wr k5 X Y W H v m) (hb : Below wr.drew.heap.size wr.drew w2) : MakeInv w w2 k5 X Y W H v m :=
  ⟨h.rg.drew.below hb h.rg.lt, h.rz.drew.below hb h.rz.lt, h.fo.drew.below hb h.fo.lt, h.k5g, h.ne, ownsRow_below (w := wr.drew) h.own hb (fun k hk => (h.own.lt k hk).2), h.wf,
    (h.below.drew).trans (hb.mono (show w.heap.size ≤ wr.heap.size from h.below.size))⟩

theorem MakeInv.mid {w w2 w3 : World} {k5 : Nat} {X Y W H : Int} {v : Value} {m : List Nat} {o : Obj} (h : MakeInv w w2 k5 X Y W H v m) (hg : (w2.alloc o).grownBy w3 v.ownBlock) :
    Reg w3 w.heap.size X Y W H ∧ Fld w3 (w.heap.size + 1) 0 0 0 0 (.slice none 0 0) ∧ Fld w3 k5 X Y W H v ∧ Below w.heap.size w w3 := by
  have hne : ∀ k, k < w.heap.size + 2 → some k ≠ v.ownBlock := fun k hk e => by
    have := (h.own.lt k e.symm).1; omega
  refine ⟨(h.rg.alloc o).grown hg (hne _ (by omega)), (h.rz.alloc o).grown hg (hne _ (by omega)), (h.fo.alloc o).grown hg (fun e => h.ne e.symm), ?_⟩
  have hz := h.below.size
  refine (h.below.alloc hz o).grown hg (by simp; omega) (fun k hk => ?_)
  have := (h.own.lt k hk).1
  omega

theorem MakeInv.app {w w2 w3 : World} {k5 : Nat} {X Y W H : Int} {v : Value} {m : List Nat} {o : Obj} (h : MakeInv w w2 k5 X Y W H v m) {y g cap : Nat} (hy : y < 4294967296)
    (hown : w3.ownsRow (w.heap.size + 2) /-T-/30 1 (.slice (some ⟨g, 0, none⟩) (m.length + 1) cap) (m.length + 1) (fls m ++ [.float .f32 y])) (hg : (w2.alloc o).grownBy w3 v.ownBlock) (hgk : g ≠ k5) :
    MakeInv w (w3.setCell ⟨k5, 4, none⟩ (.slice (some ⟨g, 0, none⟩) (m.length + 1) cap)) k5 X Y W H (.slice (some ⟨g, 0, none⟩) (m.length + 1) cap) (m ++ [y]) := by
  obtain ⟨a, b, c, d⟩ := h.mid hg
  have hgl := (hown.lt g rfl).1
  have hk5 := h.k5g
  refine ⟨a.setCell (by show w.heap.size ≠ k5; omega) _, b.setCell (by show w.heap.size + 1 ≠ k5; omega) _, c.set4 _, hk5, (by simp [Value.ownBlock]; exact hgk), ?_, ?_, d.setCell (by show w.heap.size ≤ k5; omega) _⟩
  · have e : fls (m ++ [y]) = fls m ++ [.float .f32 y] := by unfold fls; simp
    have e2 : (m ++ [y]).length = m.length + 1 := by simp
    rw [e, e2]
    refine ⟨hown.1, ?_⟩
    rcases hown.2 with h2 | ⟨g', cap', cur, hv, hB, hh, r⟩
    · exact .inl h2
    · have : g' = g := by simp at hv; exact hv.1.symm
      subst this
      exact .inr ⟨g', cap', cur, hv, hB, (Below.heap_setCell w3 _ _ g' hgk).trans hh, r⟩
  · intro x hx
    rcases List.mem_append.1 hx with hx | hx
    · exact h.wf x hx
    · have : x = y := by simpa using hx
      rw [this]; exact hy
end Go.Proofs.YtfpiklbmmpmkiaaGreatDoor

namespace Go.Proofs.YtfpiklbmmpmkiaaGreatDoor
open Go.ChangeShapes Go.WideShapes Go.ChangeAt Go.RowKit
open Ieee.Format (fin finE htE allFin allHt all_true all_false finE_ok finE_bad htE_ok htE_far htE_bad mulF subF addF)
set_option linter.unusedVariables false

set_option maxRecDepth 100000 in
theorem make_law (i0 : TypeInfo) (hi : Tryz.prog.info? /-T-/30 = some i0) (hz0 : i0.zero = some (.float .f32 0)) (hz1 : i0.size = 1) (hz2 : i0.bytes = 4) (n : Nat) (hn : n ≤ 262144) :
    ∃ o : Obj, (∀ w : World, (Instr.makeSlice /-T-/24 (.int .i64 0) (.int .i64 (n : Int))).run Tryz.prog w = .ok (.slice (some ⟨w.heap.size, 0, none⟩) 0 n) (w.alloc o)) ∧
      ∀ (w : World) (B : Nat), B ≤ w.heap.size → (w.alloc o).ownsRow B /-T-/30 1 (.slice (some ⟨w.heap.size, 0, none⟩) 0 n) 0 [] := by
  refine ⟨.cells (madeCells (Value.cells (.float .f32 0)) (n * i0.size)) /-T-/30, fun w => ?_, fun w B hB => ?_⟩
  · have hr := run_make (P := Tryz.prog) w /-T-/24 /-T-/30 i0 (.float .f32 0) (by rfl) hi hz0 .i64 .i64 0 n (Int.le_refl _) (by omega) (by rw [hz2]; omega) (by omega)
    simp only [Int.toNat_zero, Int.toNat_natCast] at hr
    exact hr
  · rw [hz1]
    exact World.ownsRow_made w _ n hB (by unfold maxLen; omega) (size_madeCells _ _)

theorem make_start1 (w : World) (X Y W H : Int) (oM : Obj) (n : Nat) (hm : ∀ (w : World) (B : Nat), B ≤ w.heap.size → (w.alloc oM).ownsRow B /-T-/30 1 (.slice (some ⟨w.heap.size, 0, none⟩) 0 n) 0 []) :
    ∀ W0, W0 = ((((w.alloc (.cells #[.int .i64 X, .int .i64 Y, .int .i64 W, .int .i64 H] /-T-/23)).alloc (.cells #[.int .i64 0, .int .i64 0, .int .i64 0, .int .i64 0, .slice none 0 0] /-T-/26)).alloc (.cells #[.int .i64 X, .int .i64 Y, .int .i64 W, .int .i64 H, .slice (some ⟨w.heap.size + 1 + 1 + 1, 0, none⟩) 0 n] /-T-/26)).alloc oM) →
    MakeInv w W0 (w.heap.size + 1 + 1) X Y W H (.slice (some ⟨w.heap.size + 1 + 1 + 1, 0, none⟩) 0 n) [] := by
  rintro _ rfl
  refine ⟨(((Reg.new w X Y W H).alloc _).alloc _).alloc _, ?_, ?_, by omega, by simp [Value.ownBlock], ?_, by simp, (by repeat (first | with_reducible exact Below.refl _ _ | with_reducible apply Below.drew | with_reducible refine below_drewN ?_ _ | (with_reducible refine Below.setCell ?_ ?_ _; rotate_left; focus (first | omega | (simp <;> omega))) | (with_reducible refine Below.alloc ?_ ?_ _; rotate_left; focus (first | omega | (simp <;> omega)))))⟩
  · have := ((Fld.new (w.alloc (.cells #[.int .i64 X, .int .i64 Y, .int .i64 W, .int .i64 H] /-T-/23)) 0 0 0 0 (.slice none 0 0)).alloc (.cells #[.int .i64 X, .int .i64 Y, .int .i64 W, .int .i64 H, .slice (some ⟨w.heap.size + 1 + 1 + 1, 0, none⟩) 0 n] /-T-/26)).alloc oM
    simpa using this
  · have := (Fld.new ((w.alloc (.cells #[.int .i64 X, .int .i64 Y, .int .i64 W, .int .i64 H] /-T-/23)).alloc (.cells #[.int .i64 0, .int .i64 0, .int .i64 0, .int .i64 0, .slice none 0 0] /-T-/26)) X Y W H (.slice (some ⟨w.heap.size + 1 + 1 + 1, 0, none⟩) 0 n)).alloc oM
    simpa using this
  · have := hm (((w.alloc (.cells #[.int .i64 X, .int .i64 Y, .int .i64 W, .int .i64 H] /-T-/23)).alloc (.cells #[.int .i64 0, .int .i64 0, .int .i64 0, .int .i64 0, .slice none 0 0] /-T-/26)).alloc (.cells #[.int .i64 X, .int .i64 Y, .int .i64 W, .int .i64 H, .slice (some ⟨w.heap.size + 1 + 1 + 1, 0, none⟩) 0 n] /-T-/26)) (w.heap.size + 2) (by simp)
    simpa [fls] using this
theorem make_start2 (w : World) (X Y W H : Int) (oM : Obj) (n : Nat) (hm : ∀ (w : World) (B : Nat), B ≤ w.heap.size → (w.alloc oM).ownsRow B /-T-/30 1 (.slice (some ⟨w.heap.size, 0, none⟩) 0 n) 0 []) :
    ∀ W0, W0 = ((((w.alloc (.cells #[.int .i64 X, .int .i64 Y, .int .i64 W, .int .i64 H] /-T-/23)).alloc (.cells #[.int .i64 0, .int .i64 0, .int .i64 0, .int .i64 0, .slice none 0 0] /-T-/26)).alloc oM).alloc (.cells #[.int .i64 X, .int .i64 Y, .int .i64 W, .int .i64 H, .slice (some ⟨w.heap.size + 1 + 1, 0, none⟩) 0 n] /-T-/26)) →
    MakeInv w W0 (w.heap.size + 1 + 1 + 1) X Y W H (.slice (some ⟨w.heap.size + 1 + 1, 0, none⟩) 0 n) [] := by
  rintro _ rfl
  refine ⟨(((Reg.new w X Y W H).alloc _).alloc _).alloc _, ?_, ?_, by omega, by simp [Value.ownBlock], ?_, by simp, (by repeat (first | with_reducible exact Below.refl _ _ | with_reducible apply Below.drew | with_reducible refine below_drewN ?_ _ | (with_reducible refine Below.setCell ?_ ?_ _; rotate_left; focus (first | omega | (simp <;> omega))) | (with_reducible refine Below.alloc ?_ ?_ _; rotate_left; focus (first | omega | (simp <;> omega)))))⟩
  · have := ((Fld.new (w.alloc (.cells #[.int .i64 X, .int .i64 Y, .int .i64 W, .int .i64 H] /-T-/23)) 0 0 0 0 (.slice none 0 0)).alloc oM).alloc (.cells #[.int .i64 X, .int .i64 Y, .int .i64 W, .int .i64 H, .slice (some ⟨w.heap.size + 1 + 1, 0, none⟩) 0 n] /-T-/26)
    simpa using this
  · have := Fld.new (((w.alloc (.cells #[.int .i64 X, .int .i64 Y, .int .i64 W, .int .i64 H] /-T-/23)).alloc (.cells #[.int .i64 0, .int .i64 0, .int .i64 0, .int .i64 0, .slice none 0 0] /-T-/26)).alloc oM) X Y W H (.slice (some ⟨w.heap.size + 1 + 1, 0, none⟩) 0 n)
    simpa using this
  · have h := hm ((w.alloc (.cells #[.int .i64 X, .int .i64 Y, .int .i64 W, .int .i64 H] /-T-/23)).alloc (.cells #[.int .i64 0, .int .i64 0, .int .i64 0, .int .i64 0, .slice none 0 0] /-T-/26)) (w.heap.size + 2) (by simp)
    have := World.ownsRow.alloc h (.cells #[.int .i64 X, .int .i64 Y, .int .i64 W, .int .i64 H, .slice (some ⟨w.heap.size + 1 + 1, 0, none⟩) 0 n] /-T-/26)
    simpa [fls] using this

theorem MakeInv.drew {w wr : World} {k5 : Nat} {X Y W H : Int} {v : Value} {m : List Nat} (h : MakeInv w wr k5 X Y W H v m) : MakeInv w wr.drew k5 X Y W H v m :=
  ⟨h.rg, h.rz, h.fo, h.k5g, h.ne, h.own, h.wf, h.below.drew⟩
/-- what field.Make gives -/
def MakeP (X Y W H : Int) (m : List Nat) (w : World) (e : Ending) (w' : World) : Prop :=
  (∃ g cap, e = .returned (fldV X Y W H (some ⟨g, 0, none⟩) m.length cap) ∧ OwnF w' w.heap.size g cap m) ∧ Below w.heap.size w w'

end Go.Proofs.YtfpiklbmmpmkiaaGreatDoor

namespace Go.Proofs.YtfpiklbmmpmkiaaGreatDoor
open Go.ChangeShapes Go.WideShapes Go.ChangeAt Go.RowKit
open Ieee.Format (fin finE htE allFin allHt all_true all_false finE_ok finE_bad htE_ok htE_far htE_bad mulF subF addF)
set_option linter.unusedVariables false

/-- below block B, all blocks but one are as they were -/
structure But (B : Nat) (q : Nat → Prop) (w w' : World) : Prop where
  os : w'.os = w.os
  tape : w'.tape = w.tape
  output : w'.output = w.output
  size : w.heap.size ≤ w'.heap.size
  block : ∀ k, k < B → ¬ q k → w'.heap[k]? = w.heap[k]?
theorem But.of {B : Nat} {q : Nat → Prop} {w w' : World} (h : Below B w w') : But B q w w' := ⟨h.os, h.tape, h.output, h.size, fun k hk _ => h.block k hk⟩
theorem But.trans {B : Nat} {q : Nat → Prop} {a b c : World} (h : But B q a b) (k : But B q b c) : But B q a c :=
  ⟨k.os.trans h.os, k.tape.trans h.tape, k.output.trans h.output, Nat.le_trans h.size k.size, fun i hi hq => (k.block i hi hq).trans (h.block i hi hq)⟩
theorem But.mono {B B' : Nat} {q : Nat → Prop} {w w' : World} (h : But B q w w') (hB : B' ≤ B) : But B' q w w' := ⟨h.os, h.tape, h.output, h.size, fun k hk hq => h.block k (Nat.lt_of_lt_of_le hk hB) hq⟩
/-- what came after w is not the block -/
theorem But.cell {B : Nat} {q : Nat → Prop} {w w' : World} (h : But B q w w') {p : Addr} (hp : p.block < B) (hq : ¬ q p.block) : w'.cell? p = w.cell? p := by
  have hb := h.block p.block hp hq
  exact World.cell?_of_block hb
theorem But.below {B : Nat} {w w' : World} (h : But B (fun _ => False) w w') : Below B w w' := ⟨h.os, h.tape, h.output, h.size, fun k hk => h.block k hk (by simp)⟩

/-- the loops of field.Make: the field lies in block 'k5', its row in another one -/
structure MakeSt (q : Nat → Prop) (J : World → Prop) (w wr : World) (k5 : Nat) (X Y W H : Int) (v : Value) (m : List Nat) : Prop where
  rg : Reg wr w.heap.size X Y W H
  rz : Fld wr (w.heap.size + 1) 0 0 0 0 (.slice none 0 0)
  fo : Fld wr k5 X Y W H v
  k5g : w.heap.size + 2 ≤ k5
  ne : v.ownBlock ≠ some k5
  own : wr.ownsRow (w.heap.size + 2) /-T-/30 1 v m.length (fls m)
  wf : ∀ x ∈ m, x < 4294967296
  below : But w.heap.size q w wr
  st : J wr

theorem MakeSt.call {q : Nat → Prop} {J J' : World → Prop} {w wr w2 : World} {k5 : Nat} {X Y W H : Int} {v : Value} {m : List Nat} (h : MakeSt q J w wr k5 X Y W H v m) (hq : ∀ k, q k → k < w.heap.size) (hb : But wr.drew.heap.size q wr.drew w2) (hj : J' w2) : MakeSt q J' w w2 k5 X Y W H v m := by
  have hne : ∀ k, w.heap.size ≤ k → ¬ q k := fun k hk e => by have := hq k e; omega
  have hk := h.k5g
  refine ⟨(hb.block _ h.rg.drew.lt (hne _ (by omega))).trans h.rg, (hb.block _ h.rz.drew.lt (hne _ (by omega))).trans h.rz, (hb.block _ h.fo.drew.lt (hne _ (by omega))).trans h.fo, h.k5g, h.ne, ?_, h.wf, ?_, hj⟩
  · refine ⟨h.own.1, ?_⟩
    rcases h.own.2 with h2 | ⟨g, cap, cur, rfl, hB, hh, r⟩
    · exact .inl h2
    · exact .inr ⟨g, cap, cur, rfl, hB, (hb.block g (h.own.lt g rfl).2 (hne _ (by omega))).trans hh, r⟩
  · exact h.below.trans ((But.of (Below.refl _ _).drew).trans (hb.mono (show w.heap.size ≤ wr.heap.size from h.below.size)))

theorem MakeSt.mid {q : Nat → Prop} {J : World → Prop} {w w2 w3 : World} {k5 : Nat} {X Y W H : Int} {v : Value} {m : List Nat} {o : Obj} (h : MakeSt q J w w2 k5 X Y W H v m) (hst : ∀ W W', w.heap.size ≤ W.heap.size → J W → Below w.heap.size W W' → J W') (hg : (w2.alloc o).grownBy w3 v.ownBlock) :
    Reg w3 w.heap.size X Y W H ∧ Fld w3 (w.heap.size + 1) 0 0 0 0 (.slice none 0 0) ∧ Fld w3 k5 X Y W H v ∧ But w.heap.size q w w3 ∧ J w3 := by
  have hne : ∀ k, k < w.heap.size + 2 → some k ≠ v.ownBlock := fun k hk e => by
    have := (h.own.lt k e.symm).1; omega
  have hz := h.below.size
  have hb : Below w.heap.size w2 w3 := by
    refine ((Below.refl w.heap.size w2).alloc hz o).grown hg (by simp; omega) (fun k hk => ?_)
    have := (h.own.lt k hk).1
    omega
  exact ⟨(h.rg.alloc o).grown hg (hne _ (by omega)), (h.rz.alloc o).grown hg (hne _ (by omega)), (h.fo.alloc o).grown hg (fun e => h.ne e.symm), h.below.trans (But.of hb), hst _ _ hz h.st hb⟩

theorem MakeSt.app {q : Nat → Prop} {J : World → Prop} {w w2 w3 : World} {k5 : Nat} {X Y W H : Int} {v : Value} {m : List Nat} {o : Obj} (h : MakeSt q J w w2 k5 X Y W H v m) (hst : ∀ W W', w.heap.size ≤ W.heap.size → J W → Below w.heap.size W W' → J W') {y g cap : Nat} (hy : y < 4294967296)
    (hown : w3.ownsRow (w.heap.size + 2) /-T-/30 1 (.slice (some ⟨g, 0, none⟩) (m.length + 1) cap) (m.length + 1) (fls m ++ [.float .f32 y])) (hg : (w2.alloc o).grownBy w3 v.ownBlock) (hgk : g ≠ k5) :
    MakeSt q J w (w3.setCell ⟨k5, 4, none⟩ (.slice (some ⟨g, 0, none⟩) (m.length + 1) cap)) k5 X Y W H (.slice (some ⟨g, 0, none⟩) (m.length + 1) cap) (m ++ [y]) := by
  obtain ⟨a, b, c, d, e⟩ := h.mid hst hg
  have hgl := (hown.lt g rfl).1
  have hk5 := h.k5g
  refine ⟨a.setCell (by show w.heap.size ≠ k5; omega) _, b.setCell (by show w.heap.size + 1 ≠ k5; omega) _, c.set4 _, hk5, (by simp [Value.ownBlock]; exact hgk), ?_, ?_, d.trans (But.of (Below.setCell (Below.refl _ _) (by show w.heap.size ≤ k5; omega) _)), hst _ _ d.size e (Below.setCell (Below.refl _ _) (by show w.heap.size ≤ k5; omega) _)⟩
  · have e : fls (m ++ [y]) = fls m ++ [.float .f32 y] := by unfold fls; simp
    have e2 : (m ++ [y]).length = m.length + 1 := by simp
    rw [e, e2]
    refine ⟨hown.1, ?_⟩
    rcases hown.2 with h2 | ⟨g', cap', cur, hv, hB, hh, r⟩
    · exact .inl h2
    · have : g' = g := by simp at hv; exact hv.1.symm
      subst this
      exact .inr ⟨g', cap', cur, hv, hB, (Below.heap_setCell w3 _ _ g' hgk).trans hh, r⟩
  · intro x hx
    rcases List.mem_append.1 hx with hx | hx
    · exact h.wf x hx
    · have : x = y := by simpa using hx
      rw [this]; exact hy
theorem MakeInv.state {w wr : World} {k5 : Nat} {X Y W H : Int} {v : Value} {m : List Nat} (h : MakeInv w wr k5 X Y W H v m) (q : Nat → Prop) (J : World → Prop) (hj : J wr) : MakeSt q J w wr k5 X Y W H v m :=
  ⟨h.rg, h.rz, h.fo, h.k5g, h.ne, h.own, h.wf, But.of h.below, hj⟩

/-- what field.Make gives, where the function keeps a state -/
def MakeSP (q : Nat → Prop) (J : World → Prop) (X Y W H : Int) (m : List Nat) (w : World) (e : Ending) (w' : World) : Prop :=
  (∃ g cap, e = .returned (fldV X Y W H (some ⟨g, 0, none⟩) m.length cap) ∧ OwnF w' w.heap.size g cap m) ∧ But w.heap.size q w w' ∧ J w'

end Go.Proofs.YtfpiklbmmpmkiaaGreatDoor

namespace Go.Proofs.YtfpiklbmmpmkiaaGreatDoor
open Go.Shelf
open Go.ChangeShapes Go.WideShapes Go.ChangeAt Go.RowKit
open Ieee.Format (fin finE htE allFin allHt all_true all_false finE_ok finE_bad htE_ok htE_far htE_bad mulF subF addF)
set_option linter.unusedVariables false

structure MadeSt (q : Nat → Prop) (J : World → Prop) (w wr : World) (X Y W H : Int) (v : Value) (m : List Nat) : Prop where
  rg : Reg wr w.heap.size X Y W H
  rz : Fld wr (w.heap.size + 1) 0 0 0 0 (.slice none 0 0)
  fo : Fld wr (w.heap.size + 1 + 1) X Y W H v
  own : wr.ownsRow (w.heap.size + 3) /-T-/30 1 v m.length (fls m)
  wf : ∀ x ∈ m, x < 4294967296
  below : But w.heap.size q w wr
  st : J wr
theorem MadeInv.state {w wr : World} {X Y W H : Int} {v : Value} {m : List Nat} (h : MadeInv w wr X Y W H v m) (q : Nat → Prop) (J : World → Prop) (hj : J wr) : MadeSt q J w wr X Y W H v m :=
  ⟨h.rg, h.rz, h.fo, h.own, h.wf, But.of h.below, hj⟩
theorem MadeSt.call {q : Nat → Prop} {J J' : World → Prop} {w wr w2 : World} {X Y W H : Int} {v : Value} {m : List Nat} (h : MadeSt q J w wr X Y W H v m) (hq : ∀ k, q k → k < w.heap.size) (hb : But wr.drew.heap.size q wr.drew w2) (hj : J' w2) : MadeSt q J' w w2 X Y W H v m := by
  have hne : ∀ k, w.heap.size ≤ k → ¬ q k := fun k hk e => by have := hq k e; omega
  refine ⟨(hb.block _ h.rg.drew.lt (hne _ (by omega))).trans h.rg, (hb.block _ h.rz.drew.lt (hne _ (by omega))).trans h.rz, (hb.block _ h.fo.drew.lt (hne _ (by omega))).trans h.fo, ?_, h.wf, ?_, hj⟩
  · refine ⟨h.own.1, ?_⟩
    rcases h.own.2 with h2 | ⟨g, cap, cur, rfl, hB, hh, r⟩
    · exact .inl h2
    · exact .inr ⟨g, cap, cur, rfl, hB, (hb.block g (h.own.lt g rfl).2 (hne _ (by omega))).trans hh, r⟩
  · exact h.below.trans ((But.of (Below.refl _ _).drew).trans (hb.mono (show w.heap.size ≤ wr.heap.size from h.below.size)))
theorem MadeSt.mid {q : Nat → Prop} {J : World → Prop} {w w2 w3 : World} {X Y W H : Int} {v : Value} {m : List Nat} {o : Obj} (h : MadeSt q J w w2 X Y W H v m) (hst : ∀ W W', w.heap.size ≤ W.heap.size → J W → Below w.heap.size W W' → J W') (hg : (w2.alloc o).grownBy w3 v.ownBlock) :
    Reg w3 w.heap.size X Y W H ∧ Fld w3 (w.heap.size + 1) 0 0 0 0 (.slice none 0 0) ∧ Fld w3 (w.heap.size + 1 + 1) X Y W H v ∧ But w.heap.size q w w3 ∧ J w3 := by
  have hne : ∀ k, k < w.heap.size + 3 → some k ≠ v.ownBlock := fun k hk e => by
    have := (h.own.lt k e.symm).1; omega
  have hz := h.below.size
  have hb : Below w.heap.size w2 w3 := by
    refine ((Below.refl w.heap.size w2).alloc hz o).grown hg (by simp; omega) (fun k hk => ?_)
    have := (h.own.lt k hk).1
    omega
  exact ⟨(h.rg.alloc o).grown hg (hne _ (by omega)), (h.rz.alloc o).grown hg (hne _ (by omega)), (h.fo.alloc o).grown hg (hne _ (by omega)), h.below.trans (But.of hb), hst _ _ hz h.st hb⟩

theorem MadeSt.app {q : Nat → Prop} {J : World → Prop} {w w2 w3 : World} {X Y W H : Int} {v : Value} {m : List Nat} {o : Obj} (h : MadeSt q J w w2 X Y W H v m) (hst : ∀ W W', w.heap.size ≤ W.heap.size → J W → Below w.heap.size W W' → J W') {y g cap : Nat} (hy : y < 4294967296)
    (hown : w3.ownsRow (w.heap.size + 3) /-T-/30 1 (.slice (some ⟨g, 0, none⟩) (m.length + 1) cap) (m.length + 1) (fls m ++ [.float .f32 y])) (hg : (w2.alloc o).grownBy w3 v.ownBlock) :
    MadeSt q J w (w3.setCell ⟨w.heap.size + 1 + 1, 4, none⟩ (.slice (some ⟨g, 0, none⟩) (m.length + 1) cap)) X Y W H (.slice (some ⟨g, 0, none⟩) (m.length + 1) cap) (m ++ [y]) := by
  obtain ⟨a, b, c, d, e⟩ := h.mid hst hg
  have hgl := (hown.lt g rfl).1
  refine ⟨a.setCell (by show w.heap.size ≠ w.heap.size + 1 + 1; omega) _, b.setCell (by show w.heap.size + 1 ≠ w.heap.size + 1 + 1; omega) _, c.set4 _, ?_, ?_, d.trans (But.of (Below.setCell (Below.refl _ _) (by show w.heap.size ≤ w.heap.size + 1 + 1; omega) _)), hst _ _ d.size e (Below.setCell (Below.refl _ _) (by show w.heap.size ≤ w.heap.size + 1 + 1; omega) _)⟩
  · have e : fls (m ++ [y]) = fls m ++ [.float .f32 y] := by unfold fls; simp
    have e2 : (m ++ [y]).length = m.length + 1 := by simp
    rw [e, e2]
    refine ⟨hown.1, ?_⟩
    rcases hown.2 with h2 | ⟨g', cap', cur, hv, hB, hh, r⟩
    · exact .inl h2
    · have : g' = g := by simp at hv; exact hv.1.symm
      subst this
      exact .inr ⟨g', cap', cur, hv, hB, (Below.heap_setCell w3 _ _ g' (by show g' ≠ w.heap.size + 1 + 1; omega)).trans hh, r⟩
  · intro x hx
    rcases List.mem_append.1 hx with hx | hx
    · exact h.wf x hx
    · have : x = y := by simpa using hx
      rw [this]; exact hy

/-- what 'made' gives, where the function keeps a state -/
def MadeSP (q : Nat → Prop) (J : World → Prop) (X Y W H : Int) (m : List Nat) (w : World) (e : Ending) (w' : World) : Prop :=
  (outE m = 0 → ∃ g cap, e = .returned (.tuple #[fldV X Y W H (some ⟨g, 0, none⟩) m.length cap, .int .i64 0]) ∧ OwnF w' w.heap.size g cap m) ∧
  (outE m ≠ 0 → e = .returned (.tuple #[fldV 0 0 0 0 none 0 0, .int .i64 3])) ∧ But w.heap.size q w w' ∧ J w'

end Go.Proofs.YtfpiklbmmpmkiaaGreatDoor

namespace Go.Proofs.YtfpiklbmmpmkiaaGreatDoor
open Go.ChangeShapes Go.WideShapes Go.ChangeAt Go.RowKit
set_option linter.unusedVariables false

end Go.Proofs.YtfpiklbmmpmkiaaGreatDoor

namespace Go.Proofs.YtfpiklbmmpmkiaaGreatDoor
open Go.ChangeShapes Go.WideShapes Go.ChangeAt Go.RowKit
set_option linter.unusedVariables false

end Go.Proofs.YtfpiklbmmpmkiaaGreatDoor
