import Derived.Test.YtfpiklbmmpmkiaaGreatDoorM4
import Derived.Shelf.Abstract
import Derived.Deep.AppendLies
import Derived.Deep.RegionLaw
import Derived.Test.YtfpiklbmmpmkiaaGreatDoorM1
import Derived.Deep.RegionHeld3
import Derived.Outline
import Derived.Laws.BitsAllLaws
import Derived.Laws.BitsLemmas
import Derived.OwnWalk
import Derived.Lib.SmallJoins
import Derived.Deep.Slices
import Derived.OpenShut
import Derived.WalkLawsBesides
namespace Go.Proofs.YtfpiklbmmpmkiaaGreatDoor
open Go.ChangeShapes Go.WideShapes Go.ChangeAt Go.RowKit
open Ieee.Format (fin finE htE allFin allHt all_true all_false finE_ok finE_bad htE_ok htE_far htE_bad mulF subF addF)
set_option linter.unusedVariables false

/-- block 'k' is just a region -/
def Reg (w : World) (k : Nat) (X Y W H : Int) : Prop := w.heap[k]? = some (.cells #[.int .i64 X, .int .i64 Y, .int .i64 W, .int .i64 H] /-T-/23 (0, 0))
section
variable {w w' : World} {k : Nat} {X Y W H : Int}
theorem Reg.lt (h : Reg w k X Y W H) : k < w.heap.size := by
  rcases Nat.lt_or_ge k w.heap.size with hlt | hge
  · exact hlt
  · unfold Reg at h; rw [Array.getElem?_eq_none hge] at h; cases h
theorem Reg.cell (h : Reg w k X Y W H) (i : Nat) : w.cell? ⟨k, i, none⟩ = (#[.int .i64 X, .int .i64 Y, .int .i64 W, .int .i64 H] : Array Value)[i]? := cell_of_row w k i _ _ _ h
theorem Reg.cells (h : Reg w k X Y W H) : w.cell? ⟨k, 0, none⟩ = some (.int .i64 X) ∧ w.cell? ⟨k, 1, none⟩ = some (.int .i64 Y) ∧ w.cell? ⟨k, 2, none⟩ = some (.int .i64 W) ∧ w.cell? ⟨k, 3, none⟩ = some (.int .i64 H) :=
  ⟨h.cell 0, h.cell 1, h.cell 2, h.cell 3⟩
theorem Reg.below {B : Nat} (h : Reg w k X Y W H) (hb : Below B w w') (hk : k < B) : Reg w' k X Y W H := (hb.block k hk).trans h
theorem Reg.new (w : World) (X Y W H : Int) : Reg (w.alloc (.cells #[.int .i64 X, .int .i64 Y, .int .i64 W, .int .i64 H] /-T-/23)) w.heap.size X Y W H := heap_alloc_new w _
theorem Reg.alloc (h : Reg w k X Y W H) (o : Obj) : Reg (w.alloc o) k X Y W H := (Below.heap_alloc w o k h.lt).trans h
theorem Reg.drew (h : Reg w k X Y W H) : Reg w.drew k X Y W H := h
theorem Reg.setCell (h : Reg w k X Y W H) {p : Addr} (hp : k ≠ p.block) (u : Value) : Reg (w.setCell p u) k X Y W H := (Below.heap_setCell w p u k hp).trans h
theorem Reg.grown {row : Option Nat} (h : Reg w k X Y W H) (hb : w.grownBy w' row) (hg : some k ≠ row) : Reg w' k X Y W H := (hb.block k h.lt hg).trans h
end

/-- what 'made' gives: the first 'n' values, row by row -/
def madeL (ψ : Int → Int → Nat) (X Y : Int) (W n : Nat) : List Nat := (List.range n).map fun k => ψ (X + ((k % W : Nat) : Int)) (Y + ((k / W : Nat) : Int))
theorem madeL_len (ψ : Int → Int → Nat) (X Y : Int) (W n : Nat) : (madeL ψ X Y W n).length = n := by simp [madeL]
theorem madeL_succ (ψ : Int → Int → Nat) (X Y : Int) (W i j : Nat) (hi : i < W) : madeL ψ X Y W (j * W + i + 1) = madeL ψ X Y W (j * W + i) ++ [ψ (X + (i : Int)) (Y + (j : Int))] := by
  have h1 : (j * W + i) % W = i := by rw [Nat.mul_comm, Nat.mul_add_mod, Nat.mod_eq_of_lt hi]
  have h2 : (j * W + i) / W = j := by rw [Nat.mul_comm, Nat.mul_add_div (by omega), Nat.div_eq_of_lt hi]; rfl
  unfold madeL
  rw [List.range_succ, List.map_append, List.map_singleton, h1, h2]

structure MadeInv (w wr : World) (X Y W H : Int) (v : Value) (m : List Nat) : Prop where
  rg : Reg wr w.heap.size X Y W H
  rz : Fld wr (w.heap.size + 1) 0 0 0 0 (.slice none 0 0)
  fo : Fld wr (w.heap.size + 1 + 1) X Y W H v
  own : wr.ownsRow (w.heap.size + 3) /-T-/30 1 v m.length (fls m)
  wf : ∀ x ∈ m, x < 4294967296
  below : Below w.heap.size w wr

theorem ownsRow_below {w w' : World} {B B' size n : Nat} {e : TypeId} {v : Value} {xs : List Value} (h : w.ownsRow B e size v n xs) (hb : Below B' w w') (hg : ∀ k, v.ownBlock = some k → k < B') : w'.ownsRow B e size v n xs := by
  refine ⟨h.1, ?_⟩
  rcases h.2 with h2 | ⟨g, cap, cur, rfl, hB, hh, r⟩
  · exact .inl h2
  · exact .inr ⟨g, cap, cur, rfl, hB, (hb.block g (hg g rfl)).trans hh, r⟩

theorem MadeInv.call {w wr w2 : World} {X Y W H : Int} {v : Value} {m : List Nat} (h : MadeInv w wr X Y W H v m) (hb : Below wr.drew.heap.size wr.drew w2) : MadeInv w w2 X Y W H v m :=
  ⟨h.rg.drew.below hb h.rg.lt, h.rz.drew.below hb h.rz.lt, h.fo.drew.below hb h.fo.lt, ownsRow_below (w := wr.drew) h.own hb (fun k hk => (h.own.lt k hk).2), h.wf,
    (h.below.drew).trans (hb.mono (show w.heap.size ≤ wr.heap.size from h.below.size))⟩

theorem MadeInv.mid {w w2 w3 : World} {X Y W H : Int} {v : Value} {m : List Nat} {o : Obj} (h : MadeInv w w2 X Y W H v m) (hg : (w2.alloc o).grownBy w3 v.ownBlock) :
    Reg w3 w.heap.size X Y W H ∧ Fld w3 (w.heap.size + 1) 0 0 0 0 (.slice none 0 0) ∧ Fld w3 (w.heap.size + 1 + 1) X Y W H v ∧ Below w.heap.size w w3 := by
  have hne : ∀ k, k < w.heap.size + 3 → some k ≠ v.ownBlock := fun k hk e => by
    have := (h.own.lt k e.symm).1; omega
  refine ⟨(h.rg.alloc o).grown hg (hne _ (by omega)), (h.rz.alloc o).grown hg (hne _ (by omega)), (h.fo.alloc o).grown hg (hne _ (by omega)), ?_⟩
  have hz := h.below.size
  refine (h.below.alloc hz o).grown hg (by simp; omega) (fun k hk => ?_)
  have := (h.own.lt k hk).1
  omega

theorem MadeInv.app {w w2 w3 : World} {X Y W H : Int} {v : Value} {m : List Nat} {o : Obj} (h : MadeInv w w2 X Y W H v m) {y g cap : Nat} (hy : y < 4294967296)
    (hown : w3.ownsRow (w.heap.size + 3) /-T-/30 1 (.slice (some ⟨g, 0, none⟩) (m.length + 1) cap) (m.length + 1) (fls m ++ [.float .f32 y])) (hg : (w2.alloc o).grownBy w3 v.ownBlock) :
    MadeInv w (w3.setCell ⟨w.heap.size + 1 + 1, 4, none⟩ (.slice (some ⟨g, 0, none⟩) (m.length + 1) cap)) X Y W H (.slice (some ⟨g, 0, none⟩) (m.length + 1) cap) (m ++ [y]) := by
  obtain ⟨a, b, c, d⟩ := h.mid hg
  have hgl := (hown.lt g rfl).1
  refine ⟨a.setCell (by show w.heap.size ≠ w.heap.size + 1 + 1; omega) _, b.setCell (by show w.heap.size + 1 ≠ w.heap.size + 1 + 1; omega) _, c.set4 _, ?_, ?_, d.setCell (by show w.heap.size ≤ w.heap.size + 1 + 1; omega) _⟩
  · have e : fls (m ++ [y]) = fls m ++ [.float .f32 y] := by unfold fls; simp
    have e2 : (m ++ [y]).length = m.length + 1 := by simp
    rw [e, e2]
    refine ⟨hown.1, ?_⟩
    rcases hown.2 with h2 | ⟨g', cap', cur, hv, hB, hh, r⟩
    · exact .inl h2
    · have : g' = g := by simp at hv; exact hv.1.symm
      subst this
      exact .inr ⟨g', cap', cur, hv, hB, (Below.heap_setCell w3 _ _ g' (by show g' ≠ w.heap.size + 1 + 1; omega)).trans hh, r⟩
  · intro x hx
    rcases List.mem_append.1 hx with hx | hx
    · exact h.wf x hx
    · have : x = y := by simpa using hx
      rw [this]; exact hy
end Go.Proofs.YtfpiklbmmpmkiaaGreatDoor

namespace Go.Proofs.YtfpiklbmmpmkiaaGreatDoor
open Go.ChangeShapes Go.WideShapes Go.ChangeAt Go.RowKit
open Ieee.Format (fin finE htE allFin allHt all_true all_false finE_ok finE_bad htE_ok htE_far htE_bad mulF subF addF)
set_option linter.unusedVariables false

theorem made_start (w : World) (X Y W H : Int) : ∀ W0, W0 = ((w.alloc (.cells #[.int .i64 X, .int .i64 Y, .int .i64 W, .int .i64 H] /-T-/23)).alloc (.cells #[.int .i64 0, .int .i64 0, .int .i64 0, .int .i64 0, .slice none 0 0] /-T-/26)).alloc (.cells #[.int .i64 X, .int .i64 Y, .int .i64 W, .int .i64 H, .slice none 0 0] /-T-/26) → MadeInv w W0 X Y W H (.slice none 0 0) [] := by
  rintro _ rfl
  refine ⟨((Reg.new w X Y W H).alloc _).alloc _, ?_, ?_, World.ownsRow_nil _ _ _ _, by simp, (by repeat (first | with_reducible exact Below.refl _ _ | with_reducible apply Below.drew | with_reducible refine below_drewN ?_ _ | (with_reducible refine Below.setCell ?_ ?_ _; rotate_left; focus (first | omega | (simp <;> omega))) | (with_reducible refine Below.alloc ?_ ?_ _; rotate_left; focus (first | omega | (simp <;> omega)))))⟩
  · have := (Fld.new (w.alloc (.cells #[.int .i64 X, .int .i64 Y, .int .i64 W, .int .i64 H] /-T-/23)) 0 0 0 0 (.slice none 0 0)).alloc (.cells #[.int .i64 X, .int .i64 Y, .int .i64 W, .int .i64 H, .slice none 0 0] /-T-/26)
    simpa using this
  · have := Fld.new ((w.alloc (.cells #[.int .i64 X, .int .i64 Y, .int .i64 W, .int .i64 H] /-T-/23)).alloc (.cells #[.int .i64 0, .int .i64 0, .int .i64 0, .int .i64 0, .slice none 0 0] /-T-/26)) X Y W H (.slice none 0 0)
    simpa using this

/-- what the reference's 'made' returns of the values 'm' -/
def MadeP (X Y W H : Int) (m : List Nat) (w : World) (e : Ending) (w' : World) : Prop :=
  (outE m = 0 → ∃ g cap, e = .returned (.tuple #[fldV X Y W H (some ⟨g, 0, none⟩) m.length cap, .int .i64 0]) ∧ OwnF w' w.heap.size g cap m) ∧
  (outE m ≠ 0 → e = .returned (.tuple #[fldV 0 0 0 0 none 0 0, .int .i64 3])) ∧ Below w.heap.size w w'

end Go.Proofs.YtfpiklbmmpmkiaaGreatDoor

namespace Go.Proofs.YtfpiklbmmpmkiaaGreatDoor
open Go.Shelf
open Go.ChangeShapes Go.WideShapes Go.ChangeAt Go.RowKit
open Ieee.Format (fin finE htE allFin allHt all_true all_false finE_ok finE_bad htE_ok htE_far htE_bad mulF subF addF Ht scaleF)
set_option linter.unusedVariables false

/-- 'made' over the cells of a field is the field's values turned -/
theorem madeL_map (φ : Nat → Nat) (X Y : Int) (Wn Hn : Nat) (l : List Nat) (h1 : 1 ≤ Wn) (hl : l.length = Hn * Wn) :
    madeL (fun x y => φ (l.getD (cellNo X Y Wn x y).toNat 0)) X Y Wn (Hn * Wn) = l.map φ := by
  refine List.ext_getElem? fun k => ?_
  unfold madeL
  rw [List.getElem?_map, List.getElem?_map]
  by_cases hk : k < Hn * Wn
  · have e : (cellNo X Y Wn (X + ((k % Wn : Nat) : Int)) (Y + ((k / Wn : Nat) : Int))).toNat = k := by
      unfold cellNo
      have := Nat.div_add_mod k Wn
      have h : (Y + ((k / Wn : Nat) : Int) - Y) * (Wn : Int) = ((Wn * (k / Wn) : Nat) : Int) := by
        rw [show Y + ((k / Wn : Nat) : Int) - Y = ((k / Wn : Nat) : Int) from by omega, Int.natCast_mul, Int.mul_comm]
      rw [h]
      omega
    rw [List.getElem?_range hk, List.getElem?_eq_getElem (by omega), Option.map_some, Option.map_some]
    dsimp only
    rw [e, List.getD_eq_getElem?_getD, List.getElem?_eq_getElem (by omega)]
    rfl
  · rw [List.getElem?_eq_none (by rw [List.length_range]; omega), List.getElem?_eq_none (by omega)]
    rfl

/-- a field of these values, or ErrRange where one of them is no height -/
def ResP (X Y W H : Int) (m : List Nat) (w : World) (e : Ending) (w' : World) : Prop :=
  (allHt m = true → ∃ g cap, e = .returned (.tuple #[fldV X Y W H (some ⟨g, 0, none⟩) m.length cap, .int .i64 0]) ∧ OwnF w' w.heap.size g cap m) ∧
  (allHt m = false → e = .returned (.tuple #[fldV 0 0 0 0 none 0 0, .int .i64 3])) ∧ Below w.heap.size w w'
theorem MadeP.res {X Y W H : Int} {m : List Nat} {w : World} {e : Ending} {w' : World} (h : MadeP X Y W H m w e w') : ResP X Y W H m w e w' := by
  refine ⟨fun hh => h.1 ?_, fun hh => h.2.1 ?_, h.2.2⟩
  · unfold outE; rw [Ieee.Format.htE_of_ht hh]; rfl
  · unfold outE; rw [if_neg (Ieee.Format.htE_ne hh)]; decide

theorem scalefn_any (x a b : Nat) (p q : Nat) (w : World) (ha : Ht a) (hb : Ht b) (hx : Ht x) (c1 : w.cell? ⟨p, 0, none⟩ = some (.float .f32 a)) (c2 : w.cell? ⟨q, 0, none⟩ = some (.float .f32 b)) :
    Calls Tryz.prog 23 #[.float .f32 x, .pointer (some ⟨p, 0, none⟩), .pointer (some ⟨q, 0, none⟩)] w fun e w' => e = .returned (.float .f32 (scaleF a b x)) ∧ w = w' := by
  obtain ⟨f1, f2⟩ := Ieee.Format.scale_fin ha hb hx
  have k1 := fun w => run_float_arith (P := Tryz.prog) w .mul 30 .f32 x a (mulF x a) (Ieee.Format.bits_mul hx.fin ha.fin)
  have k2 := fun w => run_float_arith (P := Tryz.prog) w .add 30 .f32 (mulF x a) b (scaleF a b x) (Ieee.Format.bits_add f1 hb.fin)
  clear f1 f2 ha hb hx
  generalize mulF x a = y at *
  generalize scaleF a b x = z at *
  go_enter Tryz.func23, Tryz.ntmps23
  go_wp2
  go_ret
  exact ⟨rfl, rfl⟩

theorem row_two (w : World) (x y : Nat) (hx : x < 4294967296) (hy : y < 4294967296) (t : TypeId) : SRow (w.alloc (.cells #[.float .f32 x, .float .f32 y] t)) (some ⟨w.heap.size, 0, none⟩) [x, y] := by
  refine ⟨⟨by simp, by simp; exact ⟨hx, hy⟩⟩, .inr ⟨w.heap.size, 0, rfl, ?_⟩⟩
  intro i hi
  have : i = 0 ∨ i = 1 := by simp at hi; omega
  rcases this with rfl | rfl <;> simp

set_option maxHeartbeats 1000000 in
theorem scale_no (X Y W H : Int) (a : Option Addr) (c : Nat) (l : List Nat) (x y : Nat) (w : World) (hl : SRow w a l) (h0 : chkF X Y W H l = 0) (hx : x < 4294967296) (hy : y < 4294967296) (hn : htE [x, y] ≠ 0) :
    Calls Tryz.prog 8 #[fldV X Y W H a l.length c, .float .f32 x, .float .f32 y] w fun e w' => e = .returned (.tuple #[fldV 0 0 0 0 none 0 0, .int .i64 (htE [x, y])]) ∧ Below w.heap.size w w' := by
  have K := Lib.hid (fun w h => check_field X Y W H a c l w h)
  rw [h0] at K
  have HL := Lib.hid hl
  have K2 := Lib.hid (fun w c => heights_any (some ⟨w.heap.size, 0, none⟩) c [x, y] (w.alloc (.cells #[.float .f32 x, .float .f32 y] /-T-/30)) (row_two w x y hx hy _))
  have hb : (htE [x, y] != 0) = true := by rw [bne_iff_ne]; exact hn
  clear hl h0 hx hy hn
  generalize htE [x, y] = q at *
  have hA : Below w.heap.size w ((((w.alloc (.cells #[.int .i64 X, .int .i64 Y, .int .i64 W, .int .i64 H, .slice a l.length c] /-T-/26)).alloc (.cells #[.float .f32 x] /-T-/30)).alloc (.cells #[.float .f32 y] /-T-/30)).alloc (.cells #[.int .i64 0, .int .i64 0, .int .i64 0, .int .i64 0, .slice none 0 0] /-T-/26)) := (by repeat (first | with_reducible exact Below.refl _ _ | with_reducible apply Below.drew | with_reducible refine below_drewN ?_ _ | (with_reducible refine Below.setCell ?_ ?_ _; rotate_left; focus (first | omega | (simp <;> omega))) | (with_reducible refine Below.alloc ?_ ?_ _; rotate_left; focus (first | omega | (simp <;> omega)))))
  have HA := Lib.hid hA
  clear hA
  go_enter Tryz.func8, Tryz.ntmps8
  go_wp2_with fail
  refine (K.out _ (HL.out.below HA.out)).mono ?_
  rintro e w1 ⟨rfl, b1⟩
  have B1 := Lib.hid (HA.out.trans (b1.mono HA.out.size))
  obtain ⟨hcc, hf⟩ := bcell b1
  have hs := b1.size
  simp at hs
  have lta0 : w.heap.size < w1.heap.size := by omega
  have lta1 : w.heap.size + 1 < w1.heap.size := by omega
  have lta2 : w.heap.size + 1 + 1 < w1.heap.size := by omega
  have lta3 : w.heap.size + 1 + 1 + 1 < w1.heap.size := by omega
  clear b1
  go_wp2_with fail
  refine (K2.out _ _).mono ?_
  rintro e w2 ⟨rfl, rfl⟩
  go_wp2
  have B2 := B1.out
  exact bodyPost_ret (v := .tuple #[fldV 0 0 0 0 none 0 0, .int .i64 q]) (by simp [results, Tryz.results8, go_sem, *]) rfl ⟨rfl, (by have hszz := B2.size; repeat (first | with_reducible exact B2 | with_reducible apply Below.drew | with_reducible refine below_drewN ?_ _ | (with_reducible refine Below.setCell ?_ ?_ _; rotate_left; focus (first | omega | (simp <;> omega))) | (with_reducible refine Below.alloc ?_ ?_ _; rotate_left; focus (first | omega | (simp <;> omega)))))⟩

/-- a right field: its region and values are right -/
structure Right (X Y : Int) (Wn Hn : Nat) (l : List Nat) : Prop where
  w1 : 1 ≤ Wn
  w2 : Wn ≤ 512
  h1 : 1 ≤ Hn
  h2 : Hn ≤ 512
  wh : Wn * Hn ≤ 65536
  x1 : -4194304 ≤ X
  x2 : X ≤ 4194304 - Wn
  y1 : -4194304 ≤ Y
  y2 : Y ≤ 4194304 - Hn
  len : l.length = Hn * Wn
  ht : ∀ x ∈ l, Ht x
theorem Right.chk {X Y : Int} {Wn Hn : Nat} {l : List Nat} (h : Right X Y Wn Hn l) : chkF X Y Wn Hn l = 0 := by
  have c : Go.Proofs.YtfpiklbmmpmkiaaGreatDoor.chk X Y Wn Hn = 0 := by
    unfold Go.Proofs.YtfpiklbmmpmkiaaGreatDoor.chk
    have e : ((Wn : Int) * (Hn : Int)) = ((Wn * Hn : Nat) : Int) := by rw [Int.natCast_mul]
    have := h.w1; have := h.w2; have := h.h1; have := h.h2; have := h.wh; have := h.x1; have := h.x2; have := h.y1; have := h.y2
    rw [if_neg (by omega), if_neg (by rw [e]; omega), if_neg (by omega)]
  rw [chkF_vals c (by rw [h.len, Int.natCast_mul, Int.mul_comm])]
  exact Ieee.Format.htE_of_ht (Ieee.Format.allHt_iff.2 h.ht)
theorem Right.ne {X Y : Int} {Wn Hn : Nat} {l : List Nat} (h : Right X Y Wn Hn l) : l ≠ [] := by
  intro e
  have := h.len
  rw [e] at this
  have := Nat.mul_le_mul h.h1 h.w1
  simp at *; omega

set_option maxHeartbeats 1000000 in
set_option maxRecDepth 100000 in
theorem scale_yes (X Y : Int) (Wn Hn : Nat) (b o c : Nat) (l : List Nat) (x y : Nat) (w : World) (hl : SRow w (some ⟨b, o, none⟩) l) (hr : Right X Y Wn Hn l) (hx : x < 4294967296) (hy : y < 4294967296) (hn : htE [x, y] = 0) :
    Calls Tryz.prog 8 #[fldV X Y Wn Hn (some ⟨b, o, none⟩) l.length c, .float .f32 x, .float .f32 y] w fun e w' => ResP X Y Wn Hn (l.map (scaleF x y)) w e w' := by
  have hts := Ieee.Format.allHt_iff.1 (Ieee.Format.htE_zero hn)
  have hax : Ht x := hts x (by simp)
  have hay : Ht y := hts y (by simp)
  have K := Lib.hid (fun w h => check_field X Y Wn Hn (some ⟨b, o, none⟩) c l w h)
  rw [hr.chk] at K
  have HL := Lib.hid hl
  have HT := Lib.hid hr.ht
  have H0 := Lib.hid hr.ne
  have HX := Lib.hid hax
  have HY := Lib.hid hay
  have K2 := Lib.hid (fun w c => heights_any (some ⟨w.heap.size, 0, none⟩) c [x, y] (w.alloc (.cells #[.float .f32 x, .float .f32 y] /-T-/30)) (row_two w x y hx hy _))
  rw [hn] at K2
  have eg := Lib.hid (enters_of Tryz.func23 (by kernel_rfl) rfl)
  have hlen := hl.1.1
  clear hl hx hy hn hts hax hay hr
  have hA : Below w.heap.size w ((((w.alloc (.cells #[.int .i64 X, .int .i64 Y, .int .i64 Wn, .int .i64 Hn, .slice (some ⟨b, o, none⟩) l.length c] /-T-/26)).alloc (.cells #[.float .f32 x] /-T-/30)).alloc (.cells #[.float .f32 y] /-T-/30)).alloc (.cells #[.int .i64 0, .int .i64 0, .int .i64 0, .int .i64 0, .slice none 0 0] /-T-/26)) := (by repeat (first | with_reducible exact Below.refl _ _ | with_reducible apply Below.drew | with_reducible refine below_drewN ?_ _ | (with_reducible refine Below.setCell ?_ ?_ _; rotate_left; focus (first | omega | (simp <;> omega))) | (with_reducible refine Below.alloc ?_ ?_ _; rotate_left; focus (first | omega | (simp <;> omega)))))
  have HA := Lib.hid hA
  clear hA
  go_enter Tryz.func8, Tryz.ntmps8
  go_wp2_with fail
  refine (K.out _ (HL.out.below HA.out)).mono ?_
  rintro e w1 ⟨rfl, b1⟩
  have B1 := Lib.hid (HA.out.trans (b1.mono HA.out.size))
  have cx : Hid (w1.cell? ⟨w.heap.size + 1, 0, none⟩ = some (.float .f32 x)) := by
    unfold Hid; exact (b1.cell (p := ⟨w.heap.size + 1, 0, none⟩) (by simp)).trans (by simp [go_sem])
  have cy : Hid (w1.cell? ⟨w.heap.size + 1 + 1, 0, none⟩ = some (.float .f32 y)) := by
    unfold Hid; exact (b1.cell (p := ⟨w.heap.size + 1 + 1, 0, none⟩) (by simp)).trans (by simp [go_sem])
  have FZ : Hid (Fld w1 (w.heap.size + 1 + 1 + 1) 0 0 0 0 (.slice none 0 0)) := by
    have := (Fld.new (((w.alloc (.cells #[.int .i64 X, .int .i64 Y, .int .i64 Wn, .int .i64 Hn, .slice (some ⟨b, o, none⟩) l.length c] /-T-/26)).alloc (.cells #[.float .f32 x] /-T-/30)).alloc (.cells #[.float .f32 y] /-T-/30)) 0 0 0 0 (.slice none 0 0)).below b1 (by simp)
    unfold Hid; simpa using this
  obtain ⟨hcc, hf⟩ := bcell b1
  have hs := b1.size
  simp at hs
  have lta0 : w.heap.size < w1.heap.size := by omega
  have lta1 : w.heap.size + 1 < w1.heap.size := by omega
  have lta2 : w.heap.size + 1 + 1 < w1.heap.size := by omega
  have lta3 : w.heap.size + 1 + 1 + 1 < w1.heap.size := by omega
  clear b1
  go_wp2_with fail
  refine (K2.out _ _).mono ?_
  rintro e w2 ⟨rfl, rfl⟩
  go_wp2_with fail
  have W3 : Hid (Below w1.heap.size w1 (w1.alloc (.cells #[.float .f32 x, .float .f32 y] /-T-/30))) := by
    unfold Hid; exact (by repeat (first | with_reducible exact Below.refl _ _ | with_reducible apply Below.drew | with_reducible refine below_drewN ?_ _ | (with_reducible refine Below.setCell ?_ ?_ _; rotate_left; focus (first | omega | (simp <;> omega))) | (with_reducible refine Below.alloc ?_ ?_ _; rotate_left; focus (first | omega | (simp <;> omega)))))
  have hfn : Hid (∀ z ∈ l, ∀ W', Below (w1.alloc (.cells #[.float .f32 x, .float .f32 y] /-T-/30)).heap.size (w1.alloc (.cells #[.float .f32 x, .float .f32 y] /-T-/30)) W' → Calls Tryz.prog /-F-/23 (#[.float .f32 z] ++ #[.pointer (some ⟨w.heap.size + 1, 0, none⟩), .pointer (some ⟨w.heap.size + 1 + 1, 0, none⟩)]) W' fun e w' => e = .returned (.float .f32 (scaleF x y z)) ∧ W' = w') := by
    intro z hz W' hb
    have hb1 : Below w1.heap.size w1 W' := W3.out.trans (hb.mono (by simp))
    exact scalefn_any z x y _ _ W' HX.out HY.out (HT.out z hz) ((hb1.cell (p := ⟨w.heap.size + 1, 0, none⟩) lta1).trans cx.out) ((hb1.cell (p := ⟨w.heap.size + 1 + 1, 0, none⟩) lta2).trans cy.out)
  refine (each_any /-F-/23 _ (scaleF x y) X Y Wn Hn b o c l _ (HL.out.below (B1.out.trans (W3.out.mono B1.out.size))) H0.out eg.out (fun z _ => Ieee.Format.addF_lt _ _) hfn.out).mono ?_
  rintro e w3 ⟨g, cap, rfl, ho, hb3⟩
  have B3 : Below w.heap.size w w3 := (B1.out.trans (W3.out.mono B1.out.size)).trans (hb3.mono (by simp; omega))
  have F3 := (FZ.out.alloc _).below hb3 (by simp; omega)
  have O3 : OwnF w3 w.heap.size g cap (l.map (scaleF x y)) := ho.base (by simp; omega)
  have hgl : w.heap.size + 1 + 1 + 1 < g := by have := ho.lt.1; simp at this; omega
  have HR3 : Hid (SRow w3 (some ⟨g, 0, none⟩) (l.map (scaleF x y))) := O3.row (by rw [List.length_map]; exact hlen)
  have HB3 := Lib.hid B3
  have HF3 := Lib.hid F3
  have HO3 := Lib.hid O3
  have hml : Hid ((l.map (scaleF x y)).length = l.length) := List.length_map _
  clear ho hb3 B3 F3 O3 hfn W3 B1 FZ K K2 HT HX HY cx cy HA H0 eg HL hcc hf
  generalize hmq : l.map (scaleF x y) = m at *
  have HMQ := Lib.hid hmq
  clear hmq
  cases hh : allHt m with
  | true =>
    have HH := Lib.hid hh
    go_wp2_with fail
    rw [← hml.out]
    refine (result_ok X Y Wn Hn g 0 cap m w3 HR3.out ?_).mono ?_
    · intro j hj
      have := Ieee.Format.allHt_iff.1 HH.out (m.getD j 0) (by rw [List.getD_eq_getElem?_getD, List.getElem?_eq_getElem hj]; exact List.getElem_mem hj)
      exact this
    rintro e w4 ⟨rfl, hb4⟩
    have F4 := HF3.out.below hb4 HF3.out.lt
    have O4 := HO3.out.below hb4 HO3.out.lt.2
    have B4 := HB3.out.trans (hb4.mono HB3.out.size)
    clear hh hb4
    obtain ⟨d0, d1, d2, d3, d4⟩ := F4.cells
    have qf0 := F4.frozen 0
    have qf1 := F4.frozen 1
    have qf2 := F4.frozen 2
    have qf3 := F4.frozen 3
    have qf4 := F4.frozen 4
    go_wp2_with fail
    obtain rfl := HMQ.out
    refine bodyPost_ret (v := .tuple #[fldV X Y Wn Hn (some ⟨g, 0, none⟩) (l.map (scaleF x y)).length cap, .int .i64 0]) (by simp [results, Tryz.results8, go_sem, *]) rfl ⟨fun _ => ⟨g, cap, rfl, (by have hgg := O4.lt; repeat (first | with_reducible exact O4 | with_reducible refine OwnF.drew ?_ | with_reducible refine OwnF.drewN ?_ _ | (with_reducible refine OwnF.setCell ?_ ?_ _; rotate_left; focus (first | omega | (simp <;> omega))) | with_reducible refine OwnF.alloc ?_ _))⟩, fun h => absurd (HH.out.symm.trans h) (by decide), (by have hszz := B4.size; repeat (first | with_reducible exact B4 | with_reducible apply Below.drew | with_reducible refine below_drewN ?_ _ | (with_reducible refine Below.setCell ?_ ?_ _; rotate_left; focus (first | omega | (simp <;> omega))) | (with_reducible refine Below.alloc ?_ ?_ _; rotate_left; focus (first | omega | (simp <;> omega)))))⟩
  | false =>
    have HH := Lib.hid hh
    go_wp2_with fail
    rw [← hml.out]
    refine (result_no X Y Wn Hn g 0 cap m w3 HR3.out hh).mono ?_
    rintro e w4 ⟨rfl, hb4⟩
    have F4 := HF3.out.below hb4 HF3.out.lt
    have B4 := HB3.out.trans (hb4.mono HB3.out.size)
    clear hh hb4
    obtain ⟨d0, d1, d2, d3, d4⟩ := F4.cells
    have qf0 := F4.frozen 0
    have qf1 := F4.frozen 1
    have qf2 := F4.frozen 2
    have qf3 := F4.frozen 3
    have qf4 := F4.frozen 4
    go_wp2_with fail
    obtain rfl := HMQ.out
    refine bodyPost_ret (v := .tuple #[fldV 0 0 0 0 none 0 0, .int .i64 3]) (by simp [results, Tryz.results8, go_sem, *]) rfl ⟨fun h => absurd (HH.out.symm.trans h) (by decide), fun _ => rfl, (by have hszz := B4.size; repeat (first | with_reducible exact B4 | with_reducible apply Below.drew | with_reducible refine below_drewN ?_ _ | (with_reducible refine Below.setCell ?_ ?_ _; rotate_left; focus (first | omega | (simp <;> omega))) | (with_reducible refine Below.alloc ?_ ?_ _; rotate_left; focus (first | omega | (simp <;> omega)))))⟩
end Go.Proofs.YtfpiklbmmpmkiaaGreatDoor

namespace Go.Proofs.YtfpiklbmmpmkiaaGreatDoor
open Go.Shelf
open Go.ChangeShapes Go.WideShapes Go.ChangeAt Go.RowKit
open Ieee.Format (fin finE htE allFin allHt all_true all_false finE_ok finE_bad htE_ok htE_far htE_bad mulF subF addF Ht scaleF)
set_option linter.unusedVariables false

theorem Right.getD {X Y : Int} {Wn Hn : Nat} {l : List Nat} (h : Right X Y Wn Hn l) (i : Nat) : Ht (l.getD i 0) := by
  rcases Nat.lt_or_ge i l.length with hlt | hge
  · rw [List.getD_eq_getElem?_getD, List.getElem?_eq_getElem hlt]; exact h.ht _ (List.getElem_mem hlt)
  · rw [List.getD_eq_getElem?_getD, List.getElem?_eq_none hge]; show (0 : Nat) % 2147483648 ≤ 1233125376; decide

/-- the reference's At at a right field -/
theorem at_right (X Y : Int) (Wn Hn : Nat) (x y : Int) (b o c : Nat) (l : List Nat) (w : World) (hl : SRow w (some ⟨b, o, none⟩) l) (hr : Right X Y Wn Hn l) (hx : X ≤ x) (hx' : x < X + Wn) (hy : Y ≤ y) (hy' : y < Y + Hn) :
    Calls Tryz.prog 14 #[fldV X Y Wn Hn (some ⟨b, o, none⟩) l.length c, .int .i64 x, .int .i64 y] w fun e w' => e = .returned (.float .f32 (l.getD (cellNo X Y Wn x y).toNat 0)) ∧ Below w.heap.size w w' := by
  have := hr.w1; have := hr.w2; have := hr.h1; have := hr.h2; have := hr.x1; have := hr.x2; have := hr.y1; have := hr.y2
  exact refat_any X Y Wn Hn x y b o c l w hl (by rw [hr.len, Int.natCast_mul, Int.mul_comm]) (by omega) (by omega) (by omega) (by omega) (by omega) (by omega) (by omega) (by omega) hx hx' hy hy'

theorem row_two_at (W : World) (g x y : Nat) (hx : x < 4294967296) (hy : y < 4294967296) (h0 : W.cell? ⟨g, 0, none⟩ = some (.float .f32 x)) (h1 : W.cell? ⟨g, 1, none⟩ = some (.float .f32 y)) : SRow W (some ⟨g, 0, none⟩) [x, y] := by
  refine ⟨⟨by simp, by simp; exact ⟨hx, hy⟩⟩, .inr ⟨g, 0, rfl, ?_⟩⟩
  intro i hi
  have : i = 0 ∨ i = 1 := by simp at hi; omega
  rcases this with rfl | rfl
  · exact h0
  · exact h1
theorem refheight_two (W : World) (g x y : Nat) (hx : x < 4294967296) (hy : y < 4294967296) (h0 : W.cell? ⟨g, 0, none⟩ = some (.float .f32 x)) (h1 : W.cell? ⟨g, 1, none⟩ = some (.float .f32 y)) :
    Calls Tryz.prog 18 #[.slice (some ⟨g, 0, none⟩) 2 2] W fun e w' => e = .returned (.int .i64 (htE [x, y])) ∧ W = w' :=
  refheight_any (some ⟨g, 0, none⟩) 2 [x, y] W (row_two_at W g x y hx hy h0 h1)

theorem scale_world (w : World) (X Y W H : Int) (v : Value) (x y : Nat) : ∀ W0, W0 = ((((w.alloc (.cells #[.int .i64 X, .int .i64 Y, .int .i64 W, .int .i64 H, v] /-T-/26)).alloc (.cells #[.float .f32 x] /-T-/30)).alloc (.cells #[.float .f32 y] /-T-/30)).alloc (.cells #[.int .i64 0, .int .i64 0, .int .i64 0, .int .i64 0, .slice none 0 0] /-T-/26)).alloc (.cells #[.float .f32 x, .float .f32 y] /-T-/30) →
    Fld W0 w.heap.size X Y W H v ∧ Fld W0 (w.heap.size + 1 + 1 + 1) 0 0 0 0 (.slice none 0 0) ∧ W0.cell? ⟨w.heap.size + 1, 0, none⟩ = some (.float .f32 x) ∧ W0.cell? ⟨w.heap.size + 1 + 1, 0, none⟩ = some (.float .f32 y) ∧ Below w.heap.size w W0 ∧ W0.heap.size = w.heap.size + 5 := by
  rintro _ rfl
  refine ⟨((((Fld.new w X Y W H v).alloc _).alloc _).alloc _).alloc _, ?_, by simp [go_sem], by simp [go_sem], (by repeat (first | with_reducible exact Below.refl _ _ | with_reducible apply Below.drew | with_reducible refine below_drewN ?_ _ | (with_reducible refine Below.setCell ?_ ?_ _; rotate_left; focus (first | omega | (simp <;> omega))) | (with_reducible refine Below.alloc ?_ ?_ _; rotate_left; focus (first | omega | (simp <;> omega))))), by simp⟩
  have := (Fld.new (((w.alloc (.cells #[.int .i64 X, .int .i64 Y, .int .i64 W, .int .i64 H, v] /-T-/26)).alloc (.cells #[.float .f32 x] /-T-/30)).alloc (.cells #[.float .f32 y] /-T-/30)) 0 0 0 0 (.slice none 0 0)).alloc (.cells #[.float .f32 x, .float .f32 y] /-T-/30)
  simpa using this

end Go.Proofs.YtfpiklbmmpmkiaaGreatDoor

namespace Go.Proofs.YtfpiklbmmpmkiaaGreatDoor
open Go.Shelf
open Go.ChangeShapes Go.WideShapes Go.ChangeAt Go.RowKit
open Ieee.Format (fin finE htE allFin allHt all_true all_false finE_ok finE_bad htE_ok htE_far htE_bad mulF subF addF Ht scaleF)
set_option linter.unusedVariables false

/-- a value held within two bounds -/
def clampF (a d x : Nat) : Nat := if (Ieee.single.order x a == some .lt) = true then a else if (Ieee.single.order x d == some .gt) = true then d else x
theorem clampF_ht {a d x : Nat} (ha : Ht a) (hd : Ht d) (hx : Ht x) : Ht (clampF a d x) := by
  unfold clampF; split
  · exact ha
  · split
    · exact hd
    · exact hx
theorem clampF_lt {a d x : Nat} (ha : a < 4294967296) (hd : d < 4294967296) (hx : x < 4294967296) : clampF a d x < 4294967296 := by
  unfold clampF; split
  · exact ha
  · split
    · exact hd
    · exact hx

end Go.Proofs.YtfpiklbmmpmkiaaGreatDoor

namespace Go.Proofs.YtfpiklbmmpmkiaaGreatDoor
open Go.Shelf
open Go.ChangeShapes Go.WideShapes Go.ChangeAt Go.RowKit
open Ieee.Format (fin finE htE allFin allHt all_true all_false finE_ok finE_bad htE_ok htE_far htE_bad mulF subF addF Ht scaleF)
set_option linter.unusedVariables false

theorem map_clamp_ht {X Y : Int} {Wn Hn : Nat} {l : List Nat} {x y : Nat} (hr : Right X Y Wn Hn l) (hx : Ht x) (hy : Ht y) : allHt (l.map (clampF x y)) = true := by
  refine Ieee.Format.allHt_iff.2 fun z hz => ?_
  obtain ⟨v, hv, rfl⟩ := List.mem_map.1 hz
  exact clampF_ht hx hy (hr.ht v hv)
theorem ht_lt {w : World} {a : Option Addr} {l : List Nat} (h : SRow w a l) (i : Nat) : l.getD i 0 < 4294967296 := by
  rcases Nat.lt_or_ge i l.length with hlt | hge
  · rw [List.getD_eq_getElem?_getD, List.getElem?_eq_getElem hlt]; exact h.1.2 _ (List.getElem_mem hlt)
  · rw [List.getD_eq_getElem?_getD, List.getElem?_eq_none hge]; show (0 : Nat) < 4294967296; decide

end Go.Proofs.YtfpiklbmmpmkiaaGreatDoor

namespace Go.Proofs.YtfpiklbmmpmkiaaGreatDoor
open Go.Shelf
open Go.ChangeShapes Go.WideShapes Go.ChangeAt Go.RowKit
open Ieee.Format (fin finE htE allFin allHt all_true all_false finE_ok finE_bad htE_ok htE_far htE_bad mulF subF addF Ht scaleF)
set_option linter.unusedVariables false

theorem and15 (n : Int) : ∃ k : Nat, k ≤ 15 ∧ bits .and .i64 n 15 = (k : Int) := by
  refine ⟨(BitVec.ofInt 64 n).toNat &&& 15, Nat.and_le_right, ?_⟩
  have hx : (BitVec.ofInt 64 n).toNat &&& 15 ≤ 15 := Nat.and_le_right
  show IntKind.i64.wrap ((BitVec.ofInt 64 n &&& BitVec.ofInt 64 15).toNat : Int) = _
  rw [BitVec.toNat_and, show (BitVec.ofInt 64 15).toNat = 15 from by decide, IntKind.wrap_i64]
  omega

theorem conv_all : (List.range 256).all (fun i => decide (floatOfInt .f32 (i : Int) % 2147483648 ≤ 1233125376 ∧ floatOfInt .f32 (i : Int) < 4294967296)) = true := by decide +kernel
theorem conv_ht {i : Nat} (h : i < 256) : Ht (floatOfInt .f32 (i : Int)) ∧ floatOfInt .f32 (i : Int) < 4294967296 := by
  have := List.all_eq_true.1 conv_all i (List.mem_range.2 h)
  exact of_decide_eq_true this
theorem made_zero {z : Value} {n : Nat} (hz : z = .float .f32 0) : (madeCells z.cells (n * 1)).toList = fls (List.replicate n 0) := by
  subst hz
  unfold madeCells fls
  refine List.ext_getElem? fun k => ?_
  by_cases hk : k < n
  · simp [Value.cells, hk, Nat.mod_one]
  · simp [Value.cells, hk]

/-- the loop of 'fit' -/
structure FitInv (w wr : World) (X Y P Q : Int) (v : Value) (g n i : Nat) (m : List Nat) : Prop where
  fo : Fld wr w.heap.size X Y P Q v
  rz : Fld wr (w.heap.size + 1) 0 0 0 0 (.slice none 0 0)
  own : OwnF wr w.heap.size g n m
  below : Below w.heap.size w wr
  len : m.length = n
  gg : w.heap.size + 1 < g
  ht : ∀ j, j < i → Ht (m.getD j 0)
theorem FitInv.set {w wr : World} {X Y P Q : Int} {v : Value} {g n i : Nat} {m : List Nat} (h : FitInv w wr X Y P Q v g n i m) (x : Nat) (hx : x < 4294967296) : FitInv w (wr.setCell ⟨g, i, none⟩ (.float .f32 x)) X Y P Q v g n i (m.set i x) := by
  have hg := h.gg
  refine ⟨h.fo.setCell (by simp; omega) _, h.rz.setCell (by simp; omega) _, h.own.store i x hx, Below.setCell h.below (by simp; omega) _, by rw [List.length_set]; exact h.len, hg, fun j hj => ?_⟩
  have := h.ht j hj
  rw [List.getD_eq_getElem?_getD, List.getElem?_set_ne (by omega), ← List.getD_eq_getElem?_getD]
  exact this
theorem FitInv.next {w wr : World} {X Y P Q : Int} {v : Value} {g n i : Nat} {m : List Nat} (h : FitInv w wr X Y P Q v g n i m) (hx : Ht (m.getD i 0)) : FitInv w wr X Y P Q v g n (i + 1) m := by
  refine ⟨h.fo, h.rz, h.own, h.below, h.len, h.gg, fun j hj => ?_⟩
  rcases Nat.lt_or_ge j i with hlt | hge
  · exact h.ht j hlt
  · have : j = i := by omega
    subst this; exact hx
theorem getD_set_self {m : List Nat} {i x : Nat} (h : i < m.length) : (m.set i x).getD i 0 = x := by
  rw [List.getD_eq_getElem?_getD, List.getElem?_set_self h]; rfl
theorem FitInv.alloc {w wr : World} {X Y P Q : Int} {v : Value} {g n i : Nat} {m : List Nat} (h : FitInv w wr X Y P Q v g n i m) (o : Obj) : FitInv w (wr.alloc o) X Y P Q v g n i m :=
  ⟨h.fo.alloc o, h.rz.alloc o, h.own.alloc o, Below.alloc h.below (by have := h.fo.lt; omega) o, h.len, h.gg, h.ht⟩
theorem FitInv.drew {w wr : World} {X Y P Q : Int} {v : Value} {g n i : Nat} {m : List Nat} (h : FitInv w wr X Y P Q v g n i m) : FitInv w wr.drew X Y P Q v g n i m :=
  ⟨h.fo, h.rz, h.own, h.below.drew, h.len, h.gg, h.ht⟩

/-- as SRow, of whatever length -/
def Row63 (w : World) (a : Option Addr) (l : List Nat) : Prop :=
  (l.length ≤ 9223372036854775807 ∧ ∀ x ∈ l, x < 4294967296) ∧ (l = [] ∨ ∃ b o, a = some ⟨b, o, none⟩ ∧ ∀ i, i < l.length → w.cell? ⟨b, o + i, none⟩ = some (.float .f32 (l.getD i 0)))
theorem Row63.below {w w' : World} {a : Option Addr} {l : List Nat} (h : Row63 w a l) (hb : Below w.heap.size w w') : Row63 w' a l := by
  obtain ⟨h1, h2⟩ := h
  refine ⟨h1, ?_⟩
  rcases h2 with h2 | ⟨b, o, rfl, hc⟩
  · exact .inl h2
  · refine .inr ⟨b, o, rfl, fun i hi => ?_⟩
    have h := hc i hi
    have hlt := World.block_lt_of_cell? _ _ h
    rw [hb.cell (p := ⟨b, o + i, none⟩) hlt]
    exact h
theorem Row63.at_ {w : World} {b o : Nat} {l : List Nat} (h : Row63 w (some ⟨b, o, none⟩) l) {k : Nat} (hk : k < l.length) : w.cell? ⟨b, o + k, none⟩ = some (.float .f32 (l.getD k 0)) := by
  rcases h.2 with h | ⟨b', o', e, hc⟩
  · subst h; simp at hk
  · cases e; exact hc k hk
theorem Row63.lt {w : World} {a : Option Addr} {l : List Nat} (h : Row63 w a l) (i : Nat) : l.getD i 0 < 4294967296 := by
  rcases Nat.lt_or_ge i l.length with hlt | hge
  · rw [List.getD_eq_getElem?_getD, List.getElem?_eq_getElem hlt]; exact h.1.2 _ (List.getElem_mem hlt)
  · rw [List.getD_eq_getElem?_getD, List.getElem?_eq_none hge]; show (0 : Nat) < 4294967296; decide

theorem refheight_one (W : World) (g x : Nat) (hx : x < 4294967296) (h0 : W.cell? ⟨g, 0, none⟩ = some (.float .f32 x)) :
    Calls Tryz.prog 18 #[.slice (some ⟨g, 0, none⟩) 1 1] W fun e w' => e = .returned (.int .i64 (htE [x])) ∧ W = w' := by
  refine refheight_any (some ⟨g, 0, none⟩) 1 [x] W ⟨⟨by simp, by simp; exact hx⟩, .inr ⟨g, 0, rfl, ?_⟩⟩
  intro i hi
  obtain rfl : i = 0 := by simp at hi; omega
  exact h0

/-- what 'fit' gives -/
def FitP (w : World) (e : Ending) (w' : World) : Prop :=
  ∃ (X Y : Int) (Wn Hn : Nat) (g cap : Nat) (l : List Nat), e = .returned (fldV X Y Wn Hn (some ⟨g, 0, none⟩) l.length cap) ∧ Right X Y Wn Hn l ∧ (-5000 ≤ X ∧ X ≤ 5000 ∧ -5000 ≤ Y ∧ Y ≤ 5000 ∧ Wn ≤ 16 ∧ Hn ≤ 16) ∧ OwnF w' w.heap.size g cap l ∧ Below w.heap.size w w'
end Go.Proofs.YtfpiklbmmpmkiaaGreatDoor

namespace Go.Proofs.YtfpiklbmmpmkiaaGreatDoor
open Go.ChangeShapes Go.WideShapes Go.ChangeAt Go.RowKit
set_option linter.unusedVariables false

theorem trod_single {H : Type} {enc : TypeId × Value → H} {W : World} {fuel : Nat} {v : Value} {y : DataW H × List MemPlace}
    (h : DataW.trod enc Tryz.prog W 0 (fun _ => true) true fuel /-T-/30 [v] = some y) : ∃ b, v = .float .f32 b ∧ b < 4294967296 := by
  cases fuel with
  | zero => simp [DataW.trod] at h
  | succ n =>
    simp only [DataW.trod, Tryz.underlying30] at h
    cases v with
    | float k b =>
      by_cases hk : k = .f32 ∧ (Lit.float .f32 b).wf = true
      · obtain ⟨rfl, hw⟩ := hk
        exact ⟨b, rfl, by simpa [Lit.wf] using hw⟩
      · simp [hk] at h
    | _ => simp at h

theorem row_of {H : Type} {enc : TypeId × Value → H} {W : World} {fuel : Nat} {v : Value} {y : DataW H × List MemPlace}
    (h : DataW.trod enc Tryz.prog W 0 (fun _ => true) true fuel /-T-/24 [v] = some y) : ∃ a l cap, v = .slice a l.length cap ∧ Row63 W a l := by
  rcases Go.Deep.open_slice1 Tryz.underlying24 (by kernel_rfl) h with ⟨hcs, _⟩ | ⟨a, len, cap, m, n, V, D, Pl, hcs, _, hl, hm, hmm, hx, hc⟩
  · simp at hcs
    subst hcs
    exact ⟨none, [], 0, rfl, ⟨by simp, by simp⟩, .inl rfl⟩
  · simp at hcs
    subst hcs
    obtain rfl : m = cap := by simpa using hmm
    unfold maxLen at hm
    have hf : ∀ i, i < m → ∃ b, V i = .float .f32 b ∧ b < 4294967296 := fun i hi => trod_single (hc i hi).2
    let g : Nat → Nat := fun i => match V i with | .float _ b => b | _ => 0
    have hg : ∀ i, i < m → V i = .float .f32 (g i) ∧ g i < 4294967296 := by
      intro i hi
      obtain ⟨b, hb, hlt⟩ := hf i hi
      refine ⟨?_, ?_⟩ <;> (show _) <;> simp only [g, hb] <;> first | rfl | exact hlt
    have hlen : ((List.range len).map g).length = len := by simp
    refine ⟨some a, (List.range len).map g, m, by rw [hlen], ⟨by rw [hlen]; omega, ?_⟩, ?_⟩
    · intro x hx
      obtain ⟨i, hi, rfl⟩ := List.mem_map.1 hx
      exact (hg i (by have := List.mem_range.1 hi; omega)).2
    · by_cases h0 : len = 0
      · subst h0; exact .inl rfl
      · right
        obtain ⟨b, off, spot⟩ := a
        have hspot : spot = none := by simpa [Addr.add] using World.cell?_spot (hc 0 (by omega)).1
        subst hspot
        refine ⟨b, off, rfl, fun i hi => ?_⟩
        rw [hlen] at hi
        have h1 := (hc i (by omega)).1
        rw [Go.WideShapes.add_plain, (hg i (by omega)).1] at h1
        rw [h1]
        simp [List.getD_eq_getElem?_getD, List.getElem?_map, List.getElem?_range hi]

theorem array5 {α : Type} {cs : Array α} (h : cs.size = 5) : ∃ c0 c1 c2 c3 c4, cs = #[c0, c1, c2, c3, c4] := by
  obtain ⟨l⟩ := cs
  match l, h with
  | [c0, c1, c2, c3, c4], _ => exact ⟨c0, c1, c2, c3, c4, rfl⟩
theorem cells66 : Tryz.prog.cellsOf /-T-/26 = 5 := by kernel_rfl
theorem cells30 : Tryz.prog.cellsOf /-T-/23 = 4 := by kernel_rfl
theorem cells64 : Tryz.prog.cellsOf /-T-/24 = 1 := by kernel_rfl
theorem cells3 : Tryz.prog.cellsOf /-T-/3 = 1 := by kernel_rfl

set_option maxRecDepth 100000 in
/-- a field that came in -/
theorem open_field {H : Type} {enc : TypeId × Value → H} {W : World} {r : Reach} {b0 : Nat} {v : Value} {d : DataW H} {p : List MemPlace}
    (hv : Value.okWide Tryz.prog W r b0 /-T-/26 v) (h : DataW.Trod enc Tryz.prog W 0 (fun _ => true) true /-T-/26 v d p) :
    ∃ (X Y A B : Int) (a : Option Addr) (l : List Nat) (cap : Nat), v = fldV X Y A B a l.length cap ∧ Row63 W a l ∧ ((Lit.int .i64 X).wf = true ∧ (Lit.int .i64 Y).wf = true ∧ (Lit.int .i64 A).wf = true ∧ (Lit.int .i64 B).wf = true) := by
  obtain ⟨cs, rfl, hsz⟩ := okWide_struct Tryz.underlying26 hv
  obtain ⟨c0, c1, c2, c3, c4, rfl⟩ := array5 (hsz.trans cells66)
  obtain ⟨fuel, hf⟩ := h
  obtain ⟨y0, y1, n, hx, _, h0, h1⟩ := trod_struct2 Tryz.underlying26 hf
  simp only [Value.cells, cells30, cells64] at h0 h1
  obtain ⟨a, l, cap, e4, hr⟩ := row_of (v := c4) (by simpa using h1)
  obtain ⟨z0, z1, z2, z3, n2, hx2, _, g0, g1, g2, g3⟩ := Joins.trod_struct4 Tryz.underlying23 h0
  simp only [cells3] at g0 g1 g2 g3
  obtain ⟨X, e0, _, wx⟩ := DataW.trod_int Tryz.underlying3 g0
  obtain ⟨Y, e1, _, wy⟩ := DataW.trod_int Tryz.underlying3 g1
  obtain ⟨A, e2, _, wa⟩ := DataW.trod_int Tryz.underlying3 g2
  obtain ⟨B, e3, _, wb⟩ := DataW.trod_int Tryz.underlying3 g3
  simp at e0 e1 e2 e3
  subst e0 e1 e2 e3 e4
  exact ⟨X, Y, A, B, a, l, cap, rfl, hr, wx, wy, wa, wb⟩
end Go.Proofs.YtfpiklbmmpmkiaaGreatDoor

namespace Go.Proofs.YtfpiklbmmpmkiaaGreatDoor
open Go.Shelf
open Go.ChangeShapes Go.WideShapes Go.ChangeAt Go.RowKit
open Ieee.Format (fin finE htE allFin allHt all_true all_false finE_ok finE_bad htE_ok htE_far htE_bad mulF subF addF Ht scaleF)
set_option linter.unusedVariables false

/-- a field with its error: no field with an error, or the field of these values -/
def OutV (c : Int) (X Y W H : Int) (m : List Nat) (w : World) (B : Nat) (x y p q : Int) (a : Option Addr) (n k : Nat) : Prop :=
  (c ≠ 0 ∧ x = 0 ∧ y = 0 ∧ p = 0 ∧ q = 0 ∧ a = none ∧ n = 0 ∧ k = 0) ∨ (c = 0 ∧ x = X ∧ y = Y ∧ p = W ∧ q = H ∧ ∃ g, a = some ⟨g, 0, none⟩ ∧ n = m.length ∧ OwnF w B g k m)
theorem OutV.below {c X Y W H : Int} {m : List Nat} {w w' : World} {B : Nat} {x y p q : Int} {a : Option Addr} {n k : Nat} (h : OutV c X Y W H m w B x y p q a n k) (hb : Below w.heap.size w w') : OutV c X Y W H m w' B x y p q a n k := by
  rcases h with h | ⟨h0, h1, h2, h3, h4, g, h5, h6, h7⟩
  · exact .inl h
  · exact .inr ⟨h0, h1, h2, h3, h4, g, h5, h6, h7.below hb h7.lt.2⟩
def OpP (c : Int) (X Y W H : Int) (m : List Nat) (w : World) (e : Ending) (w' : World) : Prop :=
  (∃ x y p q a n k, e = .returned (.tuple #[fldV x y p q a n k, .int .i64 c]) ∧ OutV c X Y W H m w' w.heap.size x y p q a n k) ∧ Below w.heap.size w w'

theorem OpP.err {c X Y W H : Int} {m : List Nat} {w : World} {e : Ending} {w' : World} (hc : c ≠ 0) (he : e = .returned (.tuple #[fldV 0 0 0 0 none 0 0, .int .i64 c])) (hb : Below w.heap.size w w') : OpP c X Y W H m w e w' :=
  ⟨⟨0, 0, 0, 0, none, 0, 0, he, .inl ⟨hc, rfl, rfl, rfl, rfl, rfl, rfl, rfl⟩⟩, hb⟩
theorem ResP.op {X Y W H : Int} {m : List Nat} {w : World} {e : Ending} {w' : World} (h : ResP X Y W H m w e w') : OpP (if allHt m = true then 0 else 3) X Y W H m w e w' := by
  obtain ⟨h1, h2, h3⟩ := h
  by_cases hh : allHt m = true
  · rw [if_pos hh]
    obtain ⟨g, cap, he, ho⟩ := h1 hh
    exact ⟨⟨X, Y, W, H, _, _, cap, he, .inr ⟨rfl, rfl, rfl, rfl, rfl, g, rfl, rfl, ho⟩⟩, h3⟩
  · rw [if_neg hh]
    exact OpP.err (by decide) (h2 (by simpa using hh)) h3

def scaleC (s t : Nat) (l : List Nat) : Int := if htE [s, t] ≠ 0 then htE [s, t] else if allHt (l.map (scaleF s t)) = true then 0 else 3
def clampC (s t : Nat) : Int := if htE [s, t] ≠ 0 then htE [s, t] else if (Go.FloatKind.f32.format.order s t == some .gt) = true then 8 else 0

theorem scale_op (X Y : Int) (Wn Hn : Nat) (b o c : Nat) (l : List Nat) (x y : Nat) (w : World) (hl : SRow w (some ⟨b, o, none⟩) l) (hr : Right X Y Wn Hn l) (hx : x < 4294967296) (hy : y < 4294967296) :
    Calls Tryz.prog 8 #[fldV X Y Wn Hn (some ⟨b, o, none⟩) l.length c, .float .f32 x, .float .f32 y] w fun e w' => OpP (scaleC x y l) X Y Wn Hn (l.map (scaleF x y)) w e w' := by
  unfold scaleC
  by_cases h : htE [x, y] = 0
  · rw [if_neg (by simp [h])]
    exact (scale_yes X Y Wn Hn b o c l x y w hl hr hx hy h).mono fun e w' h => h.op
  · rw [if_pos h]
    exact (scale_no X Y Wn Hn _ c l x y w hl hr.chk hx hy h).mono fun e w' ⟨h1, h2⟩ => OpP.err h h1 h2
theorem clamp_c {X Y : Int} {Wn Hn : Nat} {l : List Nat} {x y : Nat} (hr : Right X Y Wn Hn l) (h : htE [x, y] = 0) : (if allHt (l.map (clampF x y)) = true then (0 : Int) else 3) = 0 := by
  have hts := Ieee.Format.allHt_iff.1 (Ieee.Format.htE_zero h)
  exact if_pos (map_clamp_ht hr (hts x (by simp)) (hts y (by simp)))
end Go.Proofs.YtfpiklbmmpmkiaaGreatDoor

namespace Go.Proofs.YtfpiklbmmpmkiaaGreatDoor
open Go.Shelf
open Go.ChangeShapes Go.WideShapes Go.ChangeAt Go.RowKit
open Ieee.Format (fin finE htE allFin allHt all_true all_false finE_ok finE_bad htE_ok htE_far htE_bad mulF subF addF Ht scaleF)
set_option linter.unusedVariables false

theorem fld_store (w : World) (k : Nat) (X Y A B : Int) (v : Value) (x y p q : Int) (u : Value) (h : Fld w k X Y A B v) :
    ∀ W', W' = ((((w.setCell ⟨k, 0, none⟩ (.int .i64 x)).setCell ⟨k, 1, none⟩ (.int .i64 y)).setCell ⟨k, 2, none⟩ (.int .i64 p)).setCell ⟨k, 3, none⟩ (.int .i64 q)).setCell ⟨k, 4, none⟩ u →
    Fld W' k x y p q u ∧ Below k w W' ∧ (∀ g B cap l, OwnF w B g cap l → g ≠ k → OwnF W' B g cap l) ∧ (∀ j X Y A B v, Fld w j X Y A B v → j ≠ k → Fld W' j X Y A B v) ∧ W'.heap.size = w.heap.size := by
  rintro _ rfl
  refine ⟨((((h.set0 x).set1 y).set2 p).set3 q).set4 u, (by repeat (first | with_reducible exact Below.refl _ _ | with_reducible apply Below.drew | with_reducible refine below_drewN ?_ _ | (with_reducible refine Below.setCell ?_ ?_ _; rotate_left; focus (first | omega | (simp <;> omega))) | (with_reducible refine Below.alloc ?_ ?_ _; rotate_left; focus (first | omega | (simp <;> omega))))), fun g B cap l ho hg => ?_, fun j X Y A B v hj hk => ?_, by simp⟩
  · exact ((((ho.setCell (by simpa using hg) _).setCell (by simpa using hg) _).setCell (by simpa using hg) _).setCell (by simpa using hg) _).setCell (by simpa using hg) _
  · exact ((((hj.setCell (by simpa using hk) _).setCell (by simpa using hk) _).setCell (by simpa using hk) _).setCell (by simpa using hk) _).setCell (by simpa using hk) _

theorem OutV.set {c X Y W H : Int} {m : List Nat} {w w' : World} {B j : Nat} {x y p q : Int} {a : Option Addr} {n k : Nat} (h : OutV c X Y W H m w B x y p q a n k)
    (hs : ∀ g B cap l, OwnF w B g cap l → g ≠ j → OwnF w' B g cap l) (hj : j < B) : OutV c X Y W H m w' B x y p q a n k := by
  rcases h with h | ⟨h0, h1, h2, h3, h4, g, h5, h6, h7⟩
  · exact .inl h
  · exact .inr ⟨h0, h1, h2, h3, h4, g, h5, h6, hs _ _ _ _ h7 (by have := h7.lt.1; omega)⟩
theorem SRow.under {w w' : World} {g B : Nat} {l : List Nat} (h : SRow w (some ⟨g, 0, none⟩) l) (hb : Below B w w') (hg : g < B) : SRow w' (some ⟨g, 0, none⟩) l := by
  obtain ⟨h1, h2⟩ := h
  refine ⟨h1, ?_⟩
  rcases h2 with h2 | ⟨b, o, e, hc⟩
  · exact .inl h2
  · obtain ⟨rfl, rfl⟩ : g = b ∧ 0 = o := by simpa using e
    refine .inr ⟨g, 0, rfl, fun i hi => ?_⟩
    rw [hb.cell (p := ⟨g, 0 + i, none⟩) hg]
    exact hc i hi

end Go.Proofs.YtfpiklbmmpmkiaaGreatDoor
