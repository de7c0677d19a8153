import Derived.Test.YtimhpmccmafnpaaGreatG03
import Derived.Test.YtimhpmccmafnpaaGreatG01
import Derived.Shelf.Abstract
import Derived.Deep.AppendLies
import Derived.Deep.RegionLaw
import Derived.Deep.RegionHeld3
import Derived.Outline
import Derived.Laws.BitsAllLaws
import Derived.Laws.BitsLemmas
import Derived.OwnWalk
import Derived.Lib.SmallJoins
import Derived.Deep.Slices
import Derived.OpenShut
import Derived.WalkLawsBesides
import Derived.Maps.OwnSet
import Derived.BigQuiet
import Derived.Deep.CutBlock
import Derived.Deep.DeepCutAuto
import Derived.Deep.QuietTactic


namespace Go.Proofs.YtimhpmccmafnpaaGreat
open Go.ChangeShapes Go.WideShapes Go.ChangeAt Go.RowKit
open Ieee.Format (fin finE htE allFin allHt all_true all_false finE_ok finE_bad htE_ok htE_far htE_bad mulF subF addF)
set_option linter.unusedVariables false

/-- block 'k' is just a region -/
def Reg (w : World) (k : Nat) (X Y W H : Int) : Prop := w.heap[k]? = some (.cells #[.int .i64 X, .int .i64 Y, .int .i64 W, .int .i64 H] /-T-/33 (0, 0))
section
variable {w w' : World} {k : Nat} {X Y W H : Int}
theorem Reg.lt (h : Reg w k X Y W H) : k < w.heap.size := by
  rcases Nat.lt_or_ge k w.heap.size with hlt | hge
  · exact hlt
  · unfold Reg at h; rw [Array.getElem?_eq_none hge] at h; cases h
theorem Reg.cell (h : Reg w k X Y W H) (i : Nat) : w.cell? ⟨k, i, none⟩ = (#[.int .i64 X, .int .i64 Y, .int .i64 W, .int .i64 H] : Array Value)[i]? := cell_of_row w k i _ _ _ h
theorem Reg.cells (h : Reg w k X Y W H) : w.cell? ⟨k, 0, none⟩ = some (.int .i64 X) ∧ w.cell? ⟨k, 1, none⟩ = some (.int .i64 Y) ∧ w.cell? ⟨k, 2, none⟩ = some (.int .i64 W) ∧ w.cell? ⟨k, 3, none⟩ = some (.int .i64 H) :=
  ⟨h.cell 0, h.cell 1, h.cell 2, h.cell 3⟩
theorem Reg.below {B : Nat} (h : Reg w k X Y W H) (hb : Below B w w') (hk : k < B) : Reg w' k X Y W H := (hb.block k hk).trans h
theorem Reg.new (w : World) (X Y W H : Int) : Reg (w.alloc (.cells #[.int .i64 X, .int .i64 Y, .int .i64 W, .int .i64 H] /-T-/33)) w.heap.size X Y W H := heap_alloc_new w _
theorem Reg.alloc (h : Reg w k X Y W H) (o : Obj) : Reg (w.alloc o) k X Y W H := (Below.heap_alloc w o k h.lt).trans h
theorem Reg.drew (h : Reg w k X Y W H) : Reg w.drew k X Y W H := h
theorem Reg.setCell (h : Reg w k X Y W H) {p : Addr} (hp : k ≠ p.block) (u : Value) : Reg (w.setCell p u) k X Y W H := (Below.heap_setCell w p u k hp).trans h
theorem Reg.grown {row : Option Nat} (h : Reg w k X Y W H) (hb : w.grownBy w' row) (hg : some k ≠ row) : Reg w' k X Y W H := (hb.block k h.lt hg).trans h
end

/-- what 'made' gives: the first 'n' values, row by row -/
def madeL (ψ : Int → Int → Nat) (X Y : Int) (W n : Nat) : List Nat := (List.range n).map fun k => ψ (X + ((k % W : Nat) : Int)) (Y + ((k / W : Nat) : Int))
theorem madeL_len (ψ : Int → Int → Nat) (X Y : Int) (W n : Nat) : (madeL ψ X Y W n).length = n := by simp [madeL]
theorem madeL_succ (ψ : Int → Int → Nat) (X Y : Int) (W i j : Nat) (hi : i < W) : madeL ψ X Y W (j * W + i + 1) = madeL ψ X Y W (j * W + i) ++ [ψ (X + (i : Int)) (Y + (j : Int))] := by
  have h1 : (j * W + i) % W = i := by rw [Nat.mul_comm, Nat.mul_add_mod, Nat.mod_eq_of_lt hi]
  have h2 : (j * W + i) / W = j := by rw [Nat.mul_comm, Nat.mul_add_div (by omega), Nat.div_eq_of_lt hi]; rfl
  unfold madeL
  rw [List.range_succ, List.map_append, List.map_singleton, h1, h2]

theorem ownsRow_below {w w' : World} {B B' size n : Nat} {e : TypeId} {v : Value} {xs : List Value} (h : w.ownsRow B e size v n xs) (hb : Below B' w w') (hg : ∀ k, v.ownBlock = some k → k < B') : w'.ownsRow B e size v n xs := by
  refine ⟨h.1, ?_⟩
  rcases h.2 with h2 | ⟨g, cap, cur, rfl, hB, hh, r⟩
  · exact .inl h2
  · exact .inr ⟨g, cap, cur, rfl, hB, (hb.block g (hg g rfl)).trans hh, r⟩

end Go.Proofs.YtimhpmccmafnpaaGreat

namespace Go.Proofs.YtimhpmccmafnpaaGreat
open Go.ChangeShapes Go.WideShapes Go.ChangeAt Go.RowKit
open Ieee.Format (fin finE htE allFin allHt all_true all_false finE_ok finE_bad htE_ok htE_far htE_bad mulF subF addF)
set_option linter.unusedVariables false

end Go.Proofs.YtimhpmccmafnpaaGreat

namespace Go.Proofs.YtimhpmccmafnpaaGreat
open Go.Shelf
open Go.ChangeShapes Go.WideShapes Go.ChangeAt Go.RowKit
open Ieee.Format (fin finE htE allFin allHt all_true all_false finE_ok finE_bad htE_ok htE_far htE_bad mulF subF addF Ht scaleF)
set_option linter.unusedVariables false

/-- 'made' over the cells of a field is the field's values turned -/
theorem madeL_map (φ : Nat → Nat) (X Y : Int) (Wn Hn : Nat) (l : List Nat) (h1 : 1 ≤ Wn) (hl : l.length = Hn * Wn) :
    madeL (fun x y => φ (l.getD (cellNo X Y Wn x y).toNat 0)) X Y Wn (Hn * Wn) = l.map φ := by
  refine List.ext_getElem? fun k => ?_
  unfold madeL
  rw [List.getElem?_map, List.getElem?_map]
  by_cases hk : k < Hn * Wn
  · have e : (cellNo X Y Wn (X + ((k % Wn : Nat) : Int)) (Y + ((k / Wn : Nat) : Int))).toNat = k := by
      unfold cellNo
      have := Nat.div_add_mod k Wn
      have h : (Y + ((k / Wn : Nat) : Int) - Y) * (Wn : Int) = ((Wn * (k / Wn) : Nat) : Int) := by
        rw [show Y + ((k / Wn : Nat) : Int) - Y = ((k / Wn : Nat) : Int) from by omega, Int.natCast_mul, Int.mul_comm]
      rw [h]
      omega
    rw [List.getElem?_range hk, List.getElem?_eq_getElem (by omega), Option.map_some, Option.map_some]
    dsimp only
    rw [e, List.getD_eq_getElem?_getD, List.getElem?_eq_getElem (by omega)]
    rfl
  · rw [List.getElem?_eq_none (by rw [List.length_range]; omega), List.getElem?_eq_none (by omega)]
    rfl

/-- a field of these values, or ErrRange where one of them is no height -/
def ResP (X Y W H : Int) (m : List Nat) (w : World) (e : Ending) (w' : World) : Prop :=
  (allHt m = true → ∃ g cap, e = .returned (.tuple #[fldV X Y W H (some ⟨g, 0, none⟩) m.length cap, .int .i64 0]) ∧ OwnF w' w.heap.size g cap m) ∧
  (allHt m = false → e = .returned (.tuple #[fldV 0 0 0 0 none 0 0, .int .i64 3])) ∧ Below w.heap.size w w'
theorem row_two (w : World) (x y : Nat) (hx : x < 4294967296) (hy : y < 4294967296) (t : TypeId) : SRow (w.alloc (.cells #[.float .f32 x, .float .f32 y] t)) (some ⟨w.heap.size, 0, none⟩) [x, y] := by
  refine ⟨⟨by simp, by simp; exact ⟨hx, hy⟩⟩, .inr ⟨w.heap.size, 0, rfl, ?_⟩⟩
  intro i hi
  have : i = 0 ∨ i = 1 := by simp at hi; omega
  rcases this with rfl | rfl <;> simp

/-- a right field: its region and values are right -/
structure Right (X Y : Int) (Wn Hn : Nat) (l : List Nat) : Prop where
  w1 : 1 ≤ Wn
  w2 : Wn ≤ 512
  h1 : 1 ≤ Hn
  h2 : Hn ≤ 512
  wh : Wn * Hn ≤ 65536
  x1 : -4194304 ≤ X
  x2 : X ≤ 4194304 - Wn
  y1 : -4194304 ≤ Y
  y2 : Y ≤ 4194304 - Hn
  len : l.length = Hn * Wn
  ht : ∀ x ∈ l, Ht x
theorem Right.chk {X Y : Int} {Wn Hn : Nat} {l : List Nat} (h : Right X Y Wn Hn l) : chkF X Y Wn Hn l = 0 := by
  have c : Go.Proofs.YtimhpmccmafnpaaGreat.chk X Y Wn Hn = 0 := by
    unfold Go.Proofs.YtimhpmccmafnpaaGreat.chk
    have e : ((Wn : Int) * (Hn : Int)) = ((Wn * Hn : Nat) : Int) := by rw [Int.natCast_mul]
    have := h.w1; have := h.w2; have := h.h1; have := h.h2; have := h.wh; have := h.x1; have := h.x2; have := h.y1; have := h.y2
    rw [if_neg (by omega), if_neg (by rw [e]; omega), if_neg (by omega)]
  rw [chkF_vals c (by rw [h.len, Int.natCast_mul, Int.mul_comm])]
  exact Ieee.Format.htE_of_ht (Ieee.Format.allHt_iff.2 h.ht)
theorem Right.ne {X Y : Int} {Wn Hn : Nat} {l : List Nat} (h : Right X Y Wn Hn l) : l ≠ [] := by
  intro e
  have := h.len
  rw [e] at this
  have := Nat.mul_le_mul h.h1 h.w1
  simp at *; omega

end Go.Proofs.YtimhpmccmafnpaaGreat

namespace Go.Proofs.YtimhpmccmafnpaaGreat
open Go.Shelf
open Go.ChangeShapes Go.WideShapes Go.ChangeAt Go.RowKit
open Ieee.Format (fin finE htE allFin allHt all_true all_false finE_ok finE_bad htE_ok htE_far htE_bad mulF subF addF Ht scaleF)
set_option linter.unusedVariables false

theorem Right.getD {X Y : Int} {Wn Hn : Nat} {l : List Nat} (h : Right X Y Wn Hn l) (i : Nat) : Ht (l.getD i 0) := by
  rcases Nat.lt_or_ge i l.length with hlt | hge
  · rw [List.getD_eq_getElem?_getD, List.getElem?_eq_getElem hlt]; exact h.ht _ (List.getElem_mem hlt)
  · rw [List.getD_eq_getElem?_getD, List.getElem?_eq_none hge]; show (0 : Nat) % 2147483648 ≤ 1233125376; decide

theorem row_two_at (W : World) (g x y : Nat) (hx : x < 4294967296) (hy : y < 4294967296) (h0 : W.cell? ⟨g, 0, none⟩ = some (.float .f32 x)) (h1 : W.cell? ⟨g, 1, none⟩ = some (.float .f32 y)) : SRow W (some ⟨g, 0, none⟩) [x, y] := by
  refine ⟨⟨by simp, by simp; exact ⟨hx, hy⟩⟩, .inr ⟨g, 0, rfl, ?_⟩⟩
  intro i hi
  have : i = 0 ∨ i = 1 := by simp at hi; omega
  rcases this with rfl | rfl
  · exact h0
  · exact h1
theorem refheight_two (W : World) (g x y : Nat) (hx : x < 4294967296) (hy : y < 4294967296) (h0 : W.cell? ⟨g, 0, none⟩ = some (.float .f32 x)) (h1 : W.cell? ⟨g, 1, none⟩ = some (.float .f32 y)) :
    Calls Tryz.prog 49 #[.slice (some ⟨g, 0, none⟩) 2 2] W fun e w' => e = .returned (.int .i64 (htE [x, y])) ∧ W = w' :=
  refheight_any (some ⟨g, 0, none⟩) 2 [x, y] W (row_two_at W g x y hx hy h0 h1)

end Go.Proofs.YtimhpmccmafnpaaGreat

namespace Go.Proofs.YtimhpmccmafnpaaGreat
open Go.Shelf
open Go.ChangeShapes Go.WideShapes Go.ChangeAt Go.RowKit
open Ieee.Format (fin finE htE allFin allHt all_true all_false finE_ok finE_bad htE_ok htE_far htE_bad mulF subF addF Ht scaleF)
set_option linter.unusedVariables false

/-- a value held within two bounds -/
def clampF (a d x : Nat) : Nat := if (Ieee.single.order x a == some .lt) = true then a else if (Ieee.single.order x d == some .gt) = true then d else x
theorem clampF_ht {a d x : Nat} (ha : Ht a) (hd : Ht d) (hx : Ht x) : Ht (clampF a d x) := by
  unfold clampF; split
  · exact ha
  · split
    · exact hd
    · exact hx
theorem clampF_lt {a d x : Nat} (ha : a < 4294967296) (hd : d < 4294967296) (hx : x < 4294967296) : clampF a d x < 4294967296 := by
  unfold clampF; split
  · exact ha
  · split
    · exact hd
    · exact hx

theorem clampfn_any (x a d p q : Nat) (w : World) (c1 : w.cell? ⟨p, 0, none⟩ = some (.float .f32 a)) (c2 : w.cell? ⟨q, 0, none⟩ = some (.float .f32 d)) :
    Calls Tryz.prog 103 #[.float .f32 x, .pointer (some ⟨p, 0, none⟩), .pointer (some ⟨q, 0, none⟩)] w fun e w' => e = .returned (.float .f32 (clampF a d x)) ∧ w = w' := by
  go_enter Tryz.func103, Tryz.ntmps103
  go_wp2_with fail
  all_goals
    go_ret
    refine ⟨ret_f32 ?_, rfl⟩
    unfold clampF
    simp only [show Go.FloatKind.f32.format = Ieee.single from rfl] at *
    simp [*]

set_option maxHeartbeats 1000000 in
theorem clamp_no (X Y W H : Int) (a : Option Addr) (c : Nat) (l : List Nat) (x y : Nat) (w : World) (hl : SRow w a l) (h0 : chkF X Y W H l = 0) (hx : x < 4294967296) (hy : y < 4294967296) (hn : htE [x, y] ≠ 0) :
    Calls Tryz.prog 74 #[fldV X Y W H a l.length c, .float .f32 x, .float .f32 y] w fun e w' => e = .returned (.tuple #[fldV 0 0 0 0 none 0 0, .int .i64 (htE [x, y])]) ∧ Below w.heap.size w w' := by
  have K := Lib.hid (fun w h => check_field X Y W H a c l w h)
  rw [h0] at K
  have HL := Lib.hid hl
  have K2 := Lib.hid (fun w c => heights_any (some ⟨w.heap.size, 0, none⟩) c [x, y] (w.alloc (.cells #[.float .f32 x, .float .f32 y] /-T-/46)) (row_two w x y hx hy _))
  have hb : (htE [x, y] != 0) = true := by rw [bne_iff_ne]; exact hn
  clear hl h0 hx hy hn
  generalize htE [x, y] = q at *
  have hA : Below w.heap.size w ((((w.alloc (.cells #[.int .i64 X, .int .i64 Y, .int .i64 W, .int .i64 H, .slice a l.length c] /-T-/78)).alloc (.cells #[.float .f32 x] /-T-/46)).alloc (.cells #[.float .f32 y] /-T-/46)).alloc (.cells #[.int .i64 0, .int .i64 0, .int .i64 0, .int .i64 0, .slice none 0 0] /-T-/78)) := (by repeat (first | with_reducible exact Below.refl _ _ | with_reducible apply Below.drew | with_reducible refine below_drewN ?_ _ | (with_reducible refine Below.setCell ?_ ?_ _; rotate_left; focus (first | omega | (simp <;> omega))) | (with_reducible refine Below.alloc ?_ ?_ _; rotate_left; focus (first | omega | (simp <;> omega)))))
  have HA := Lib.hid hA
  clear hA
  go_enter Tryz.func74, Tryz.ntmps74
  go_wp2_with fail
  refine (K.out _ (HL.out.below HA.out)).mono ?_
  rintro e w1 ⟨rfl, b1⟩
  have B1 := Lib.hid (HA.out.trans (b1.mono HA.out.size))
  obtain ⟨hcc, hf⟩ := bcell b1
  have hs := b1.size
  simp at hs
  have lta0 : w.heap.size < w1.heap.size := by omega
  have lta1 : w.heap.size + 1 < w1.heap.size := by omega
  have lta2 : w.heap.size + 1 + 1 < w1.heap.size := by omega
  have lta3 : w.heap.size + 1 + 1 + 1 < w1.heap.size := by omega
  clear b1
  go_wp2_with fail
  refine (K2.out _ _).mono ?_
  rintro e w2 ⟨rfl, rfl⟩
  go_wp2
  have B2 := B1.out
  exact bodyPost_ret (v := .tuple #[fldV 0 0 0 0 none 0 0, .int .i64 q]) (by simp [results, Tryz.results74, go_sem, *]) rfl ⟨rfl, (by have hszz := B2.size; repeat (first | with_reducible exact B2 | with_reducible apply Below.drew | with_reducible refine below_drewN ?_ _ | (with_reducible refine Below.setCell ?_ ?_ _; rotate_left; focus (first | omega | (simp <;> omega))) | (with_reducible refine Below.alloc ?_ ?_ _; rotate_left; focus (first | omega | (simp <;> omega)))))⟩

end Go.Proofs.YtimhpmccmafnpaaGreat

namespace Go.Proofs.YtimhpmccmafnpaaGreat
open Go.Shelf
open Go.ChangeShapes Go.WideShapes Go.ChangeAt Go.RowKit
open Ieee.Format (fin finE htE allFin allHt all_true all_false finE_ok finE_bad htE_ok htE_far htE_bad mulF subF addF Ht scaleF)
set_option linter.unusedVariables false

theorem map_clamp_ht {X Y : Int} {Wn Hn : Nat} {l : List Nat} {x y : Nat} (hr : Right X Y Wn Hn l) (hx : Ht x) (hy : Ht y) : allHt (l.map (clampF x y)) = true := by
  refine Ieee.Format.allHt_iff.2 fun z hz => ?_
  obtain ⟨v, hv, rfl⟩ := List.mem_map.1 hz
  exact clampF_ht hx hy (hr.ht v hv)
set_option maxRecDepth 100000 in
theorem clamp_yes (X Y : Int) (Wn Hn : Nat) (b o c : Nat) (l : List Nat) (x y : Nat) (w : World) (hl : SRow w (some ⟨b, o, none⟩) l) (hr : Right X Y Wn Hn l) (hx : x < 4294967296) (hy : y < 4294967296) (hn : htE [x, y] = 0) (hg : (Go.FloatKind.f32.format.order x y == some .gt) = false) :
    Calls Tryz.prog 74 #[fldV X Y Wn Hn (some ⟨b, o, none⟩) l.length c, .float .f32 x, .float .f32 y] w fun e w' => ResP X Y Wn Hn (l.map (clampF x y)) w e w' := by
  have hts := Ieee.Format.allHt_iff.1 (Ieee.Format.htE_zero hn)
  have hax : Ht x := hts x (by simp)
  have hay : Ht y := hts y (by simp)
  have K := Lib.hid (fun w h => check_field X Y Wn Hn (some ⟨b, o, none⟩) c l w h)
  rw [hr.chk] at K
  have HL := Lib.hid hl
  have HT := Lib.hid hr.ht
  have H0 := Lib.hid hr.ne
  have HX0 := Lib.hid hx
  have HY0 := Lib.hid hy
  have HLT := Lib.hid hl.1.2
  have HAL := Lib.hid (map_clamp_ht hr hax hay)
  have K2 := Lib.hid (fun w c => heights_any (some ⟨w.heap.size, 0, none⟩) c [x, y] (w.alloc (.cells #[.float .f32 x, .float .f32 y] /-T-/46)) (row_two w x y hx hy _))
  rw [hn] at K2
  have eg := Lib.hid (enters_of Tryz.func103 (by kernel_rfl) rfl)
  have hlen := hl.1.1
  clear hl hx hy hn hts hax hay hr
  have hA : Below w.heap.size w ((((w.alloc (.cells #[.int .i64 X, .int .i64 Y, .int .i64 Wn, .int .i64 Hn, .slice (some ⟨b, o, none⟩) l.length c] /-T-/78)).alloc (.cells #[.float .f32 x] /-T-/46)).alloc (.cells #[.float .f32 y] /-T-/46)).alloc (.cells #[.int .i64 0, .int .i64 0, .int .i64 0, .int .i64 0, .slice none 0 0] /-T-/78)) := (by repeat (first | with_reducible exact Below.refl _ _ | with_reducible apply Below.drew | with_reducible refine below_drewN ?_ _ | (with_reducible refine Below.setCell ?_ ?_ _; rotate_left; focus (first | omega | (simp <;> omega))) | (with_reducible refine Below.alloc ?_ ?_ _; rotate_left; focus (first | omega | (simp <;> omega)))))
  have HA := Lib.hid hA
  clear hA
  go_enter Tryz.func74, Tryz.ntmps74
  go_wp2_with fail
  refine (K.out _ (HL.out.below HA.out)).mono ?_
  rintro e w1 ⟨rfl, b1⟩
  have B1 := Lib.hid (HA.out.trans (b1.mono HA.out.size))
  have cx : Hid (w1.cell? ⟨w.heap.size + 1, 0, none⟩ = some (.float .f32 x)) := by
    unfold Hid; exact (b1.cell (p := ⟨w.heap.size + 1, 0, none⟩) (by simp)).trans (by simp [go_sem])
  have cy : Hid (w1.cell? ⟨w.heap.size + 1 + 1, 0, none⟩ = some (.float .f32 y)) := by
    unfold Hid; exact (b1.cell (p := ⟨w.heap.size + 1 + 1, 0, none⟩) (by simp)).trans (by simp [go_sem])
  have FZ : Hid (Fld w1 (w.heap.size + 1 + 1 + 1) 0 0 0 0 (.slice none 0 0)) := by
    have := (Fld.new (((w.alloc (.cells #[.int .i64 X, .int .i64 Y, .int .i64 Wn, .int .i64 Hn, .slice (some ⟨b, o, none⟩) l.length c] /-T-/78)).alloc (.cells #[.float .f32 x] /-T-/46)).alloc (.cells #[.float .f32 y] /-T-/46)) 0 0 0 0 (.slice none 0 0)).below b1 (by simp)
    unfold Hid; simpa using this
  obtain ⟨hcc, hf⟩ := bcell b1
  have hs := b1.size
  simp at hs
  have lta0 : w.heap.size < w1.heap.size := by omega
  have lta1 : w.heap.size + 1 < w1.heap.size := by omega
  have lta2 : w.heap.size + 1 + 1 < w1.heap.size := by omega
  have lta3 : w.heap.size + 1 + 1 + 1 < w1.heap.size := by omega
  clear b1
  go_wp2_with fail
  refine (K2.out _ _).mono ?_
  rintro e w2 ⟨rfl, rfl⟩
  go_wp2_with fail
  have W3 : Hid (Below w1.heap.size w1 (w1.alloc (.cells #[.float .f32 x, .float .f32 y] /-T-/46))) := by
    unfold Hid; exact (by repeat (first | with_reducible exact Below.refl _ _ | with_reducible apply Below.drew | with_reducible refine below_drewN ?_ _ | (with_reducible refine Below.setCell ?_ ?_ _; rotate_left; focus (first | omega | (simp <;> omega))) | (with_reducible refine Below.alloc ?_ ?_ _; rotate_left; focus (first | omega | (simp <;> omega)))))
  have hfn : Hid (∀ z ∈ l, ∀ W', Below (w1.alloc (.cells #[.float .f32 x, .float .f32 y] /-T-/46)).heap.size (w1.alloc (.cells #[.float .f32 x, .float .f32 y] /-T-/46)) W' → Calls Tryz.prog /-F-/103 (#[.float .f32 z] ++ #[.pointer (some ⟨w.heap.size + 1, 0, none⟩), .pointer (some ⟨w.heap.size + 1 + 1, 0, none⟩)]) W' fun e w' => e = .returned (.float .f32 (clampF x y z)) ∧ W' = w') := by
    intro z hz W' hb
    have hb1 : Below w1.heap.size w1 W' := W3.out.trans (hb.mono (by simp))
    exact clampfn_any z x y _ _ W' ((hb1.cell (p := ⟨w.heap.size + 1, 0, none⟩) lta1).trans cx.out) ((hb1.cell (p := ⟨w.heap.size + 1 + 1, 0, none⟩) lta2).trans cy.out)
  refine (each_any /-F-/103 _ (clampF x y) X Y Wn Hn b o c l _ (HL.out.below (B1.out.trans (W3.out.mono B1.out.size))) H0.out eg.out (fun z hz => clampF_lt HX0.out HY0.out (HLT.out z hz)) hfn.out).mono ?_
  rintro e w3 ⟨g, cap, rfl, ho, hb3⟩
  have B3 : Below w.heap.size w w3 := (B1.out.trans (W3.out.mono B1.out.size)).trans (hb3.mono (by simp; omega))
  have F3 := (FZ.out.alloc _).below hb3 (by simp; omega)
  have O3 : OwnF w3 w.heap.size g cap (l.map (clampF x y)) := ho.base (by simp; omega)
  have hgl : w.heap.size + 1 + 1 + 1 < g := by have := ho.lt.1; simp at this; omega
  have HR3 : Hid (SRow w3 (some ⟨g, 0, none⟩) (l.map (clampF x y))) := O3.row (by rw [List.length_map]; exact hlen)
  have HB3 := Lib.hid B3
  have HF3 := Lib.hid F3
  have HO3 := Lib.hid O3
  have hml : Hid ((l.map (clampF x y)).length = l.length) := List.length_map _
  clear ho hb3 B3 F3 O3 hfn W3 B1 FZ K K2 HT HX0 HY0 HLT cx cy HA H0 eg HL hcc hf
  generalize hmq : l.map (clampF x y) = m at *
  have HMQ := Lib.hid hmq
  clear hmq
  have F4 := HF3.out
  have O4 := HO3.out
  have B4 := HB3.out
  obtain ⟨d0, d1, d2, d3, d4⟩ := F4.cells
  have qf0 := F4.frozen 0
  have qf1 := F4.frozen 1
  have qf2 := F4.frozen 2
  have qf3 := F4.frozen 3
  have qf4 := F4.frozen 4
  go_wp2_with fail
  obtain rfl := HMQ.out
  refine bodyPost_ret (v := .tuple #[fldV X Y Wn Hn (some ⟨g, 0, none⟩) (l.map (clampF x y)).length cap, .int .i64 0]) (by simp [results, Tryz.results74, go_sem, *]) rfl ⟨fun _ => ⟨g, cap, rfl, (by have hgg := O4.lt; repeat (first | with_reducible exact O4 | with_reducible refine OwnF.drew ?_ | with_reducible refine OwnF.drewN ?_ _ | (with_reducible refine OwnF.setCell ?_ ?_ _; rotate_left; focus (first | omega | (simp <;> omega))) | with_reducible refine OwnF.alloc ?_ _))⟩, fun h => absurd (HAL.out.symm.trans h) (by decide), (by have hszz := B4.size; repeat (first | with_reducible exact B4 | with_reducible apply Below.drew | with_reducible refine below_drewN ?_ _ | (with_reducible refine Below.setCell ?_ ?_ _; rotate_left; focus (first | omega | (simp <;> omega))) | (with_reducible refine Below.alloc ?_ ?_ _; rotate_left; focus (first | omega | (simp <;> omega)))))⟩

set_option maxHeartbeats 1000000 in
theorem clamp_bad (X Y W H : Int) (a : Option Addr) (c : Nat) (l : List Nat) (x y : Nat) (w : World) (hl : SRow w a l) (h0 : chkF X Y W H l = 0) (hx : x < 4294967296) (hy : y < 4294967296) (hn : htE [x, y] = 0) (hg : (Go.FloatKind.f32.format.order x y == some .gt) = true) :
    Calls Tryz.prog 74 #[fldV X Y W H a l.length c, .float .f32 x, .float .f32 y] w fun e w' => e = .returned (.tuple #[fldV 0 0 0 0 none 0 0, .int .i64 8]) ∧ Below w.heap.size w w' := by
  have K := Lib.hid (fun w h => check_field X Y W H a c l w h)
  rw [h0] at K
  have HL := Lib.hid hl
  have K2 := Lib.hid (fun w c => heights_any (some ⟨w.heap.size, 0, none⟩) c [x, y] (w.alloc (.cells #[.float .f32 x, .float .f32 y] /-T-/46)) (row_two w x y hx hy _))
  rw [hn] at K2
  clear hl h0 hx hy hn
  have hA : Below w.heap.size w ((((w.alloc (.cells #[.int .i64 X, .int .i64 Y, .int .i64 W, .int .i64 H, .slice a l.length c] /-T-/78)).alloc (.cells #[.float .f32 x] /-T-/46)).alloc (.cells #[.float .f32 y] /-T-/46)).alloc (.cells #[.int .i64 0, .int .i64 0, .int .i64 0, .int .i64 0, .slice none 0 0] /-T-/78)) := (by repeat (first | with_reducible exact Below.refl _ _ | with_reducible apply Below.drew | with_reducible refine below_drewN ?_ _ | (with_reducible refine Below.setCell ?_ ?_ _; rotate_left; focus (first | omega | (simp <;> omega))) | (with_reducible refine Below.alloc ?_ ?_ _; rotate_left; focus (first | omega | (simp <;> omega)))))
  have HA := Lib.hid hA
  clear hA
  go_enter Tryz.func74, Tryz.ntmps74
  go_wp2_with fail
  refine (K.out _ (HL.out.below HA.out)).mono ?_
  rintro e w1 ⟨rfl, b1⟩
  have B1 := Lib.hid (HA.out.trans (b1.mono HA.out.size))
  obtain ⟨hcc, hf⟩ := bcell b1
  have hs := b1.size
  simp at hs
  have lta0 : w.heap.size < w1.heap.size := by omega
  have lta1 : w.heap.size + 1 < w1.heap.size := by omega
  have lta2 : w.heap.size + 1 + 1 < w1.heap.size := by omega
  have lta3 : w.heap.size + 1 + 1 + 1 < w1.heap.size := by omega
  clear b1
  go_wp2_with fail
  refine (K2.out _ _).mono ?_
  rintro e w2 ⟨rfl, rfl⟩
  go_wp2
  have B2 := B1.out
  exact bodyPost_ret (v := .tuple #[fldV 0 0 0 0 none 0 0, .int .i64 8]) (by simp [results, Tryz.results74, go_sem, *]) rfl ⟨rfl, (by have hszz := B2.size; repeat (first | with_reducible exact B2 | with_reducible apply Below.drew | with_reducible refine below_drewN ?_ _ | (with_reducible refine Below.setCell ?_ ?_ _; rotate_left; focus (first | omega | (simp <;> omega))) | (with_reducible refine Below.alloc ?_ ?_ _; rotate_left; focus (first | omega | (simp <;> omega)))))⟩

end Go.Proofs.YtimhpmccmafnpaaGreat

namespace Go.Proofs.YtimhpmccmafnpaaGreat
open Go.Shelf
open Go.ChangeShapes Go.WideShapes Go.ChangeAt Go.RowKit
open Ieee.Format (fin finE htE allFin allHt all_true all_false finE_ok finE_bad htE_ok htE_far htE_bad mulF subF addF Ht scaleF)
set_option linter.unusedVariables false

theorem refheight_one (W : World) (g x : Nat) (hx : x < 4294967296) (h0 : W.cell? ⟨g, 0, none⟩ = some (.float .f32 x)) :
    Calls Tryz.prog 49 #[.slice (some ⟨g, 0, none⟩) 1 1] W fun e w' => e = .returned (.int .i64 (htE [x])) ∧ W = w' := by
  refine refheight_any (some ⟨g, 0, none⟩) 1 [x] W ⟨⟨by simp, by simp; exact hx⟩, .inr ⟨g, 0, rfl, ?_⟩⟩
  intro i hi
  obtain rfl : i = 0 := by simp at hi; omega
  exact h0

end Go.Proofs.YtimhpmccmafnpaaGreat

namespace Go.Proofs.YtimhpmccmafnpaaGreat
open Go.ChangeShapes Go.WideShapes Go.ChangeAt Go.RowKit
set_option linter.unusedVariables false

end Go.Proofs.YtimhpmccmafnpaaGreat

namespace Go.Proofs.YtimhpmccmafnpaaGreat
open Go.Shelf
open Go.ChangeShapes Go.WideShapes Go.ChangeAt Go.RowKit
open Ieee.Format (fin finE htE allFin allHt all_true all_false finE_ok finE_bad htE_ok htE_far htE_bad mulF subF addF Ht scaleF)
set_option linter.unusedVariables false

/-- a field with its error: no field with an error, or the field of these values -/
def OutV (c : Int) (X Y W H : Int) (m : List Nat) (w : World) (B : Nat) (x y p q : Int) (a : Option Addr) (n k : Nat) : Prop :=
  (c ≠ 0 ∧ x = 0 ∧ y = 0 ∧ p = 0 ∧ q = 0 ∧ a = none ∧ n = 0 ∧ k = 0) ∨ (c = 0 ∧ x = X ∧ y = Y ∧ p = W ∧ q = H ∧ ∃ g, a = some ⟨g, 0, none⟩ ∧ n = m.length ∧ OwnF w B g k m)
theorem OutV.below {c X Y W H : Int} {m : List Nat} {w w' : World} {B : Nat} {x y p q : Int} {a : Option Addr} {n k : Nat} (h : OutV c X Y W H m w B x y p q a n k) (hb : Below w.heap.size w w') : OutV c X Y W H m w' B x y p q a n k := by
  rcases h with h | ⟨h0, h1, h2, h3, h4, g, h5, h6, h7⟩
  · exact .inl h
  · exact .inr ⟨h0, h1, h2, h3, h4, g, h5, h6, h7.below hb h7.lt.2⟩
def OpP (c : Int) (X Y W H : Int) (m : List Nat) (w : World) (e : Ending) (w' : World) : Prop :=
  (∃ x y p q a n k, e = .returned (.tuple #[fldV x y p q a n k, .int .i64 c]) ∧ OutV c X Y W H m w' w.heap.size x y p q a n k) ∧ Below w.heap.size w w'

theorem OpP.err {c X Y W H : Int} {m : List Nat} {w : World} {e : Ending} {w' : World} (hc : c ≠ 0) (he : e = .returned (.tuple #[fldV 0 0 0 0 none 0 0, .int .i64 c])) (hb : Below w.heap.size w w') : OpP c X Y W H m w e w' :=
  ⟨⟨0, 0, 0, 0, none, 0, 0, he, .inl ⟨hc, rfl, rfl, rfl, rfl, rfl, rfl, rfl⟩⟩, hb⟩
theorem ResP.op {X Y W H : Int} {m : List Nat} {w : World} {e : Ending} {w' : World} (h : ResP X Y W H m w e w') : OpP (if allHt m = true then 0 else 3) X Y W H m w e w' := by
  obtain ⟨h1, h2, h3⟩ := h
  by_cases hh : allHt m = true
  · rw [if_pos hh]
    obtain ⟨g, cap, he, ho⟩ := h1 hh
    exact ⟨⟨X, Y, W, H, _, _, cap, he, .inr ⟨rfl, rfl, rfl, rfl, rfl, g, rfl, rfl, ho⟩⟩, h3⟩
  · rw [if_neg hh]
    exact OpP.err (by decide) (h2 (by simpa using hh)) h3

def clampC (s t : Nat) : Int := if htE [s, t] ≠ 0 then htE [s, t] else if (Go.FloatKind.f32.format.order s t == some .gt) = true then 8 else 0

theorem clamp_c {X Y : Int} {Wn Hn : Nat} {l : List Nat} {x y : Nat} (hr : Right X Y Wn Hn l) (h : htE [x, y] = 0) : (if allHt (l.map (clampF x y)) = true then (0 : Int) else 3) = 0 := by
  have hts := Ieee.Format.allHt_iff.1 (Ieee.Format.htE_zero h)
  exact if_pos (map_clamp_ht hr (hts x (by simp)) (hts y (by simp)))
theorem clamp_op (X Y : Int) (Wn Hn : Nat) (b o c : Nat) (l : List Nat) (x y : Nat) (w : World) (hl : SRow w (some ⟨b, o, none⟩) l) (hr : Right X Y Wn Hn l) (hx : x < 4294967296) (hy : y < 4294967296) :
    Calls Tryz.prog 74 #[fldV X Y Wn Hn (some ⟨b, o, none⟩) l.length c, .float .f32 x, .float .f32 y] w fun e w' => OpP (clampC x y) X Y Wn Hn (l.map (clampF x y)) w e w' := by
  unfold clampC
  by_cases h : htE [x, y] = 0
  · rw [if_neg (by simp [h])]
    by_cases hg : (Go.FloatKind.f32.format.order x y == some .gt) = true
    · rw [if_pos hg]
      exact (clamp_bad X Y Wn Hn _ c l x y w hl hr.chk hx hy h hg).mono fun e w' ⟨h1, h2⟩ => OpP.err (by decide) h1 h2
    · rw [if_neg hg]
      exact (clamp_yes X Y Wn Hn b o c l x y w hl hr hx hy h (by simpa using hg)).mono fun e w' h' => by
        have := h'.op
        rw [clamp_c hr h] at this
        exact this
  · rw [if_pos h]
    exact (clamp_no X Y Wn Hn _ c l x y w hl hr.chk hx hy h).mono fun e w' ⟨h1, h2⟩ => OpP.err h h1 h2
end Go.Proofs.YtimhpmccmafnpaaGreat

namespace Go.Proofs.YtimhpmccmafnpaaGreat
open Go.Shelf
open Go.ChangeShapes Go.WideShapes Go.ChangeAt Go.RowKit
open Ieee.Format (fin finE htE allFin allHt all_true all_false finE_ok finE_bad htE_ok htE_far htE_bad mulF subF addF Ht scaleF)
set_option linter.unusedVariables false

theorem fld_store (w : World) (k : Nat) (X Y A B : Int) (v : Value) (x y p q : Int) (u : Value) (h : Fld w k X Y A B v) :
    ∀ W', W' = ((((w.setCell ⟨k, 0, none⟩ (.int .i64 x)).setCell ⟨k, 1, none⟩ (.int .i64 y)).setCell ⟨k, 2, none⟩ (.int .i64 p)).setCell ⟨k, 3, none⟩ (.int .i64 q)).setCell ⟨k, 4, none⟩ u →
    Fld W' k x y p q u ∧ Below k w W' ∧ (∀ g B cap l, OwnF w B g cap l → g ≠ k → OwnF W' B g cap l) ∧ (∀ j X Y A B v, Fld w j X Y A B v → j ≠ k → Fld W' j X Y A B v) ∧ W'.heap.size = w.heap.size := by
  rintro _ rfl
  refine ⟨((((h.set0 x).set1 y).set2 p).set3 q).set4 u, (by repeat (first | with_reducible exact Below.refl _ _ | with_reducible apply Below.drew | with_reducible refine below_drewN ?_ _ | (with_reducible refine Below.setCell ?_ ?_ _; rotate_left; focus (first | omega | (simp <;> omega))) | (with_reducible refine Below.alloc ?_ ?_ _; rotate_left; focus (first | omega | (simp <;> omega))))), fun g B cap l ho hg => ?_, fun j X Y A B v hj hk => ?_, by simp⟩
  · exact ((((ho.setCell (by simpa using hg) _).setCell (by simpa using hg) _).setCell (by simpa using hg) _).setCell (by simpa using hg) _).setCell (by simpa using hg) _
  · exact ((((hj.setCell (by simpa using hk) _).setCell (by simpa using hk) _).setCell (by simpa using hk) _).setCell (by simpa using hk) _).setCell (by simpa using hk) _

theorem OutV.set {c X Y W H : Int} {m : List Nat} {w w' : World} {B j : Nat} {x y p q : Int} {a : Option Addr} {n k : Nat} (h : OutV c X Y W H m w B x y p q a n k)
    (hs : ∀ g B cap l, OwnF w B g cap l → g ≠ j → OwnF w' B g cap l) (hj : j < B) : OutV c X Y W H m w' B x y p q a n k := by
  rcases h with h | ⟨h0, h1, h2, h3, h4, g, h5, h6, h7⟩
  · exact .inl h
  · exact .inr ⟨h0, h1, h2, h3, h4, g, h5, h6, hs _ _ _ _ h7 (by have := h7.lt.1; omega)⟩
end Go.Proofs.YtimhpmccmafnpaaGreat

namespace Go.Proofs.YtimhpmccmafnpaaGreat
open Go.ChangeShapes Go.WideShapes Go.ChangeAt Go.RowKit
set_option linter.unusedVariables false
open Go.Maps

/-- the steps: their names, and how many In, Ints and Reals each has -/
def tabS : List (List UInt8 × (Int × Int × Int)) := [([99, 111, 110, 115, 116], (0, 0, 1)), ([110, 111, 105, 115, 101], (0, 4, 1)), ([115, 112, 101, 99, 107, 108, 101], (0, 1, 1)), ([97, 100, 100], (2, 0, 0)), ([115, 117, 98], (2, 0, 0)), ([109, 117, 108], (2, 0, 0)), ([100, 105, 118], (2, 0, 0)), ([108, 101, 115, 115], (2, 0, 0)), ([109, 111, 114, 101], (2, 0, 0)), ([111, 118, 101, 114], (2, 0, 0)), ([115, 99, 97, 108, 101], (1, 0, 2)), ([99, 108, 97, 109, 112], (1, 0, 2)), ([98, 108, 101, 110, 100], (3, 0, 0)), ([115, 101, 108, 101, 99, 116], (1, 0, 3)), ([116, 101, 114, 114, 97, 99, 101], (1, 0, 2)), ([100, 105, 116, 104, 101, 114], (1, 1, 1)), ([115, 116, 97, 109, 112], (1, 4, 1)), ([102, 97, 117, 108, 116], (1, 4, 1)), ([102, 111, 108, 100], (1, 3, 1)), ([115, 104, 105, 102, 116], (1, 2, 0)), ([98, 108, 117, 114], (1, 1, 0)), ([107, 101, 114, 110, 101, 108], (1, 1, 0)), ([115, 108, 111, 112, 101], (1, 0, 0)), ([99, 117, 114, 118, 101], (1, 0, 0)), ([115, 104, 97, 100, 101], (1, 3, 0)), ([116, 104, 101, 114, 109, 97, 108], (1, 1, 2)), ([115, 109, 111, 111, 116, 104], (1, 1, 0)), ([119, 97, 114, 112], (1, 4, 2))]
def fmT (z : List UInt8) : Option (Int × Int × Int) := (tabS.find? (fun x => x.1 == z)).map (·.2)
def fmA (z : List UInt8) : Int := ((fmT z).getD (0, 0, 0)).1
def fmB (z : List UInt8) : Int := ((fmT z).getD (0, 0, 0)).2.1
def fmC (z : List UInt8) : Int := ((fmT z).getD (0, 0, 0)).2.2
def fmK (z : List UInt8) : Bool := (fmT z).isSome
theorem bytes_toList (s : ByteArray) : s.toList = s.data.toList := by
  exact ByteArray.toList_eq s

/-! ### the map of forms -/
def frmR : Value → Option (DataW Unit × List MemPlace)
  | .agg cs => match cs.toList with
    | [.int .i64 a, .int .i64 b, .int .i64 c] => some (.agg [.lit (.int .i64 a), .lit (.int .i64 b), .lit (.int .i64 c)], [])
    | _ => none
  | _ => none
theorem frmR_inv {v : Value} {a b c : Int} {ps : List MemPlace} (h : frmR v = some (.agg [.lit (.int .i64 a), .lit (.int .i64 b), .lit (.int .i64 c)], ps)) : v = .agg #[.int .i64 a, .int .i64 b, .int .i64 c] := by
  unfold frmR at h
  split at h
  · rename_i cs
    split at h
    · rename_i x y z e
      simp at h
      obtain ⟨⟨rfl, rfl, rfl⟩, _⟩ := h
      exact congrArg Value.agg (Array.toList_inj.1 (by rw [e]))
    · cases h
  · cases h
def dF (x : Int × Int × Int) : DataW Unit := .agg [.lit (.int .i64 x.1), .lit (.int .i64 x.2.1), .lit (.int .i64 x.2.2)]
/-- a map as its entries were put in, the last one ahead -/
def putsD : List (List UInt8 × (Int × Int × Int)) → DataW Unit
  | [] => .map []
  | x :: r => (putsD r).put (.string x.1) (dF x.2)
theorem key_str {z : List UInt8} : WideAt.IsKeyLit (.string z) := by simp [WideAt.IsKeyLit]
theorem putsD_map : ∀ l, IsMap (putsD l)
  | [] => isMap_empty
  | x :: r => (putsD_map r).put _ _
theorem putsD_at (z : List UInt8) (y : DataW Unit) : ∀ l, (putsD l).atKey (.string z) y = ((l.find? (fun x => x.1 == z)).map (fun x => dF x.2)).getD y
  | [] => rfl
  | x :: r => by
    unfold putsD
    rw [List.find?_cons]
    by_cases h : x.1 = z
    · rw [h, atKey_put_same (putsD_map r) key_str]
      simp
    · have h2 : (x.1 == z) = false := by simpa using h
      rw [atKey_put_other (by simpa using fun e => h e.symm), putsD_at z y r, h2]
theorem putsD_has (z : List UInt8) : ∀ l, Maps.has (putsD l) (.string z) = (l.find? (fun x => x.1 == z)).isSome
  | [] => rfl
  | x :: r => by
    unfold putsD
    rw [List.find?_cons]
    by_cases h : x.1 = z
    · rw [h, has_put_same (putsD_map r) key_str]
      simp
    · have h2 : (x.1 == z) = false := by simpa using h
      rw [has_put_other (by simpa using fun e => h e.symm), putsD_has z r, h2]
end Go.Proofs.YtimhpmccmafnpaaGreat

namespace Go.Proofs.YtimhpmccmafnpaaGreat
open Go.ChangeShapes Go.WideShapes Go.ChangeAt Go.RowKit
set_option linter.unusedVariables false
open Go.Maps

/-- what the block of a map that the call fills reads as, and that older blocks do not turn -/
def StM {H : Type} (P : Program) (k : TypeId) (R : Value → Option (DataW H × List MemPlace)) (b n : Nat) (D : DataW H) (W w : World) : Prop := w.ownsMap P k R b n D ∧ Below W.heap.size W w ∧ (W.heap.size < b ∧ w.heap[W.heap.size]? = some (.cells #[.int .i64 0, .int .i64 0, .int .i64 0] 38 (0, 0)))
/-- 'm[k] = v' where a map is laid out -/
theorem wpList_insert_st {H : Type} {P : Program} (w W : World) {ops : Array Oper} {rest : List Oper} {o : Oper} {a : Act} {Q : Exit → Act → World → Prop}
    (hg : o.guard = none) (m x v : Operand) (t : TypeId) (hop : o.op = Op.insert t m x v)
    (k e : TypeId) (K : Keyed P k) (ht : P.underlying t = some (.map k e)) (R : Value → Option (DataW H × List MemPlace)) (b n : Nat) (D : DataW H)
    (hm : a.eval m = .map (some b)) (hown : StM P k R b n D W w) (hB : W.heap.size ≤ b) (hn : n < maxLen) (key val : Value) (kl : Lit) (hx : a.eval x = key) (hv : a.eval v = val) (hkey : keyOf P k key = some kl)
    (d : DataW H) (ps : List MemPlace) (hval : R val = some (d, ps))
    (hK : ∀ w', StM P k R b (n + 1) (D.put kl d) W w' → wpList P ops Q rest (a.put o.dst undef) w') :
    wpList P ops Q (o :: rest) a w := by
  refine wpList_plain hg fun K' hK' => ?_
  obtain ⟨w', hrun, r1, r2⟩ := hown.1.update K ht hn hkey hval
  unfold Oper.wp
  simp [execOp, hop, hm, hx, hv, hrun, Result.andThen]
  have hlt : W.heap.size < w.heap.size := by
    rcases Nat.lt_or_ge W.heap.size w.heap.size with h | h
    · exact h
    · have := hown.2.2.2; rw [Array.getElem?_eq_none h] at this; cases this
  have hne : some W.heap.size ≠ some b := fun e => by have := hown.2.2.1; simp at e; omega
  exact hK' _ _ (hK w' ⟨r1, hown.2.1.grown r2 hown.2.1.size (fun k hk => by cases hk; exact hB), hown.2.2.1, (r2.block _ hlt hne).trans hown.2.2.2⟩)
theorem stm_new (w : World) : StM (H := Unit) Tryz.prog 9 frmR (w.heap.size + 1) 0 (.map []) w ((w.alloc (.cells #[.int .i64 0, .int .i64 0, .int .i64 0] 38)).alloc (.map #[] 0)) := by
  refine ⟨?_, (by repeat (first | with_reducible exact Below.refl _ _ | with_reducible apply Below.drew | with_reducible refine below_drewN ?_ _ | (with_reducible refine Below.setCell ?_ ?_ _; rotate_left; focus (first | omega | (simp <;> omega))) | (with_reducible refine Below.alloc ?_ ?_ _; rotate_left; focus (first | omega | (simp <;> omega))))), by omega, ?_⟩
  · have := World.ownsMap_made (H := Unit) (w.alloc (.cells #[.int .i64 0, .int .i64 0, .int .i64 0] 38)) Tryz.prog 9 frmR
    simpa using this
  · exact (Below.heap_alloc _ _ _ (by simp)).trans (heap_alloc_new w _)

theorem zeroForm (w : World) : (zeroValue 38).run Tryz.prog w = .ok (.agg #[.int .i64 0, .int .i64 0, .int .i64 0]) w := by kernel_rfl

/-- the map as it stands when all is laid out -/
theorem putsD_tab (z : List UInt8) : (∃ ps, frmR (.agg #[.int .i64 (fmA z), .int .i64 (fmB z), .int .i64 (fmC z)]) = some ((putsD tabS.reverse).atKey (.string z) (dF (0, 0, 0)), ps)) ∧ Maps.has (putsD tabS.reverse) (.string z) = fmK z := by
  rw [putsD_at, putsD_has]
  have hp : tabS.reverse.find? (fun x => x.1 == z) = tabS.find? (fun x => x.1 == z) := by
    by_cases h : z ∈ tabS.map (·.1)
    · unfold tabS at h
      simp only [List.map_cons, List.map_nil, List.mem_cons, List.not_mem_nil, or_false] at h
      rcases h with rfl | rfl | rfl | rfl | rfl | rfl | rfl | rfl | rfl | rfl | rfl | rfl | rfl | rfl | rfl | rfl | rfl | rfl | rfl | rfl | rfl | rfl | rfl | rfl | rfl | rfl | rfl | rfl <;> rfl
    · have e : ∀ l : List (List UInt8 × (Int × Int × Int)), (∀ x ∈ l, x.1 ≠ z) → l.find? (fun x => x.1 == z) = none := by
        intro l hl
        rw [List.find?_eq_none]
        intro x hx
        simpa using hl x hx
      have hn : ∀ x ∈ tabS, x.1 ≠ z := fun x hx e => h (e ▸ List.mem_map_of_mem hx)
      exact (e (tabS.reverse) (fun x hx => hn x (List.mem_reverse.1 hx))).trans (e _ hn).symm
  rw [hp]
  unfold fmA fmB fmC fmK fmT
  cases tabS.find? (fun x => x.1 == z) with
  | none => exact ⟨⟨[], rfl⟩, rfl⟩
  | some x => exact ⟨⟨[], rfl⟩, rfl⟩
theorem wpList_lookup_st (w W : World) (s : ByteArray) (hs : s.size ≤ maxLen) {ops : Array Oper} {rest : List Oper} {o : Oper} {a : Act} {Q : Exit → Act → World → Prop}
    (hg : o.guard = none) (m x : Operand) (hop : o.op = Op.lookup 72 m x true) (b : Nat) (hm : a.eval m = .map (some b)) (hx : a.eval x = .string s)
    (h : StM Tryz.prog 9 frmR b 28 (putsD tabS.reverse) W w)
    (hK : wpList Tryz.prog ops Q rest (a.put o.dst (.tuple #[.agg #[.int .i64 (fmA s.toList), .int .i64 (fmB s.toList), .int .i64 (fmC s.toList)], .bool (fmK s.toList)])) w) :
    wpList Tryz.prog ops Q (o :: rest) a w := by
  refine wpList_lookup_own_ok w hg m x 72 hop 9 38 (string_keyed Tryz.underlying9) Tryz.underlying72 frmR (zeroForm w) (dF (0, 0, 0)) [] rfl b 28 _ hm h.1 (.string s) _ hx (WideMaps.keyOf_string_mk Tryz.underlying9 hs) ?_
  intro v ps hv
  rw [← bytes_toList] at hv ⊢
  obtain ⟨⟨qs, h1⟩, h2⟩ := putsD_tab s.toList
  rw [h2]
  have e : v = .agg #[.int .i64 (fmA s.toList), .int .i64 (fmB s.toList), .int .i64 (fmC s.toList)] := by
    have h3 : (putsD tabS.reverse).atKey (.string s.toList) (dF (0, 0, 0)) = .agg [.lit (.int .i64 (fmA s.toList)), .lit (.int .i64 (fmB s.toList)), .lit (.int .i64 (fmC s.toList))] := by
      have h4 : frmR (.agg #[.int .i64 (fmA s.toList), .int .i64 (fmB s.toList), .int .i64 (fmC s.toList)]) = some (.agg [.lit (.int .i64 (fmA s.toList)), .lit (.int .i64 (fmB s.toList)), .lit (.int .i64 (fmC s.toList))], []) := rfl
      rw [h4] at h1
      exact (congrArg Prod.fst (Option.some.inj h1)).symm
    rw [h3] at hv
    exact frmR_inv hv
  rw [e]
  exact hK

set_option maxRecDepth 100000 in
set_option maxHeartbeats 1000000 in
theorem formOf_any (s : ByteArray) (hs : s.size ≤ maxLen) (w : World) :
    Calls Tryz.prog 14 #[.string s] w fun e w' => e = .returned (.tuple #[.agg #[.int .i64 (fmA s.toList), .int .i64 (fmB s.toList), .int .i64 (fmC s.toList)], .bool (fmK s.toList)]) ∧ Below w.heap.size w w' := by
  have hmm := @run_makeMap Tryz.prog
  go_enter Tryz.func14, Tryz.ntmps14
  have h0 := stm_new w
  go_upto_region 1 with fail
  go_step
  simp only [List.append_eq, List.cons_append, List.nil_append]
  go_upto_region 2 with (first
    | (refine wpList_insert_st _ w rfl _ _ _ 72 rfl 9 38 (string_keyed Tryz.underlying9) Tryz.underlying72 frmR (w.heap.size + 1) _ _ rfl (by assumption) (by omega) (by unfold maxLen; omega) _ _ _ rfl rfl (WideMaps.keyOf_string_mk Tryz.underlying9 (by decide)) _ [] rfl ?_; intro w1 h1)
    | (refine wpList_lookup_st _ w s hs rfl _ _ rfl _ rfl rfl (by assumption) ?_))
  obtain ⟨_, hb, _, hk⟩ := h1
  have d0 : w1.cell? ⟨w.heap.size, 0, none⟩ = some (.int .i64 0) := cell_of_row w1 _ 0 _ _ _ hk
  have d1 : w1.cell? ⟨w.heap.size, 1, none⟩ = some (.int .i64 0) := cell_of_row w1 _ 1 _ _ _ hk
  have d2 : w1.cell? ⟨w.heap.size, 2, none⟩ = some (.int .i64 0) := cell_of_row w1 _ 2 _ _ _ hk
  have q0 : w1.frozen? ⟨w.heap.size, 0, none⟩ = false := frozen_of_row w1 _ 0 _ _ hk
  have q1 : w1.frozen? ⟨w.heap.size, 1, none⟩ = false := frozen_of_row w1 _ 1 _ _ hk
  have q2 : w1.frozen? ⟨w.heap.size, 2, none⟩ = false := frozen_of_row w1 _ 2 _ _ hk
  have hlt : w.heap.size < w1.heap.size := by
    rcases Nat.lt_or_ge w.heap.size w1.heap.size with h | h
    · exact h
    · rw [Array.getElem?_eq_none h] at hk; cases hk
  have HB := Lib.hid hb
  clear hb hk hs hmm
  go_wp2_with fail
  have hb := HB.out
  exact bodyPost_ret (v := .tuple #[.agg #[.int .i64 (fmA s.toList), .int .i64 (fmB s.toList), .int .i64 (fmC s.toList)], .bool (fmK s.toList)]) (by simp [results, Tryz.results14, go_sem, *]) rfl ⟨rfl, (by have hszz := hb.size; repeat (first | with_reducible exact hb | with_reducible apply Below.drew | with_reducible refine below_drewN ?_ _ | (with_reducible refine Below.setCell ?_ ?_ _; rotate_left; focus (first | omega | (simp <;> omega))) | (with_reducible refine Below.alloc ?_ ?_ _; rotate_left; focus (first | omega | (simp <;> omega)))))⟩
end Go.Proofs.YtimhpmccmafnpaaGreat

namespace Go.Proofs.YtimhpmccmafnpaaGreat
open Go.ChangeShapes Go.WideShapes Go.ChangeAt Go.RowKit
set_option linter.unusedVariables false

/-! ### a node -/
def ndC (s : ByteArray) (ia : Option Addr) (nin cin : Nat) (la : Option Addr) (nI cI : Nat) (ra : Option Addr) (nR cR : Nat) : Array Value := #[.string s, .slice ia nin cin, .slice la nI cI, .slice ra nR cR]
abbrev ndV (s : ByteArray) (ia : Option Addr) (nin cin : Nat) (la : Option Addr) (nI cI : Nat) (ra : Option Addr) (nR cR : Nat) : Value := .agg #[.string s, .slice ia nin cin, .slice la nI cI, .slice ra nR cR]
/-- a slice of whole numbers -/
def ZRow (w : World) (a : Option Addr) (m : List Int) : Prop := m.length ≤ 1099511627776 ∧ (m = [] ∨ ∃ b o, a = some ⟨b, o, none⟩ ∧ ∀ i, i < m.length → w.cell? ⟨b, o + i, none⟩ = some (.int .i64 (m.getD i 0)))
theorem ZRow.below {w w' : World} {a : Option Addr} {m : List Int} (h : ZRow w a m) (hb : Below w.heap.size w w') : ZRow w' a m := by
  obtain ⟨h1, h2⟩ := h
  refine ⟨h1, ?_⟩
  rcases h2 with h2 | ⟨b, o, e, hc⟩
  · exact .inl h2
  · refine .inr ⟨b, o, e, fun i hi => ?_⟩
    rw [hb.cell (World.block_lt_of_cell? w _ (hc i hi))]
    exact hc i hi
theorem ZRow.at_ {w : World} {b o : Nat} {m : List Int} (h : ZRow w (some ⟨b, o, none⟩) m) (i : Nat) (hi : i < m.length) : w.cell? ⟨b, o + i, none⟩ = some (.int .i64 (m.getD i 0)) := by
  rcases h.2 with h | ⟨b', o', e, hc⟩
  · subst h; simp at hi
  · cases e; exact hc i hi
theorem ZRow.lt {w : World} {b o : Nat} {m : List Int} (h : ZRow w (some ⟨b, o, none⟩) m) (hi : 0 < m.length) : b < w.heap.size := World.block_lt_of_cell? w _ (h.at_ 0 hi)
theorem ZRow.some {w : World} {a : Option Addr} {x : Int} {m : List Int} (h : ZRow w a (x :: m)) : ∃ b o, a = some ⟨b, o, none⟩ := by
  rcases h.2 with h | ⟨b, o, e, _⟩
  · cases h
  · exact ⟨b, o, e⟩

abbrev kwKernel : List UInt8 := [107, 101, 114, 110, 101, 108]
def sideB (k : Int) : Bool := decide (1 ≤ k) && decide (k ≤ 15) && (k % 2 == 1)
def fmE (z : List UInt8) (ni nI nR : Nat) (k : Int) : Int :=
  if fmK z = false then 1 else if (ni : Int) ≠ fmA z then 2 else if (nI : Int) ≠ fmB z then 2 else
  if (z == kwKernel) = true then (if sideB k = false then 3 else if (nR : Int) ≠ k * k then 2 else 0) else if (nR : Int) ≠ fmC z then 2 else 0

theorem side_any (k : Int) (w : World) : Calls Tryz.prog 15 #[.int .i64 k] w fun e w' => e = .returned (.bool (sideB k)) ∧ w = w' := by
  go_enter Tryz.func15, Tryz.ntmps15
  go_wp2
  all_goals go_ret
  all_goals refine ⟨congrArg (fun b => Ending.returned (.bool b)) ?_, rfl⟩
  all_goals unfold sideB
  all_goals (rw [Bool.eq_iff_iff]; simp; try omega)
theorem refside_any (k : Int) (w : World) : Calls Tryz.prog 48 #[.int .i64 k] w fun e w' => e = .returned (.bool (sideB k)) ∧ w = w' := by
  go_enter Tryz.func48, Tryz.ntmps48
  go_wp2
  all_goals go_ret
  all_goals refine ⟨congrArg (fun b => Ending.returned (.bool b)) ?_, rfl⟩
  all_goals unfold sideB
  all_goals (rw [Bool.eq_iff_iff]; simp)
  all_goals rcases Int.lt_or_le k 0 with hk | hk
  all_goals (first | omega | (rw [Int.tmod_eq_emod_of_nonneg hk] at *; omega))
end Go.Proofs.YtimhpmccmafnpaaGreat

namespace Go.Proofs.YtimhpmccmafnpaaGreat
open Go.ChangeShapes Go.WideShapes Go.ChangeAt Go.RowKit
set_option linter.unusedVariables false

theorem fmT_all (z : List UInt8) : (∃ x ∈ tabS, z = x.1 ∧ fmT z = some x.2) ∨ (fmT z = none ∧ ∀ x ∈ tabS, (z == x.1) = false) := by
  unfold fmT
  cases h : tabS.find? (fun x => x.1 == z) with
  | some x =>
    have h1 := List.find?_some h
    have h2 := List.mem_of_find?_eq_some h
    exact .inl ⟨x, h2, by simpa using (by simpa using h1 : x.1 = z).symm, rfl⟩
  | none =>
    rw [List.find?_eq_none] at h
    exact .inr ⟨rfl, fun x hx => by have := h x hx; simp at this ⊢; exact fun e => this e.symm⟩
theorem fm_of {z : List UInt8} {x : Int × Int × Int} (e : fmT z = some x) : fmA z = x.1 ∧ fmB z = x.2.1 ∧ fmC z = x.2.2 ∧ fmK z = true := by
  unfold fmA fmB fmC fmK
  rw [e]
  exact ⟨rfl, rfl, rfl, rfl⟩
theorem fm_none {z : List UInt8} (e : fmT z = none) : fmA z = 0 ∧ fmB z = 0 ∧ fmC z = 0 ∧ fmK z = false := by
  unfold fmA fmB fmC fmK
  rw [e]
  exact ⟨rfl, rfl, rfl, rfl⟩
set_option maxRecDepth 100000 in
set_option maxHeartbeats 2000000 in
theorem refform_any (s : ByteArray) (w : World) :
    Calls Tryz.prog 47 #[.string s] w fun e w' => e = .returned (.tuple #[.int .i64 (fmA s.toList), .int .i64 (fmB s.toList), .int .i64 (fmC s.toList), .bool (fmK s.toList)]) ∧ w = w' := by
  rcases fmT_all s.toList with ⟨x, hx, hz, e⟩ | ⟨e, hn⟩
  · obtain ⟨e1, e2, e3, e4⟩ := fm_of e
    rw [e1, e2, e3, e4]
    clear e1 e2 e3 e4 e
    simp only [tabS, List.mem_cons, List.not_mem_nil, or_false] at hx
    rcases hx with rfl | rfl | rfl | rfl | rfl | rfl | rfl | rfl | rfl | rfl | rfl | rfl | rfl | rfl | rfl | rfl | rfl | rfl | rfl | rfl | rfl | rfl | rfl | rfl | rfl | rfl | rfl | rfl
    all_goals dsimp only at hz ⊢
    all_goals
      go_enter Tryz.func47, Tryz.ntmps47
      go_wp2
    all_goals exact bodyPost_ret (by simp [results, Tryz.results47, go_sem, *]) rfl ⟨rfl, rfl⟩
  · obtain ⟨e1, e2, e3, e4⟩ := fm_none e
    rw [e1, e2, e3, e4]
    clear e1 e2 e3 e4 e
    simp only [tabS, List.forall_mem_cons, List.not_mem_nil, false_implies, implies_true, and_true] at hn
    obtain ⟨h1, h2, h3, h4, h5, h6, h7, h8, h9, h10, h11, h12, h13, h14, h15, h16, h17, h18, h19, h20, h21, h22, h23, h24, h25, h26, h27, h28⟩ := hn
    go_enter Tryz.func47, Tryz.ntmps47
    go_wp2
    exact bodyPost_ret (by simp [results, Tryz.results47, go_sem, *]) rfl ⟨rfl, rfl⟩
end Go.Proofs.YtimhpmccmafnpaaGreat
