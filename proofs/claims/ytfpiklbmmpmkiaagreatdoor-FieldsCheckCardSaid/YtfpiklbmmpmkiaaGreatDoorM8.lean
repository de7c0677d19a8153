import Derived.Test.YtfpiklbmmpmkiaaGreatDoorM6
import Derived.Test.YtfpiklbmmpmkiaaGreatDoorM1
import Derived.Test.YtfpiklbmmpmkiaaGreatDoorM5
import Derived.Test.YtfpiklbmmpmkiaaGreatDoorM3
import Derived.Deep.RegionHeld3
import Derived.BigQuiet
namespace Go.Proofs.YtfpiklbmmpmkiaaGreatDoor
open Go.Shelf
open Go.ChangeShapes Go.WideShapes Go.ChangeAt Go.RowKit
open Ieee.Format (fin finE htE allFin allHt all_true all_false mulF subF addF Ht Bd)
set_option linter.unusedVariables false

theorem tdiv_floor (a b : Int) (hb : 0 < b) : (a.tmod b < 0 → a.tdiv b - 1 = a / b ∧ a.tmod b + b = a % b) ∧ (¬ a.tmod b < 0 → a.tdiv b = a / b ∧ a.tmod b = a % b) := by
  have h1 := Int.mul_tdiv_add_tmod a b
  have h2 := Int.tmod_lt_of_pos a hb
  have h3 := Int.lt_tmod_of_pos a hb
  constructor
  · intro h
    have := (Int.ediv_emod_unique (a := a) (b := b) (r := a.tmod b + b) (q := a.tdiv b - 1) hb).2 ⟨by rw [Int.mul_sub, Int.mul_one]; omega, by omega, by omega⟩
    exact ⟨this.1.symm, this.2.symm⟩
  · intro h
    have := (Int.ediv_emod_unique (a := a) (b := b) (r := a.tmod b) (q := a.tdiv b) hb).2 ⟨by omega, by omega, h2⟩
    exact ⟨this.1.symm, this.2.symm⟩
theorem ediv_small (a b c : Int) (hb : 0 < b) (h1 : -c ≤ a) (h2 : a ≤ c) (hc : 0 ≤ c) : -c ≤ a / b ∧ a / b ≤ c := by
  have e := Int.mul_ediv_add_emod a b
  have m0 := Int.emod_nonneg a (show b ≠ 0 by omega)
  have m1 := Int.emod_lt_of_pos a hb
  constructor
  · refine (Int.le_ediv_iff_mul_le hb).2 ?_
    have := Int.mul_le_mul_of_nonneg_left (show 1 ≤ b by omega) hc
    rw [Int.neg_mul]; omega
  · by_cases h : a / b ≤ c
    · exact h
    · exfalso
      have := Int.mul_le_mul_of_nonneg_left (show c + 1 ≤ a / b by omega) (show 0 ≤ b by omega)
      have h3 := Int.mul_le_mul_of_nonneg_right (show 1 ≤ b by omega) (show 0 ≤ c + 1 by omega)
      omega

end Go.Proofs.YtfpiklbmmpmkiaaGreatDoor

namespace Go.Proofs.YtfpiklbmmpmkiaaGreatDoor
open Go.Shelf
open Go.ChangeShapes Go.WideShapes Go.ChangeAt Go.RowKit
open Ieee.Format (fin finE htE allFin allHt all_true all_false mulF subF addF Ht Bd mixF mix_bd shareF share_facts)
set_option linter.unusedVariables false

/-- a place is in a region -/
def inR (X Y W H x y : Int) : Prop := X ≤ x ∧ x < X + W ∧ Y ≤ y ∧ y < Y + H
instance (X Y W H x y : Int) : Decidable (inR X Y W H x y) := inferInstanceAs (Decidable (_ ∧ _ ∧ _ ∧ _))

theorem place_in (X Y : Int) (Wn Hn : Nat) (x y : Int) (k : Nat) (w : World) (hw : 1 ≤ Wn) (hw2 : Wn ≤ 512) (hh : 1 ≤ Hn) (hh2 : Hn ≤ 512) (hx0 : -8388608 ≤ X) (hx1 : X ≤ 8388608) (hy0 : -8388608 ≤ Y) (hy1 : Y ≤ 8388608) (h : inR X Y Wn Hn x y) (hk : cellNo X Y Wn x y = (k : Int)) :
    Calls Tryz.prog 20 #[reg X Y Wn Hn, .int .i64 x, .int .i64 y] w fun e w' => e = .returned (.tuple #[.int .i64 (k : Int), .bool true]) ∧ Below w.heap.size w w' := by
  obtain ⟨a1, a2, a3, a4⟩ := h
  obtain ⟨m0, m1, m2, m3⟩ := cellNo_in (show (1 : Int) ≤ Wn by omega) (by omega) (show (1 : Int) ≤ Hn by omega) (by omega) a1 a2 a3 a4
  have e : (y - Y) * Wn + x - X = (k : Int) := hk
  have kb : (k : Int) ≤ 1048576 := by omega
  clear hk m2 m3
  generalize hM : (y - Y) * (Wn : Int) = M at *
  go_enter Tryz.func20, Tryz.ntmps20
  go_wp2
  refine bodyPost_ret (v := .tuple #[.int .i64 (k : Int), .bool true]) (by simp [results, Tryz.results20, go_sem, *]) rfl ⟨rfl, (by repeat (first | with_reducible exact Below.refl _ _ | with_reducible apply Below.drew | with_reducible refine below_drewN ?_ _ | (with_reducible refine Below.setCell ?_ ?_ _; rotate_left; focus (first | omega | (simp <;> omega))) | (with_reducible refine Below.alloc ?_ ?_ _; rotate_left; focus (first | omega | (simp <;> omega)))))⟩
theorem place_out (X Y : Int) (Wn Hn : Nat) (x y : Int) (w : World) (hw : 1 ≤ Wn) (hw2 : Wn ≤ 512) (hh : 1 ≤ Hn) (hh2 : Hn ≤ 512) (hx0 : -8388608 ≤ X) (hx1 : X ≤ 8388608) (hy0 : -8388608 ≤ Y) (hy1 : Y ≤ 8388608) (h : ¬ inR X Y Wn Hn x y) :
    Calls Tryz.prog 20 #[reg X Y Wn Hn, .int .i64 x, .int .i64 y] w fun e w' => e = .returned (.tuple #[.int .i64 0, .bool false]) ∧ Below w.heap.size w w' := by
  unfold inR at h
  have HH := Lib.hid h
  clear h
  by_cases h1 : x < X
  · go_enter Tryz.func20, Tryz.ntmps20
    go_wp2
    exact bodyPost_ret (v := .tuple #[.int .i64 0, .bool false]) (by simp [results, Tryz.results20, go_sem, *]) rfl ⟨rfl, (by repeat (first | with_reducible exact Below.refl _ _ | with_reducible apply Below.drew | with_reducible refine below_drewN ?_ _ | (with_reducible refine Below.setCell ?_ ?_ _; rotate_left; focus (first | omega | (simp <;> omega))) | (with_reducible refine Below.alloc ?_ ?_ _; rotate_left; focus (first | omega | (simp <;> omega)))))⟩
  · by_cases h2 : y < Y
    · go_enter Tryz.func20, Tryz.ntmps20
      go_wp2
      exact bodyPost_ret (v := .tuple #[.int .i64 0, .bool false]) (by simp [results, Tryz.results20, go_sem, *]) rfl ⟨rfl, (by repeat (first | with_reducible exact Below.refl _ _ | with_reducible apply Below.drew | with_reducible refine below_drewN ?_ _ | (with_reducible refine Below.setCell ?_ ?_ _; rotate_left; focus (first | omega | (simp <;> omega))) | (with_reducible refine Below.alloc ?_ ?_ _; rotate_left; focus (first | omega | (simp <;> omega)))))⟩
    · by_cases h3 : X + Wn ≤ x
      · go_enter Tryz.func20, Tryz.ntmps20
        go_wp2
        exact bodyPost_ret (v := .tuple #[.int .i64 0, .bool false]) (by simp [results, Tryz.results20, go_sem, *]) rfl ⟨rfl, (by repeat (first | with_reducible exact Below.refl _ _ | with_reducible apply Below.drew | with_reducible refine below_drewN ?_ _ | (with_reducible refine Below.setCell ?_ ?_ _; rotate_left; focus (first | omega | (simp <;> omega))) | (with_reducible refine Below.alloc ?_ ?_ _; rotate_left; focus (first | omega | (simp <;> omega)))))⟩
      · have h4 : Y + Hn ≤ y := by have := HH.out; omega
        go_enter Tryz.func20, Tryz.ntmps20
        go_wp2
        exact bodyPost_ret (v := .tuple #[.int .i64 0, .bool false]) (by simp [results, Tryz.results20, go_sem, *]) rfl ⟨rfl, (by repeat (first | with_reducible exact Below.refl _ _ | with_reducible apply Below.drew | with_reducible refine below_drewN ?_ _ | (with_reducible refine Below.setCell ?_ ?_ _; rotate_left; focus (first | omega | (simp <;> omega))) | (with_reducible refine Below.alloc ?_ ?_ _; rotate_left; focus (first | omega | (simp <;> omega)))))⟩

end Go.Proofs.YtfpiklbmmpmkiaaGreatDoor

namespace Go.Proofs.YtfpiklbmmpmkiaaGreatDoor
open Go.Shelf
open Go.ChangeShapes Go.WideShapes Go.ChangeAt Go.RowKit
open Ieee.Format (fin finE htE allFin allHt all_true all_false mulF subF addF Ht Bd mixF mix_bd shareF share_facts)
set_option linter.unusedVariables false

/-- a single is zero -/
def zf (s : Nat) : Bool := Go.FloatKind.f32.format.order s 0 == some .eq
/-- the value between two cells of a row -/
def rowV (X Y : Int) (Wn Hn : Nat) (l : List Nat) (i y : Int) (s : Nat) : Option Nat :=
  if inR X Y Wn Hn i y then
    if zf s = true then some (l.getD (cellNo X Y Wn i y).toNat 0)
    else if inR X Y Wn Hn (i + 1) y then some (mixF (l.getD (cellNo X Y Wn i y).toNat 0) (l.getD (cellNo X Y Wn (i + 1) y).toNat 0) s) else none
  else none
theorem rowV_bd {X Y : Int} {Wn Hn : Nat} {l : List Nat} {i y : Int} {s v : Nat} (hl : ∀ j, Bd 20 (l.getD j 0)) (hs : Bd 0 s) (h : rowV X Y Wn Hn l i y s = some v) : Bd 22 v := by
  unfold rowV at h
  split at h
  · split at h
    · cases h; exact (hl _).mono (by omega)
    · split at h
      · cases h; exact (mix_bd (hl _) (hl _) hs (by omega)).2.2
      · cases h
  · cases h
theorem cell_in {X Y : Int} {Wn Hn : Nat} {i y : Int} (h1 : 1 ≤ Wn) (h2 : Wn ≤ 512) (h3 : 1 ≤ Hn) (h4 : Hn ≤ 512) (h : inR X Y Wn Hn i y) : cellNo X Y Wn i y = ((cellNo X Y Wn i y).toNat : Int) ∧ (cellNo X Y Wn i y).toNat < Hn * Wn := by
  obtain ⟨a1, a2, a3, a4⟩ := h
  obtain ⟨m0, m1, m2, m3⟩ := cellNo_in (show (1 : Int) ≤ Wn by omega) (by omega) (show (1 : Int) ≤ Hn by omega) (by omega) a1 a2 a3 a4
  refine ⟨by omega, ?_⟩
  have e : ((Hn * Wn : Nat) : Int) = (Wn : Int) * Hn := by rw [Int.natCast_mul, Int.mul_comm]
  omega

end Go.Proofs.YtfpiklbmmpmkiaaGreatDoor

namespace Go.Proofs.YtfpiklbmmpmkiaaGreatDoor
open Go.Shelf
open Go.ChangeShapes Go.WideShapes Go.ChangeAt Go.RowKit
open Ieee.Format (fin finE htE allFin allHt all_true all_false mulF subF addF Ht Bd mixF mix_bd shareF share_facts)
set_option linter.unusedVariables false

/-- the value between four cells -/
def bilV (X Y : Int) (Wn Hn : Nat) (l : List Nat) (i j : Int) (s t : Nat) : Option Nat :=
  match rowV X Y Wn Hn l i j s with
  | none => none
  | some p => if zf t = true then some p else match rowV X Y Wn Hn l i (j + 1) s with
    | none => none
    | some q => some (mixF p q t)
theorem bilV_bd {X Y : Int} {Wn Hn : Nat} {l : List Nat} {i j : Int} {s t v : Nat} (hl : ∀ j, Bd 20 (l.getD j 0)) (hs : Bd 0 s) (ht : Bd 0 t) (h : bilV X Y Wn Hn l i j s t = some v) : Bd 24 v := by
  unfold bilV at h
  split at h
  · cases h
  · rename_i p hp
    split at h
    · cases h; exact (rowV_bd hl hs hp).mono (by omega)
    · split at h
      · cases h
      · rename_i q hq
        cases h
        exact (mix_bd (rowV_bd hl hs hp) (rowV_bd hl hs hq) ht (by omega)).2.2

theorem bil_world (w : World) (X Y W H : Int) (v : Value) (i : Int) (s : Nat) : ∀ W0, W0 = ((w.alloc (.cells #[.int .i64 X, .int .i64 Y, .int .i64 W, .int .i64 H, v] /-T-/26)).alloc (.cells #[.int .i64 i] /-T-/3)).alloc (.cells #[.float .f32 s] /-T-/30) →
    Fld W0 w.heap.size X Y W H v ∧ W0.cell? ⟨w.heap.size + 1, 0, none⟩ = some (.int .i64 i) ∧ W0.cell? ⟨w.heap.size + 1 + 1, 0, none⟩ = some (.float .f32 s) ∧ Below w.heap.size w W0 ∧ W0.heap.size = w.heap.size + 3 := by
  rintro _ rfl
  exact ⟨((Fld.new w X Y W H v).alloc _).alloc _, by simp [go_sem], by simp [go_sem], (by repeat (first | with_reducible exact Below.refl _ _ | with_reducible apply Below.drew | with_reducible refine below_drewN ?_ _ | (with_reducible refine Below.setCell ?_ ?_ _; rotate_left; focus (first | omega | (simp <;> omega))) | (with_reducible refine Below.alloc ?_ ?_ _; rotate_left; focus (first | omega | (simp <;> omega))))), by simp⟩

end Go.Proofs.YtfpiklbmmpmkiaaGreatDoor

namespace Go.Proofs.YtfpiklbmmpmkiaaGreatDoor
open Go.Shelf
open Go.ChangeShapes Go.WideShapes Go.ChangeAt Go.RowKit
open Ieee.Format (fin finE htE allFin allHt all_true all_false mulF subF addF Ht Bd mixF mix_bd shareF share_facts)
set_option linter.unusedVariables false

end Go.Proofs.YtfpiklbmmpmkiaaGreatDoor

namespace Go.Proofs.YtfpiklbmmpmkiaaGreatDoor
open Go.Shelf
open Go.ChangeShapes Go.WideShapes Go.ChangeAt Go.RowKit
open Ieee.Format (fin finE htE allFin allHt all_true all_false mulF subF addF Ht Bd mixF mix_bd shareF share_facts)
set_option linter.unusedVariables false

/-- the error of a value that may not be there -/
def bilC : Option Nat → Int
  | none => 5
  | some v => outE [v]
theorem rowV_lt {X Y : Int} {Wn Hn : Nat} {l : List Nat} {i y : Int} {s v : Nat} (hl : ∀ x ∈ l, x < 4294967296) (h : rowV X Y Wn Hn l i y s = some v) : v < 4294967296 := by
  unfold rowV at h
  split at h
  · split at h
    · cases h
      rcases Nat.lt_or_ge (cellNo X Y Wn i y).toNat l.length with hlt | hge
      · rw [List.getD_eq_getElem?_getD, List.getElem?_eq_getElem hlt]; exact hl _ (List.getElem_mem hlt)
      · rw [List.getD_eq_getElem?_getD, List.getElem?_eq_none hge]; show (0 : Nat) < 4294967296; decide
    · split at h
      · cases h; exact Ieee.Format.mixF_lt _ _ _
      · cases h
  · cases h

end Go.Proofs.YtfpiklbmmpmkiaaGreatDoor
