import Derived.Test.YtfmbekdfigbfiaaM6
import Derived.Test.YtfmbekdfigbfiaaM1
import Derived.Test.YtfmbekdfigbfiaaM5
import Derived.Test.YtfmbekdfigbfiaaM3
import Derived.Deep.RegionHeld3
import Derived.BigQuiet
namespace Go.Proofs.Ytfmbekdfigbfiaa
open Go.Shelf
open Go.ChangeShapes Go.WideShapes Go.ChangeAt Go.RowKit
open Ieee.Format (fin finE htE allFin allHt all_true all_false mulF subF addF Ht Bd)
set_option linter.unusedVariables false

theorem tdiv_floor (a b : Int) (hb : 0 < b) : (a.tmod b < 0 → a.tdiv b - 1 = a / b ∧ a.tmod b + b = a % b) ∧ (¬ a.tmod b < 0 → a.tdiv b = a / b ∧ a.tmod b = a % b) := by
  have h1 := Int.mul_tdiv_add_tmod a b
  have h2 := Int.tmod_lt_of_pos a hb
  have h3 := Int.lt_tmod_of_pos a hb
  constructor
  · intro h
    have := (Int.ediv_emod_unique (a := a) (b := b) (r := a.tmod b + b) (q := a.tdiv b - 1) hb).2 ⟨by rw [Int.mul_sub, Int.mul_one]; omega, by omega, by omega⟩
    exact ⟨this.1.symm, this.2.symm⟩
  · intro h
    have := (Int.ediv_emod_unique (a := a) (b := b) (r := a.tmod b) (q := a.tdiv b) hb).2 ⟨by omega, by omega, h2⟩
    exact ⟨this.1.symm, this.2.symm⟩
theorem ediv_small (a b c : Int) (hb : 0 < b) (h1 : -c ≤ a) (h2 : a ≤ c) (hc : 0 ≤ c) : -c ≤ a / b ∧ a / b ≤ c := by
  have e := Int.mul_ediv_add_emod a b
  have m0 := Int.emod_nonneg a (show b ≠ 0 by omega)
  have m1 := Int.emod_lt_of_pos a hb
  constructor
  · refine (Int.le_ediv_iff_mul_le hb).2 ?_
    have := Int.mul_le_mul_of_nonneg_left (show 1 ≤ b by omega) hc
    rw [Int.neg_mul]; omega
  · by_cases h : a / b ≤ c
    · exact h
    · exfalso
      have := Int.mul_le_mul_of_nonneg_left (show c + 1 ≤ a / b by omega) (show 0 ≤ b by omega)
      have h3 := Int.mul_le_mul_of_nonneg_right (show 1 ≤ b by omega) (show 0 ≤ c + 1 by omega)
      omega

theorem quotient_any (n num den : Int) (w : World) (hb : 0 < den) (hb2 : den ≤ 64) (hn : 0 < num) (hn2 : num ≤ 64) (ha : -16777216 ≤ n) (ha2 : n ≤ 16777216) :
    Calls Try.prog 123 #[.int .i64 n, .int .i64 num, .int .i64 den] w fun e w' => e = .returned (.tuple #[.int .i64 (n * num / den), .int .i64 (n * num % den)]) ∧ Below w.heap.size w w' := by
  have p1 := Int.mul_le_mul_of_nonneg_right ha2 (show 0 ≤ num by omega)
  have p2 := Int.mul_le_mul_of_nonneg_right ha (show 0 ≤ num by omega)
  generalize hp : n * num = p at *
  have p3 : -1073741824 ≤ p := by omega
  have p4 : p ≤ 1073741824 := by omega
  clear p1 p2
  obtain ⟨f1, f2⟩ := tdiv_floor p den hb
  have h1 := Int.mul_ediv_add_emod p den
  have h2 := Int.tmod_lt_of_pos p hb
  have h3 := Int.lt_tmod_of_pos p hb
  have h4 := Int.natAbs_tdiv_le_natAbs p den
  have n0 : den ≠ 0 := by omega
  obtain ⟨s1, s2⟩ := ediv_small p den 1073741824 hb p3 p4 (by omega)
  have m1 := Int.emod_nonneg p n0
  have m2 := Int.emod_lt_of_pos p hb
  have g1 : -1073741824 ≤ p.tdiv den := by omega
  have g2 : p.tdiv den ≤ 1073741824 := by omega
  have h1' : p - p / den * den = p % den := by rw [Int.mul_comm (p / den)]; omega
  have E3 := Lib.hid h1'
  have HF1 := Lib.hid f1
  have HF2 := Lib.hid f2
  have p5 : -1073741888 ≤ p / den * den := by omega
  have p6 : p / den * den ≤ 1073741824 := by omega
  clear f1 f2 h4 h1 h1'
  generalize hq : p.tdiv den = q at *
  generalize hm : p.tmod den = m at *
  by_cases h : m < 0
  · obtain ⟨e1, e2⟩ := HF1.out h
    rw [← E3.out, ← e1]
    rw [← e1] at p5 p6
    clear e2 HF1 HF2 e1 E3 s1 s2
    generalize hr : (q - 1) * den = r at *
    go_enter Try.func123, Try.ntmps123
    go_wp2_with fail
    refine bodyPost_ret (v := .tuple #[.int .i64 (q - 1), .int .i64 (p - r)]) (by simp [results, Try.results123, go_sem]) rfl ⟨rfl, (by repeat (first | with_reducible exact Below.refl _ _ | with_reducible apply Below.drew | with_reducible refine below_drewN ?_ _ | (with_reducible refine Below.setCell ?_ ?_ _; rotate_left; focus (first | omega | (simp <;> omega))) | (with_reducible refine Below.alloc ?_ ?_ _; rotate_left; focus (first | omega | (simp <;> omega)))))⟩
  · obtain ⟨e1, e2⟩ := HF2.out h
    rw [← E3.out, ← e1]
    rw [← e1] at p5 p6
    clear e2 HF1 HF2 e1 E3 s1 s2
    generalize hr : q * den = r at *
    go_enter Try.func123, Try.ntmps123
    go_wp2_with fail
    refine bodyPost_ret (v := .tuple #[.int .i64 q, .int .i64 (p - r)]) (by simp [results, Try.results123, go_sem]) rfl ⟨rfl, (by repeat (first | with_reducible exact Below.refl _ _ | with_reducible apply Below.drew | with_reducible refine below_drewN ?_ _ | (with_reducible refine Below.setCell ?_ ?_ _; rotate_left; focus (first | omega | (simp <;> omega))) | (with_reducible refine Below.alloc ?_ ?_ _; rotate_left; focus (first | omega | (simp <;> omega)))))⟩
end Go.Proofs.Ytfmbekdfigbfiaa

namespace Go.Proofs.Ytfmbekdfigbfiaa
open Go.Shelf
open Go.ChangeShapes Go.WideShapes Go.ChangeAt Go.RowKit
open Ieee.Format (fin finE htE allFin allHt all_true all_false mulF subF addF Ht Bd mixF mix_bd shareF share_facts)
set_option linter.unusedVariables false

theorem mix_any (k a b s : Nat) (w : World) (ha : Bd k a) (hb : Bd k b) (hs : Bd 0 s) (hk : k ≤ 80) :
    Calls Try.prog 196 #[.float .f32 a, .float .f32 b, .float .f32 s] w fun e w' => e = .returned (.float .f32 (mixF a b s)) ∧ w = w' := by
  obtain ⟨h1, h2, h3⟩ := mix_bd ha hb hs hk
  have k1 := fun w' => run_float_arith (P := Try.prog) w' .sub 27 .f32 b a (subF b a) (Ieee.Format.bits_sub hb.1 ha.1)
  have k2 := fun w' => run_float_arith (P := Try.prog) w' .mul 27 .f32 (subF b a) s (mulF (subF b a) s) (Ieee.Format.bits_mul h1.1 hs.1)
  have k3 := fun w' => run_float_arith (P := Try.prog) w' .add 27 .f32 a (mulF (subF b a) s) (mixF a b s) (Ieee.Format.bits_add ha.1 h2.1)
  clear h1 h2 h3 ha hb hs
  generalize mixF a b s = z at *
  generalize mulF (subF b a) s = y at *
  generalize subF b a = x at *
  go_enter Try.func196, Try.ntmps196
  go_wp2
  go_ret
  exact ⟨rfl, rfl⟩
theorem share_div (m d : Nat) (w : World) (h : m < d) (hd : d ≤ 64) : Calls Try.prog 197 #[.float .f32 (floatOfInt .f32 (m : Int)), .float .f32 (floatOfInt .f32 (d : Int))] w fun e w' => e = .returned (.float .f32 (shareF m d)) ∧ w = w' := by
  obtain ⟨_, ⟨X, Y, Z, a, b, c, dd⟩, _, _⟩ := share_facts h hd
  generalize shareF m d = r at *
  generalize floatOfInt .f32 (m : Int) = x at *
  generalize floatOfInt .f32 (d : Int) = y at *
  have ka := fun w => run_convert_float_float (P := Try.prog) w 27 86 .f32 .f64 x X (by kernel_rfl) Try.underlying86 a
  have kb := fun w => run_convert_float_float (P := Try.prog) w 27 86 .f32 .f64 y Y (by kernel_rfl) Try.underlying86 b
  have kc := fun w => run_float_arith (P := Try.prog) w .quo 86 .f64 X Y Z c
  have kd := fun w => run_convert_float_float (P := Try.prog) w 86 27 .f64 .f32 Z r (by kernel_rfl) Try.underlying27 dd
  clear a b c dd
  go_enter Try.func197, Try.ntmps197
  go_wp2
  go_ret
  exact ⟨rfl, rfl⟩

/-- a place is in a region -/
def inR (X Y W H x y : Int) : Prop := X ≤ x ∧ x < X + W ∧ Y ≤ y ∧ y < Y + H
instance (X Y W H x y : Int) : Decidable (inR X Y W H x y) := inferInstanceAs (Decidable (_ ∧ _ ∧ _ ∧ _))

theorem place_in (X Y : Int) (Wn Hn : Nat) (x y : Int) (k : Nat) (w : World) (hw : 1 ≤ Wn) (hw2 : Wn ≤ 512) (hh : 1 ≤ Hn) (hh2 : Hn ≤ 512) (hx0 : -8388608 ≤ X) (hx1 : X ≤ 8388608) (hy0 : -8388608 ≤ Y) (hy1 : Y ≤ 8388608) (h : inR X Y Wn Hn x y) (hk : cellNo X Y Wn x y = (k : Int)) :
    Calls Try.prog 117 #[reg X Y Wn Hn, .int .i64 x, .int .i64 y] w fun e w' => e = .returned (.tuple #[.int .i64 (k : Int), .bool true]) ∧ Below w.heap.size w w' := by
  obtain ⟨a1, a2, a3, a4⟩ := h
  obtain ⟨m0, m1, m2, m3⟩ := cellNo_in (show (1 : Int) ≤ Wn by omega) (by omega) (show (1 : Int) ≤ Hn by omega) (by omega) a1 a2 a3 a4
  have e : (y - Y) * Wn + x - X = (k : Int) := hk
  have kb : (k : Int) ≤ 1048576 := by omega
  clear hk m2 m3
  generalize hM : (y - Y) * (Wn : Int) = M at *
  go_enter Try.func117, Try.ntmps117
  go_wp2
  refine bodyPost_ret (v := .tuple #[.int .i64 (k : Int), .bool true]) (by simp [results, Try.results117, go_sem, *]) rfl ⟨rfl, (by repeat (first | with_reducible exact Below.refl _ _ | with_reducible apply Below.drew | with_reducible refine below_drewN ?_ _ | (with_reducible refine Below.setCell ?_ ?_ _; rotate_left; focus (first | omega | (simp <;> omega))) | (with_reducible refine Below.alloc ?_ ?_ _; rotate_left; focus (first | omega | (simp <;> omega)))))⟩
theorem place_out (X Y : Int) (Wn Hn : Nat) (x y : Int) (w : World) (hw : 1 ≤ Wn) (hw2 : Wn ≤ 512) (hh : 1 ≤ Hn) (hh2 : Hn ≤ 512) (hx0 : -8388608 ≤ X) (hx1 : X ≤ 8388608) (hy0 : -8388608 ≤ Y) (hy1 : Y ≤ 8388608) (h : ¬ inR X Y Wn Hn x y) :
    Calls Try.prog 117 #[reg X Y Wn Hn, .int .i64 x, .int .i64 y] w fun e w' => e = .returned (.tuple #[.int .i64 0, .bool false]) ∧ Below w.heap.size w w' := by
  unfold inR at h
  have HH := Lib.hid h
  clear h
  by_cases h1 : x < X
  · go_enter Try.func117, Try.ntmps117
    go_wp2
    exact bodyPost_ret (v := .tuple #[.int .i64 0, .bool false]) (by simp [results, Try.results117, go_sem, *]) rfl ⟨rfl, (by repeat (first | with_reducible exact Below.refl _ _ | with_reducible apply Below.drew | with_reducible refine below_drewN ?_ _ | (with_reducible refine Below.setCell ?_ ?_ _; rotate_left; focus (first | omega | (simp <;> omega))) | (with_reducible refine Below.alloc ?_ ?_ _; rotate_left; focus (first | omega | (simp <;> omega)))))⟩
  · by_cases h2 : y < Y
    · go_enter Try.func117, Try.ntmps117
      go_wp2
      exact bodyPost_ret (v := .tuple #[.int .i64 0, .bool false]) (by simp [results, Try.results117, go_sem, *]) rfl ⟨rfl, (by repeat (first | with_reducible exact Below.refl _ _ | with_reducible apply Below.drew | with_reducible refine below_drewN ?_ _ | (with_reducible refine Below.setCell ?_ ?_ _; rotate_left; focus (first | omega | (simp <;> omega))) | (with_reducible refine Below.alloc ?_ ?_ _; rotate_left; focus (first | omega | (simp <;> omega)))))⟩
    · by_cases h3 : X + Wn ≤ x
      · go_enter Try.func117, Try.ntmps117
        go_wp2
        exact bodyPost_ret (v := .tuple #[.int .i64 0, .bool false]) (by simp [results, Try.results117, go_sem, *]) rfl ⟨rfl, (by repeat (first | with_reducible exact Below.refl _ _ | with_reducible apply Below.drew | with_reducible refine below_drewN ?_ _ | (with_reducible refine Below.setCell ?_ ?_ _; rotate_left; focus (first | omega | (simp <;> omega))) | (with_reducible refine Below.alloc ?_ ?_ _; rotate_left; focus (first | omega | (simp <;> omega)))))⟩
      · have h4 : Y + Hn ≤ y := by have := HH.out; omega
        go_enter Try.func117, Try.ntmps117
        go_wp2
        exact bodyPost_ret (v := .tuple #[.int .i64 0, .bool false]) (by simp [results, Try.results117, go_sem, *]) rfl ⟨rfl, (by repeat (first | with_reducible exact Below.refl _ _ | with_reducible apply Below.drew | with_reducible refine below_drewN ?_ _ | (with_reducible refine Below.setCell ?_ ?_ _; rotate_left; focus (first | omega | (simp <;> omega))) | (with_reducible refine Below.alloc ?_ ?_ _; rotate_left; focus (first | omega | (simp <;> omega)))))⟩

end Go.Proofs.Ytfmbekdfigbfiaa

namespace Go.Proofs.Ytfmbekdfigbfiaa
open Go.Shelf
open Go.ChangeShapes Go.WideShapes Go.ChangeAt Go.RowKit
open Ieee.Format (fin finE htE allFin allHt all_true all_false mulF subF addF Ht Bd mixF mix_bd shareF share_facts)
set_option linter.unusedVariables false

/-- a single is zero -/
def zf (s : Nat) : Bool := Go.FloatKind.f32.format.order s 0 == some .eq
/-- the value between two cells of a row -/
def rowV (X Y : Int) (Wn Hn : Nat) (l : List Nat) (i y : Int) (s : Nat) : Option Nat :=
  if inR X Y Wn Hn i y then
    if zf s = true then some (l.getD (cellNo X Y Wn i y).toNat 0)
    else if inR X Y Wn Hn (i + 1) y then some (mixF (l.getD (cellNo X Y Wn i y).toNat 0) (l.getD (cellNo X Y Wn (i + 1) y).toNat 0) s) else none
  else none
theorem rowV_bd {X Y : Int} {Wn Hn : Nat} {l : List Nat} {i y : Int} {s v : Nat} (hl : ∀ j, Bd 20 (l.getD j 0)) (hs : Bd 0 s) (h : rowV X Y Wn Hn l i y s = some v) : Bd 22 v := by
  unfold rowV at h
  split at h
  · split at h
    · cases h; exact (hl _).mono (by omega)
    · split at h
      · cases h; exact (mix_bd (hl _) (hl _) hs (by omega)).2.2
      · cases h
  · cases h
theorem cell_in {X Y : Int} {Wn Hn : Nat} {i y : Int} (h1 : 1 ≤ Wn) (h2 : Wn ≤ 512) (h3 : 1 ≤ Hn) (h4 : Hn ≤ 512) (h : inR X Y Wn Hn i y) : cellNo X Y Wn i y = ((cellNo X Y Wn i y).toNat : Int) ∧ (cellNo X Y Wn i y).toNat < Hn * Wn := by
  obtain ⟨a1, a2, a3, a4⟩ := h
  obtain ⟨m0, m1, m2, m3⟩ := cellNo_in (show (1 : Int) ≤ Wn by omega) (by omega) (show (1 : Int) ≤ Hn by omega) (by omega) a1 a2 a3 a4
  refine ⟨by omega, ?_⟩
  have e : ((Hn * Wn : Nat) : Int) = (Wn : Int) * Hn := by rw [Int.natCast_mul, Int.mul_comm]
  omega

end Go.Proofs.Ytfmbekdfigbfiaa

namespace Go.Proofs.Ytfmbekdfigbfiaa
open Go.Shelf
open Go.ChangeShapes Go.WideShapes Go.ChangeAt Go.RowKit
open Ieee.Format (fin finE htE allFin allHt all_true all_false mulF subF addF Ht Bd mixF mix_bd shareF share_facts)
set_option linter.unusedVariables false

/-- the value between four cells -/
def bilV (X Y : Int) (Wn Hn : Nat) (l : List Nat) (i j : Int) (s t : Nat) : Option Nat :=
  match rowV X Y Wn Hn l i j s with
  | none => none
  | some p => if zf t = true then some p else match rowV X Y Wn Hn l i (j + 1) s with
    | none => none
    | some q => some (mixF p q t)
theorem bilV_bd {X Y : Int} {Wn Hn : Nat} {l : List Nat} {i j : Int} {s t v : Nat} (hl : ∀ j, Bd 20 (l.getD j 0)) (hs : Bd 0 s) (ht : Bd 0 t) (h : bilV X Y Wn Hn l i j s t = some v) : Bd 24 v := by
  unfold bilV at h
  split at h
  · cases h
  · rename_i p hp
    split at h
    · cases h; exact (rowV_bd hl hs hp).mono (by omega)
    · split at h
      · cases h
      · rename_i q hq
        cases h
        exact (mix_bd (rowV_bd hl hs hp) (rowV_bd hl hs hq) ht (by omega)).2.2

theorem bil_world (w : World) (X Y W H : Int) (v : Value) (i : Int) (s : Nat) : ∀ W0, W0 = ((w.alloc (.cells #[.int .i64 X, .int .i64 Y, .int .i64 W, .int .i64 H, v] /-T-/26)).alloc (.cells #[.int .i64 i] /-T-/3)).alloc (.cells #[.float .f32 s] /-T-/27) →
    Fld W0 w.heap.size X Y W H v ∧ W0.cell? ⟨w.heap.size + 1, 0, none⟩ = some (.int .i64 i) ∧ W0.cell? ⟨w.heap.size + 1 + 1, 0, none⟩ = some (.float .f32 s) ∧ Below w.heap.size w W0 ∧ W0.heap.size = w.heap.size + 3 := by
  rintro _ rfl
  exact ⟨((Fld.new w X Y W H v).alloc _).alloc _, by simp [go_sem], by simp [go_sem], (by repeat (first | with_reducible exact Below.refl _ _ | with_reducible apply Below.drew | with_reducible refine below_drewN ?_ _ | (with_reducible refine Below.setCell ?_ ?_ _; rotate_left; focus (first | omega | (simp <;> omega))) | (with_reducible refine Below.alloc ?_ ?_ _; rotate_left; focus (first | omega | (simp <;> omega))))), by simp⟩

end Go.Proofs.Ytfmbekdfigbfiaa

namespace Go.Proofs.Ytfmbekdfigbfiaa
open Go.Shelf
open Go.ChangeShapes Go.WideShapes Go.ChangeAt Go.RowKit
open Ieee.Format (fin finE htE allFin allHt all_true all_false mulF subF addF Ht Bd mixF mix_bd shareF share_facts)
set_option linter.unusedVariables false

end Go.Proofs.Ytfmbekdfigbfiaa

namespace Go.Proofs.Ytfmbekdfigbfiaa
open Go.Shelf
open Go.ChangeShapes Go.WideShapes Go.ChangeAt Go.RowKit
open Ieee.Format (fin finE htE allFin allHt all_true all_false mulF subF addF Ht Bd mixF mix_bd shareF share_facts)
set_option linter.unusedVariables false

theorem out_one (W : World) (g x : Nat) (hx : x < 4294967296) (h0 : W.cell? ⟨g, 0, none⟩ = some (.float .f32 x)) :
    Calls Try.prog 20 #[.slice (some ⟨g, 0, none⟩) 1 1] W fun e w' => e = .returned (.int .i64 (outE [x])) ∧ W = w' := by
  refine out_any (some ⟨g, 0, none⟩) 1 [x] W ⟨⟨by simp, by simp; exact hx⟩, .inr ⟨g, 0, rfl, ?_⟩⟩
  intro i hi
  obtain rfl : i = 0 := by simp at hi; omega
  exact h0
/-- the error of a value that may not be there -/
def bilC : Option Nat → Int
  | none => 5
  | some v => outE [v]
theorem rowV_lt {X Y : Int} {Wn Hn : Nat} {l : List Nat} {i y : Int} {s v : Nat} (hl : ∀ x ∈ l, x < 4294967296) (h : rowV X Y Wn Hn l i y s = some v) : v < 4294967296 := by
  unfold rowV at h
  split at h
  · split at h
    · cases h
      rcases Nat.lt_or_ge (cellNo X Y Wn i y).toNat l.length with hlt | hge
      · rw [List.getD_eq_getElem?_getD, List.getElem?_eq_getElem hlt]; exact hl _ (List.getElem_mem hlt)
      · rw [List.getD_eq_getElem?_getD, List.getElem?_eq_none hge]; show (0 : Nat) < 4294967296; decide
    · split at h
      · cases h; exact Ieee.Format.mixF_lt _ _ _
      · cases h
  · cases h

end Go.Proofs.Ytfmbekdfigbfiaa
