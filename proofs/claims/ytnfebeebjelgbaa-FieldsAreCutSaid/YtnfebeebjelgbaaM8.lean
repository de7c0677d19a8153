import Derived.Test.YtnfebeebjelgbaaM6
import Derived.Test.YtnfebeebjelgbaaM1
import Derived.Test.YtnfebeebjelgbaaM5
import Derived.Test.YtnfebeebjelgbaaM3
import Derived.Deep.RegionHeld3
import Derived.BigQuiet
namespace Go.Proofs.Ytnfebeebjelgbaa
open Go.Shelf
open Go.ChangeShapes Go.WideShapes Go.ChangeAt Go.RowKit
open Ieee.Format (fin finE htE allFin allHt all_true all_false mulF subF addF Ht Bd)
set_option linter.unusedVariables false

theorem tdiv_floor (a b : Int) (hb : 0 < b) : (a.tmod b < 0 → a.tdiv b - 1 = a / b ∧ a.tmod b + b = a % b) ∧ (¬ a.tmod b < 0 → a.tdiv b = a / b ∧ a.tmod b = a % b) := by
  have h1 := Int.mul_tdiv_add_tmod a b
  have h2 := Int.tmod_lt_of_pos a hb
  have h3 := Int.lt_tmod_of_pos a hb
  constructor
  · intro h
    have := (Int.ediv_emod_unique (a := a) (b := b) (r := a.tmod b + b) (q := a.tdiv b - 1) hb).2 ⟨by rw [Int.mul_sub, Int.mul_one]; omega, by omega, by omega⟩
    exact ⟨this.1.symm, this.2.symm⟩
  · intro h
    have := (Int.ediv_emod_unique (a := a) (b := b) (r := a.tmod b) (q := a.tdiv b) hb).2 ⟨by omega, by omega, h2⟩
    exact ⟨this.1.symm, this.2.symm⟩
theorem ediv_small (a b c : Int) (hb : 0 < b) (h1 : -c ≤ a) (h2 : a ≤ c) (hc : 0 ≤ c) : -c ≤ a / b ∧ a / b ≤ c := by
  have e := Int.mul_ediv_add_emod a b
  have m0 := Int.emod_nonneg a (show b ≠ 0 by omega)
  have m1 := Int.emod_lt_of_pos a hb
  constructor
  · refine (Int.le_ediv_iff_mul_le hb).2 ?_
    have := Int.mul_le_mul_of_nonneg_left (show 1 ≤ b by omega) hc
    rw [Int.neg_mul]; omega
  · by_cases h : a / b ≤ c
    · exact h
    · exfalso
      have := Int.mul_le_mul_of_nonneg_left (show c + 1 ≤ a / b by omega) (show 0 ≤ b by omega)
      have h3 := Int.mul_le_mul_of_nonneg_right (show 1 ≤ b by omega) (show 0 ≤ c + 1 by omega)
      omega

theorem quotient_any (n num den : Int) (w : World) (hb : 0 < den) (hb2 : den ≤ 64) (hn : 0 < num) (hn2 : num ≤ 64) (ha : -16777216 ≤ n) (ha2 : n ≤ 16777216) :
    Calls Try.prog 92 #[.int .i64 n, .int .i64 num, .int .i64 den] w fun e w' => e = .returned (.tuple #[.int .i64 (n * num / den), .int .i64 (n * num % den)]) ∧ Below w.heap.size w w' := by
  have p1 := Int.mul_le_mul_of_nonneg_right ha2 (show 0 ≤ num by omega)
  have p2 := Int.mul_le_mul_of_nonneg_right ha (show 0 ≤ num by omega)
  generalize hp : n * num = p at *
  have p3 : -1073741824 ≤ p := by omega
  have p4 : p ≤ 1073741824 := by omega
  clear p1 p2
  obtain ⟨f1, f2⟩ := tdiv_floor p den hb
  have h1 := Int.mul_ediv_add_emod p den
  have h2 := Int.tmod_lt_of_pos p hb
  have h3 := Int.lt_tmod_of_pos p hb
  have h4 := Int.natAbs_tdiv_le_natAbs p den
  have n0 : den ≠ 0 := by omega
  obtain ⟨s1, s2⟩ := ediv_small p den 1073741824 hb p3 p4 (by omega)
  have m1 := Int.emod_nonneg p n0
  have m2 := Int.emod_lt_of_pos p hb
  have g1 : -1073741824 ≤ p.tdiv den := by omega
  have g2 : p.tdiv den ≤ 1073741824 := by omega
  have h1' : p - p / den * den = p % den := by rw [Int.mul_comm (p / den)]; omega
  have E3 := Lib.hid h1'
  have HF1 := Lib.hid f1
  have HF2 := Lib.hid f2
  have p5 : -1073741888 ≤ p / den * den := by omega
  have p6 : p / den * den ≤ 1073741824 := by omega
  clear f1 f2 h4 h1 h1'
  generalize hq : p.tdiv den = q at *
  generalize hm : p.tmod den = m at *
  by_cases h : m < 0
  · obtain ⟨e1, e2⟩ := HF1.out h
    rw [← E3.out, ← e1]
    rw [← e1] at p5 p6
    clear e2 HF1 HF2 e1 E3 s1 s2
    generalize hr : (q - 1) * den = r at *
    go_enter Try.func92, Try.ntmps92
    go_wp2_with fail
    refine bodyPost_ret (v := .tuple #[.int .i64 (q - 1), .int .i64 (p - r)]) (by simp [results, Try.results92, go_sem]) rfl ⟨rfl, (by repeat (first | with_reducible exact Below.refl _ _ | with_reducible apply Below.drew | with_reducible refine below_drewN ?_ _ | (with_reducible refine Below.setCell ?_ ?_ _; rotate_left; focus (first | omega | (simp <;> omega))) | (with_reducible refine Below.alloc ?_ ?_ _; rotate_left; focus (first | omega | (simp <;> omega)))))⟩
  · obtain ⟨e1, e2⟩ := HF2.out h
    rw [← E3.out, ← e1]
    rw [← e1] at p5 p6
    clear e2 HF1 HF2 e1 E3 s1 s2
    generalize hr : q * den = r at *
    go_enter Try.func92, Try.ntmps92
    go_wp2_with fail
    refine bodyPost_ret (v := .tuple #[.int .i64 q, .int .i64 (p - r)]) (by simp [results, Try.results92, go_sem]) rfl ⟨rfl, (by repeat (first | with_reducible exact Below.refl _ _ | with_reducible apply Below.drew | with_reducible refine below_drewN ?_ _ | (with_reducible refine Below.setCell ?_ ?_ _; rotate_left; focus (first | omega | (simp <;> omega))) | (with_reducible refine Below.alloc ?_ ?_ _; rotate_left; focus (first | omega | (simp <;> omega)))))⟩
end Go.Proofs.Ytnfebeebjelgbaa

namespace Go.Proofs.Ytnfebeebjelgbaa
open Go.Shelf
open Go.ChangeShapes Go.WideShapes Go.ChangeAt Go.RowKit
open Ieee.Format (fin finE htE allFin allHt all_true all_false mulF subF addF Ht Bd mixF mix_bd shareF share_facts)
set_option linter.unusedVariables false

theorem mix_any (k a b s : Nat) (w : World) (ha : Bd k a) (hb : Bd k b) (hs : Bd 0 s) (hk : k ≤ 80) :
    Calls Try.prog 115 #[.float .f32 a, .float .f32 b, .float .f32 s] w fun e w' => e = .returned (.float .f32 (mixF a b s)) ∧ w = w' := by
  obtain ⟨h1, h2, h3⟩ := mix_bd ha hb hs hk
  have k1 := fun w' => run_float_arith (P := Try.prog) w' .sub 37 .f32 b a (subF b a) (Ieee.Format.bits_sub hb.1 ha.1)
  have k2 := fun w' => run_float_arith (P := Try.prog) w' .mul 37 .f32 (subF b a) s (mulF (subF b a) s) (Ieee.Format.bits_mul h1.1 hs.1)
  have k3 := fun w' => run_float_arith (P := Try.prog) w' .add 37 .f32 a (mulF (subF b a) s) (mixF a b s) (Ieee.Format.bits_add ha.1 h2.1)
  clear h1 h2 h3 ha hb hs
  generalize mixF a b s = z at *
  generalize mulF (subF b a) s = y at *
  generalize subF b a = x at *
  go_enter Try.func115, Try.ntmps115
  go_wp2
  go_ret
  exact ⟨rfl, rfl⟩
theorem lerp_any (k a b s : Nat) (w : World) (ha : Bd k a) (hb : Bd k b) (hs : Bd 0 s) (hk : k ≤ 80) :
    Calls Try.prog 119 #[.float .f32 a, .float .f32 b, .float .f32 s] w fun e w' => e = .returned (.float .f32 (mixF a b s)) ∧ w = w' := by
  obtain ⟨h1, h2, h3⟩ := mix_bd ha hb hs hk
  have k1 := Lib.hid (fun w' => ref_sub_ok b a w' hb.1 ha.1 h1.1)
  have k2 := Lib.hid (fun w' => ref_mul_ok (subF b a) s w' h1.1 hs.1 h2.1)
  have k3 := Lib.hid (fun w' => ref_add_ok a (mulF (subF b a) s) w' ha.1 h2.1 h3.1)
  change Hid (∀ w', Calls Try.prog 131 #[.float .f32 a, .float .f32 (mulF (subF b a) s)] w' fun e' w2 => e' = .returned (.float .f32 (mixF a b s)) ∧ w' = w2) at k3
  clear h1 h2 h3 ha hb hs
  generalize mixF a b s = z at *
  generalize mulF (subF b a) s = y at *
  generalize subF b a = x at *
  go_enter Try.func119, Try.ntmps119
  go_wp2_with fail
  refine (k1.out _).mono ?_
  rintro e w' ⟨rfl, rfl⟩
  go_wp2_with fail
  refine (k2.out _).mono ?_
  rintro e w' ⟨rfl, rfl⟩
  go_wp2_with fail
  refine (k3.out _).mono ?_
  rintro e w' ⟨rfl, rfl⟩
  go_wp2_with fail
  go_ret
  exact ⟨rfl, rfl⟩
theorem share_div (m d : Nat) (w : World) (h : m < d) (hd : d ≤ 64) : Calls Try.prog 139 #[.float .f32 (floatOfInt .f32 (m : Int)), .float .f32 (floatOfInt .f32 (d : Int))] w fun e w' => e = .returned (.float .f32 (shareF m d)) ∧ w = w' := by
  obtain ⟨_, ⟨X, Y, Z, a, b, c, dd⟩, _, _⟩ := share_facts h hd
  generalize shareF m d = r at *
  generalize floatOfInt .f32 (m : Int) = x at *
  generalize floatOfInt .f32 (d : Int) = y at *
  have ka := fun w => run_convert_float_float (P := Try.prog) w 37 114 .f32 .f64 x X (by kernel_rfl) Try.underlying114 a
  have kb := fun w => run_convert_float_float (P := Try.prog) w 37 114 .f32 .f64 y Y (by kernel_rfl) Try.underlying114 b
  have kc := fun w => run_float_arith (P := Try.prog) w .quo 114 .f64 X Y Z c
  have kd := fun w => run_convert_float_float (P := Try.prog) w 114 37 .f64 .f32 Z r (by kernel_rfl) Try.underlying37 dd
  clear a b c dd
  go_enter Try.func139, Try.ntmps139
  go_wp2
  go_ret
  exact ⟨rfl, rfl⟩

/-- a place is in a region -/
def inR (X Y W H x y : Int) : Prop := X ≤ x ∧ x < X + W ∧ Y ≤ y ∧ y < Y + H
instance (X Y W H x y : Int) : Decidable (inR X Y W H x y) := inferInstanceAs (Decidable (_ ∧ _ ∧ _ ∧ _))

theorem place_in (X Y : Int) (Wn Hn : Nat) (x y : Int) (k : Nat) (w : World) (hw : 1 ≤ Wn) (hw2 : Wn ≤ 512) (hh : 1 ≤ Hn) (hh2 : Hn ≤ 512) (hx0 : -8388608 ≤ X) (hx1 : X ≤ 8388608) (hy0 : -8388608 ≤ Y) (hy1 : Y ≤ 8388608) (h : inR X Y Wn Hn x y) (hk : cellNo X Y Wn x y = (k : Int)) :
    Calls Try.prog 192 #[reg X Y Wn Hn, .int .i64 x, .int .i64 y] w fun e w' => e = .returned (.tuple #[.int .i64 (k : Int), .bool true]) ∧ Below w.heap.size w w' := by
  obtain ⟨a1, a2, a3, a4⟩ := h
  obtain ⟨m0, m1, m2, m3⟩ := cellNo_in (show (1 : Int) ≤ Wn by omega) (by omega) (show (1 : Int) ≤ Hn by omega) (by omega) a1 a2 a3 a4
  have e : (y - Y) * Wn + x - X = (k : Int) := hk
  have kb : (k : Int) ≤ 1048576 := by omega
  clear hk m2 m3
  generalize hM : (y - Y) * (Wn : Int) = M at *
  go_enter Try.func192, Try.ntmps192
  go_wp2
  refine bodyPost_ret (v := .tuple #[.int .i64 (k : Int), .bool true]) (by simp [results, Try.results192, go_sem, *]) rfl ⟨rfl, (by repeat (first | with_reducible exact Below.refl _ _ | with_reducible apply Below.drew | with_reducible refine below_drewN ?_ _ | (with_reducible refine Below.setCell ?_ ?_ _; rotate_left; focus (first | omega | (simp <;> omega))) | (with_reducible refine Below.alloc ?_ ?_ _; rotate_left; focus (first | omega | (simp <;> omega)))))⟩
theorem place_out (X Y : Int) (Wn Hn : Nat) (x y : Int) (w : World) (hw : 1 ≤ Wn) (hw2 : Wn ≤ 512) (hh : 1 ≤ Hn) (hh2 : Hn ≤ 512) (hx0 : -8388608 ≤ X) (hx1 : X ≤ 8388608) (hy0 : -8388608 ≤ Y) (hy1 : Y ≤ 8388608) (h : ¬ inR X Y Wn Hn x y) :
    Calls Try.prog 192 #[reg X Y Wn Hn, .int .i64 x, .int .i64 y] w fun e w' => e = .returned (.tuple #[.int .i64 0, .bool false]) ∧ Below w.heap.size w w' := by
  unfold inR at h
  have HH := Lib.hid h
  clear h
  by_cases h1 : x < X
  · go_enter Try.func192, Try.ntmps192
    go_wp2
    exact bodyPost_ret (v := .tuple #[.int .i64 0, .bool false]) (by simp [results, Try.results192, go_sem, *]) rfl ⟨rfl, (by repeat (first | with_reducible exact Below.refl _ _ | with_reducible apply Below.drew | with_reducible refine below_drewN ?_ _ | (with_reducible refine Below.setCell ?_ ?_ _; rotate_left; focus (first | omega | (simp <;> omega))) | (with_reducible refine Below.alloc ?_ ?_ _; rotate_left; focus (first | omega | (simp <;> omega)))))⟩
  · by_cases h2 : y < Y
    · go_enter Try.func192, Try.ntmps192
      go_wp2
      exact bodyPost_ret (v := .tuple #[.int .i64 0, .bool false]) (by simp [results, Try.results192, go_sem, *]) rfl ⟨rfl, (by repeat (first | with_reducible exact Below.refl _ _ | with_reducible apply Below.drew | with_reducible refine below_drewN ?_ _ | (with_reducible refine Below.setCell ?_ ?_ _; rotate_left; focus (first | omega | (simp <;> omega))) | (with_reducible refine Below.alloc ?_ ?_ _; rotate_left; focus (first | omega | (simp <;> omega)))))⟩
    · by_cases h3 : X + Wn ≤ x
      · go_enter Try.func192, Try.ntmps192
        go_wp2
        exact bodyPost_ret (v := .tuple #[.int .i64 0, .bool false]) (by simp [results, Try.results192, go_sem, *]) rfl ⟨rfl, (by repeat (first | with_reducible exact Below.refl _ _ | with_reducible apply Below.drew | with_reducible refine below_drewN ?_ _ | (with_reducible refine Below.setCell ?_ ?_ _; rotate_left; focus (first | omega | (simp <;> omega))) | (with_reducible refine Below.alloc ?_ ?_ _; rotate_left; focus (first | omega | (simp <;> omega)))))⟩
      · have h4 : Y + Hn ≤ y := by have := HH.out; omega
        go_enter Try.func192, Try.ntmps192
        go_wp2
        exact bodyPost_ret (v := .tuple #[.int .i64 0, .bool false]) (by simp [results, Try.results192, go_sem, *]) rfl ⟨rfl, (by repeat (first | with_reducible exact Below.refl _ _ | with_reducible apply Below.drew | with_reducible refine below_drewN ?_ _ | (with_reducible refine Below.setCell ?_ ?_ _; rotate_left; focus (first | omega | (simp <;> omega))) | (with_reducible refine Below.alloc ?_ ?_ _; rotate_left; focus (first | omega | (simp <;> omega)))))⟩

theorem there_any (X Y : Int) (Wn Hn : Nat) (x y : Int) (a : Option Addr) (n c : Nat) (w : World) (hw : 1 ≤ Wn) (hw2 : Wn ≤ 512) (hh : 1 ≤ Hn) (hh2 : Hn ≤ 512) (hx0 : -8388608 ≤ X) (hx1 : X ≤ 8388608) (hy0 : -8388608 ≤ Y) (hy1 : Y ≤ 8388608) (g1 : -1073741824 ≤ x) (g2 : x ≤ 1073741824) (g3 : -1073741824 ≤ y) (g4 : y ≤ 1073741824) :
    Calls Try.prog 111 #[fldV X Y Wn Hn a n c, .int .i64 x, .int .i64 y] w fun e w' => e = .returned (.bool (decide (inR X Y Wn Hn x y))) ∧ Below w.heap.size w w' := by
  have K := Lib.hid (fun w' => inside2 x y 1 1 X Y Wn Hn w' g1 g2 g3 g4 (by omega) (by omega) (by omega) (by omega) (by omega) (by omega) (by omega) (by omega) (by omega) (by omega) (by omega) (by omega))
  have E : insB x y 1 1 X Y Wn Hn = decide (inR X Y Wn Hn x y) := by
    exact decide_eq_decide.2 (by unfold inR; omega)
  rw [E] at K
  clear E
  generalize decide (inR X Y Wn Hn x y) = d at *
  have HB : Hid (Below w.heap.size w (w.alloc (.cells #[.int .i64 X, .int .i64 Y, .int .i64 Wn, .int .i64 Hn, .slice a n c] /-T-/36))) := Lib.hid ((by repeat (first | with_reducible exact Below.refl _ _ | with_reducible apply Below.drew | with_reducible refine below_drewN ?_ _ | (with_reducible refine Below.setCell ?_ ?_ _; rotate_left; focus (first | omega | (simp <;> omega))) | (with_reducible refine Below.alloc ?_ ?_ _; rotate_left; focus (first | omega | (simp <;> omega))))))
  go_enter Try.func111, Try.ntmps111
  go_wp2_with fail
  refine (K.out _).mono ?_
  rintro e w1 ⟨rfl, b1⟩
  have B1 := Lib.hid (HB.out.trans (b1.mono HB.out.size))
  clear b1
  go_wp2_with fail
  go_ret
  exact ⟨rfl, B1.out⟩
end Go.Proofs.Ytnfebeebjelgbaa

namespace Go.Proofs.Ytnfebeebjelgbaa
open Go.Shelf
open Go.ChangeShapes Go.WideShapes Go.ChangeAt Go.RowKit
open Ieee.Format (fin finE htE allFin allHt all_true all_false mulF subF addF Ht Bd mixF mix_bd shareF share_facts)
set_option linter.unusedVariables false

/-- a single is zero -/
def zf (s : Nat) : Bool := Go.FloatKind.f32.format.order s 0 == some .eq
/-- the value between two cells of a row -/
def rowV (X Y : Int) (Wn Hn : Nat) (l : List Nat) (i y : Int) (s : Nat) : Option Nat :=
  if inR X Y Wn Hn i y then
    if zf s = true then some (l.getD (cellNo X Y Wn i y).toNat 0)
    else if inR X Y Wn Hn (i + 1) y then some (mixF (l.getD (cellNo X Y Wn i y).toNat 0) (l.getD (cellNo X Y Wn (i + 1) y).toNat 0) s) else none
  else none
theorem rowV_bd {X Y : Int} {Wn Hn : Nat} {l : List Nat} {i y : Int} {s v : Nat} (hl : ∀ j, Bd 20 (l.getD j 0)) (hs : Bd 0 s) (h : rowV X Y Wn Hn l i y s = some v) : Bd 22 v := by
  unfold rowV at h
  split at h
  · split at h
    · cases h; exact (hl _).mono (by omega)
    · split at h
      · cases h; exact (mix_bd (hl _) (hl _) hs (by omega)).2.2
      · cases h
  · cases h
theorem cell_in {X Y : Int} {Wn Hn : Nat} {i y : Int} (h1 : 1 ≤ Wn) (h2 : Wn ≤ 512) (h3 : 1 ≤ Hn) (h4 : Hn ≤ 512) (h : inR X Y Wn Hn i y) : cellNo X Y Wn i y = ((cellNo X Y Wn i y).toNat : Int) ∧ (cellNo X Y Wn i y).toNat < Hn * Wn := by
  obtain ⟨a1, a2, a3, a4⟩ := h
  obtain ⟨m0, m1, m2, m3⟩ := cellNo_in (show (1 : Int) ≤ Wn by omega) (by omega) (show (1 : Int) ≤ Hn by omega) (by omega) a1 a2 a3 a4
  refine ⟨by omega, ?_⟩
  have e : ((Hn * Wn : Nat) : Int) = (Wn : Int) * Hn := by rw [Int.natCast_mul, Int.mul_comm]
  omega

set_option maxRecDepth 100000 in
theorem row_fn (X Y : Int) (Wn Hn : Nat) (b o c k p q : Nat) (i y : Int) (s : Nat) (l : List Nat) (w : World) (hl : SRow w (some ⟨b, o, none⟩) l) (hn : l.length = Hn * Wn) (hb : ∀ j, Bd 20 (l.getD j 0)) (hs : Bd 0 s) (hw : 1 ≤ Wn) (hw2 : Wn ≤ 512) (hh : 1 ≤ Hn) (hh2 : Hn ≤ 512) (hx0 : -8388608 ≤ X) (hx1 : X ≤ 8388608) (hy0 : -8388608 ≤ Y) (hy1 : Y ≤ 8388608)
    (hi1 : -1099511627776 ≤ i) (hi2 : i ≤ 1099511627776) (hf : Fld w k X Y Wn Hn (.slice (some ⟨b, o, none⟩) l.length c)) (hp : w.cell? ⟨p, 0, none⟩ = some (.int .i64 i)) (pl : p < w.heap.size) (hq : w.cell? ⟨q, 0, none⟩ = some (.float .f32 s)) (ql : q < w.heap.size) :
    Calls Try.prog 222 #[.int .i64 y, .pointer (some ⟨k, 0, none⟩), .pointer (some ⟨p, 0, none⟩), .pointer (some ⟨q, 0, none⟩)] w fun e w' => e = .returned (.tuple #[.float .f32 ((rowV X Y Wn Hn l i y s).getD 0), .bool (rowV X Y Wn Hn l i y s).isSome]) ∧ Below w.heap.size w w' := by
  have kl := hf.lt
  obtain ⟨c0, c1, c2, c3, c4⟩ := hf.cells
  have HFL := Lib.hid hf
  have HL := Lib.hid hl
  clear hf hl
  by_cases h1 : inR X Y Wn Hn i y
  · obtain ⟨e1, e2⟩ := cell_in hw hw2 hh hh2 h1
    have K1 := Lib.hid (fun w' => place_in X Y Wn Hn i y _ w' hw hw2 hh hh2 hx0 hx1 hy0 hy1 h1 e1)
    rw [← hn] at e2
    generalize hk1 : (cellNo X Y Wn i y).toNat = k1 at *
    by_cases hz : zf s = true
    · have HR : Hid (rowV X Y Wn Hn l i y s = some (l.getD k1 0)) := by unfold Hid rowV; rw [if_pos h1, if_pos hz, hk1]
      have zz : (Go.FloatKind.f32.format.order s 0 == some .eq) = true := hz
      clear h1 e1 hz hk1
      generalize rowV X Y Wn Hn l i y s = R at *
      obtain rfl := HR.out
      go_enter Try.func222, Try.ntmps222
      go_wp2_with fail
      refine (K1.out _).mono ?_
      rintro e w1 ⟨rfl, b1⟩
      have F1 := HFL.out.below b1 kl
      have a1 := (HL.out.below b1).at_ e2
      have q1 := (b1.cell (p := ⟨q, 0, none⟩) ql).trans hq
      obtain ⟨d0, d1, d2, d3, d4⟩ := F1.cells
      have B1 := Lib.hid b1
      clear b1 F1 c0 c1 c2 c3 c4 hp hq HFL
      generalize hv : l.getD k1 0 = v at *
      have HV := Lib.hid hv
      clear hv
      go_wp2_with fail
      have hv := HV.out
      refine bodyPost_ret (v := .tuple #[.float .f32 v, .bool true]) (by simp [results, Try.results222, go_sem, *]) rfl ⟨by rw [hv]; rfl, B1.out⟩
    · have zz : (Go.FloatKind.f32.format.order s 0 == some .eq) = false := by simpa [zf] using hz
      by_cases h2 : inR X Y Wn Hn (i + 1) y
      · obtain ⟨e3, e4⟩ := cell_in hw hw2 hh hh2 h2
        have K2 := Lib.hid (fun w' => place_in X Y Wn Hn (i + 1) y _ w' hw hw2 hh hh2 hx0 hx1 hy0 hy1 h2 e3)
        rw [← hn] at e4
        generalize hk2 : (cellNo X Y Wn (i + 1) y).toNat = k2 at *
        have HR : Hid (rowV X Y Wn Hn l i y s = some (mixF (l.getD k1 0) (l.getD k2 0) s)) := by unfold Hid rowV; rw [if_pos h1, if_neg hz, if_pos h2, hk1, hk2]
        have KM := Lib.hid (fun w' => mix_any 20 (l.getD k1 0) (l.getD k2 0) s w' (hb _) (hb _) hs (by omega))
        clear h1 h2 e1 e3 hz hk1 hk2 hb hs
        generalize rowV X Y Wn Hn l i y s = R at *
        obtain rfl := HR.out
        have hlen := HL.out.1.1
        go_enter Try.func222, Try.ntmps222
        go_wp2_with fail
        refine (K1.out _).mono ?_
        rintro e w1 ⟨rfl, b1⟩
        have F1 := HFL.out.below b1 kl
        have HL1 := Lib.hid (HL.out.below b1)
        have q1 := (b1.cell (p := ⟨q, 0, none⟩) ql).trans hq
        have p1 := (b1.cell (p := ⟨p, 0, none⟩) pl).trans hp
        obtain ⟨d0, d1, d2, d3, d4⟩ := F1.cells
        have HF1 := Lib.hid F1
        have B1 := Lib.hid b1
        have kl1 := F1.lt
        have z1 : w.heap.size ≤ w1.heap.size := b1.size
        clear b1 F1 c0 c1 c2 c3 c4 hp hq HFL HL
        go_wp2_with fail
        refine (K2.out _).mono ?_
        rintro e w2 ⟨rfl, b2⟩
        have F2 := HF1.out.below b2 kl1
        have L2 := HL1.out.below b2
        have a1 := L2.at_ e2
        have a2 := L2.at_ e4
        have q2 := (b2.cell (p := ⟨q, 0, none⟩) (by simp; omega)).trans q1
        have B2 := Lib.hid (B1.out.trans (b2.mono B1.out.size))
        clear d0 d1 d2 d3 d4 q1 p1 b2 B1 HF1 HL1 L2
        obtain ⟨d0, d1, d2, d3, d4⟩ := F2.cells
        clear F2
        generalize hzz : mixF (l.getD k1 0) (l.getD k2 0) s = z at *
        have HZ := Lib.hid hzz
        clear hzz
        have a1' := a1
        generalize hv1 : l.getD k1 0 = v1 at *
        generalize hv2 : l.getD k2 0 = v2 at *
        have HV1 := Lib.hid hv1
        have HV2 := Lib.hid hv2
        clear hv1 hv2 a1'
        go_wp2_with fail
        go_quiet ((go_at_call 115; exact Calls.quiet_of_same ((KM.out _).mono fun _ _ h => ⟨h.1, h.2.symm⟩)))
        go_wp2_with fail
        refine bodyPost_ret (v := .tuple #[.float .f32 z, .bool true]) (by simp [results, Try.results222, go_sem, *]) rfl ⟨by rw [HV1.out, HV2.out, HZ.out]; rfl, ?_⟩
        have hB := B2.out
        exact (by have hszz := hB.size; repeat (first | with_reducible exact hB | with_reducible apply Below.drew | with_reducible refine below_drewN ?_ _ | (with_reducible refine Below.setCell ?_ ?_ _; rotate_left; focus (first | omega | (simp <;> omega))) | (with_reducible refine Below.alloc ?_ ?_ _; rotate_left; focus (first | omega | (simp <;> omega)))))
      · have K2 := Lib.hid (fun w' => place_out X Y Wn Hn (i + 1) y w' hw hw2 hh hh2 hx0 hx1 hy0 hy1 h2)
        have HR : Hid (rowV X Y Wn Hn l i y s = none) := by unfold Hid rowV; rw [if_pos h1, if_neg hz, if_neg h2]
        clear h1 h2 e1 hz hk1
        generalize rowV X Y Wn Hn l i y s = R at *
        obtain rfl := HR.out
        go_enter Try.func222, Try.ntmps222
        go_wp2_with fail
        refine (K1.out _).mono ?_
        rintro e w1 ⟨rfl, b1⟩
        have F1 := HFL.out.below b1 kl
        have q1 := (b1.cell (p := ⟨q, 0, none⟩) ql).trans hq
        have p1 := (b1.cell (p := ⟨p, 0, none⟩) pl).trans hp
        obtain ⟨d0, d1, d2, d3, d4⟩ := F1.cells
        have B1 := Lib.hid b1
        clear b1 F1 c0 c1 c2 c3 c4 hp hq HFL
        go_wp2_with fail
        refine (K2.out _).mono ?_
        rintro e w2 ⟨rfl, b2⟩
        have B2 := Lib.hid (B1.out.trans (b2.mono B1.out.size))
        clear b2
        go_wp2_with fail
        refine bodyPost_ret (v := .tuple #[.float .f32 0, .bool false]) (by simp [results, Try.results222, go_sem, *]) rfl ⟨rfl, B2.out⟩
  · have K1 := Lib.hid (fun w' => place_out X Y Wn Hn i y w' hw hw2 hh hh2 hx0 hx1 hy0 hy1 h1)
    have HR : Hid (rowV X Y Wn Hn l i y s = none) := by unfold Hid rowV; rw [if_neg h1]
    clear h1
    generalize rowV X Y Wn Hn l i y s = R at *
    obtain rfl := HR.out
    go_enter Try.func222, Try.ntmps222
    go_wp2_with fail
    refine (K1.out _).mono ?_
    rintro e w1 ⟨rfl, b1⟩
    have B1 := Lib.hid b1
    clear b1
    go_wp2_with fail
    refine bodyPost_ret (v := .tuple #[.float .f32 0, .bool false]) (by simp [results, Try.results222, go_sem, *]) rfl ⟨rfl, B1.out⟩
end Go.Proofs.Ytnfebeebjelgbaa

namespace Go.Proofs.Ytnfebeebjelgbaa
open Go.Shelf
open Go.ChangeShapes Go.WideShapes Go.ChangeAt Go.RowKit
open Ieee.Format (fin finE htE allFin allHt all_true all_false mulF subF addF Ht Bd mixF mix_bd shareF share_facts)
set_option linter.unusedVariables false

/-- the value between four cells -/
def bilV (X Y : Int) (Wn Hn : Nat) (l : List Nat) (i j : Int) (s t : Nat) : Option Nat :=
  match rowV X Y Wn Hn l i j s with
  | none => none
  | some p => if zf t = true then some p else match rowV X Y Wn Hn l i (j + 1) s with
    | none => none
    | some q => some (mixF p q t)
theorem bilV_bd {X Y : Int} {Wn Hn : Nat} {l : List Nat} {i j : Int} {s t v : Nat} (hl : ∀ j, Bd 20 (l.getD j 0)) (hs : Bd 0 s) (ht : Bd 0 t) (h : bilV X Y Wn Hn l i j s t = some v) : Bd 24 v := by
  unfold bilV at h
  split at h
  · cases h
  · rename_i p hp
    split at h
    · cases h; exact (rowV_bd hl hs hp).mono (by omega)
    · split at h
      · cases h
      · rename_i q hq
        cases h
        exact (mix_bd (rowV_bd hl hs hp) (rowV_bd hl hs hq) ht (by omega)).2.2

theorem bil_world (w : World) (X Y W H : Int) (v : Value) (i : Int) (s : Nat) : ∀ W0, W0 = ((w.alloc (.cells #[.int .i64 X, .int .i64 Y, .int .i64 W, .int .i64 H, v] /-T-/36)).alloc (.cells #[.int .i64 i] /-T-/3)).alloc (.cells #[.float .f32 s] /-T-/37) →
    Fld W0 w.heap.size X Y W H v ∧ W0.cell? ⟨w.heap.size + 1, 0, none⟩ = some (.int .i64 i) ∧ W0.cell? ⟨w.heap.size + 1 + 1, 0, none⟩ = some (.float .f32 s) ∧ Below w.heap.size w W0 ∧ W0.heap.size = w.heap.size + 3 := by
  rintro _ rfl
  exact ⟨((Fld.new w X Y W H v).alloc _).alloc _, by simp [go_sem], by simp [go_sem], (by repeat (first | with_reducible exact Below.refl _ _ | with_reducible apply Below.drew | with_reducible refine below_drewN ?_ _ | (with_reducible refine Below.setCell ?_ ?_ _; rotate_left; focus (first | omega | (simp <;> omega))) | (with_reducible refine Below.alloc ?_ ?_ _; rotate_left; focus (first | omega | (simp <;> omega))))), by simp⟩

set_option maxRecDepth 100000 in
theorem between_any (X Y : Int) (Wn Hn : Nat) (b o c : Nat) (i j : Int) (s t : Nat) (l : List Nat) (w : World) (hl : SRow w (some ⟨b, o, none⟩) l) (hn : l.length = Hn * Wn) (hb : ∀ j, Bd 20 (l.getD j 0)) (hs : Bd 0 s) (ht : Bd 0 t) (hw : 1 ≤ Wn) (hw2 : Wn ≤ 512) (hh : 1 ≤ Hn) (hh2 : Hn ≤ 512) (hx0 : -8388608 ≤ X) (hx1 : X ≤ 8388608) (hy0 : -8388608 ≤ Y) (hy1 : Y ≤ 8388608)
    (hi1 : -1099511627776 ≤ i) (hi2 : i ≤ 1099511627776) (hj1 : -1099511627776 ≤ j) (hj2 : j ≤ 1099511627776) :
    Calls Try.prog 206 #[fldV X Y Wn Hn (some ⟨b, o, none⟩) l.length c, .int .i64 i, .int .i64 j, .float .f32 s, .float .f32 t] w fun e w' => e = .returned (.tuple #[.float .f32 ((bilV X Y Wn Hn l i j s t).getD 0), .bool (bilV X Y Wn Hn l i j s t).isSome]) ∧ Below w.heap.size w w' := by
  have HL := Lib.hid hl
  have K := Lib.hid (fun y w' hl k p q hf hp pl hq ql => row_fn X Y Wn Hn b o c k p q i y s l w' hl hn hb hs hw hw2 hh hh2 hx0 hx1 hy0 hy1 hi1 hi2 hf hp pl hq ql)
  have HB1 := Lib.hid (fun p h => rowV_bd (X := X) (Y := Y) (Wn := Wn) (Hn := Hn) (l := l) (i := i) (y := j) (s := s) (v := p) hb hs h)
  have HB2 := Lib.hid (fun p h => rowV_bd (X := X) (Y := Y) (Wn := Wn) (Hn := Hn) (l := l) (i := i) (y := j + 1) (s := s) (v := p) hb hs h)
  have HT := Lib.hid ht
  have HE : Hid (∀ p, rowV X Y Wn Hn l i j s = some p → zf t = true → bilV X Y Wn Hn l i j s t = some p) := fun p h1 h2 => by unfold bilV; rw [h1]; simp [h2]
  have HE0 : Hid (rowV X Y Wn Hn l i j s = none → bilV X Y Wn Hn l i j s t = none) := fun h1 => by unfold bilV; rw [h1]
  have HE1 : Hid (∀ p, rowV X Y Wn Hn l i j s = some p → zf t = false → rowV X Y Wn Hn l i (j + 1) s = none → bilV X Y Wn Hn l i j s t = none) := fun p h1 h2 h3 => by unfold bilV; rw [h1]; simp [h2, h3]
  have HE2 : Hid (∀ p q, rowV X Y Wn Hn l i j s = some p → zf t = false → rowV X Y Wn Hn l i (j + 1) s = some q → bilV X Y Wn Hn l i j s t = some (mixF p q t)) := fun p q h1 h2 h3 => by unfold bilV; rw [h1]; simp [h2, h3]
  have K1 := Lib.hid (K.out j)
  have K2 := Lib.hid (K.out (j + 1))
  clear K hb hs ht hl hn
  generalize rowV X Y Wn Hn l i j s = R1 at *
  generalize rowV X Y Wn Hn l i (j + 1) s = R2 at *
  generalize bilV X Y Wn Hn l i j s t = R at *
  go_enter Try.func206, Try.ntmps206
  go_wp2_with fail
  generalize hW0 : ((w.alloc (.cells #[.int .i64 X, .int .i64 Y, .int .i64 Wn, .int .i64 Hn, .slice (some ⟨b, o, none⟩) l.length c] /-T-/36)).alloc (.cells #[.int .i64 i] /-T-/3)).alloc (.cells #[.float .f32 s] /-T-/37) = W0 at *
  obtain ⟨F0, p0, q0, B0, z0⟩ := bil_world w X Y Wn Hn _ i s W0 hW0.symm
  clear hW0
  have HL0 := Lib.hid (HL.out.below B0)
  have HF0 := Lib.hid F0
  have HB0 := Lib.hid B0
  have HP0 := Lib.hid p0
  have HQ0 := Lib.hid q0
  clear F0 p0 q0 B0 HL
  refine (K1.out W0 HL0.out w.heap.size (w.heap.size + 1) (w.heap.size + 1 + 1) HF0.out HP0.out (by omega) HQ0.out (by omega)).mono ?_
  rintro e w1 ⟨rfl, b1⟩
  have HBB := Lib.hid (HB0.out.trans (b1.mono HB0.out.size))
  have HF1 := Lib.hid (HF0.out.below b1 HF0.out.lt)
  have HP1 := Lib.hid ((b1.cell (p := ⟨w.heap.size + 1, 0, none⟩) (by simp; omega)).trans HP0.out)
  have HQ1 := Lib.hid ((b1.cell (p := ⟨w.heap.size + 1 + 1, 0, none⟩) (by simp; omega)).trans HQ0.out)
  have HL1 := Lib.hid (HL0.out.below b1)
  have z1 : W0.heap.size ≤ w1.heap.size := b1.size
  clear b1 K1 HF0 HP0 HQ0 HL0 HB0
  cases hr1 : R1 with
  | none =>
    obtain rfl := HE0.out hr1
    clear hr1
    go_wp2_with fail
    refine bodyPost_ret (v := .tuple #[.float .f32 0, .bool false]) (by simp [results, Try.results206, go_sem, *]) rfl ⟨rfl, HBB.out⟩
  | some p =>
    by_cases hz : zf t = true
    · obtain rfl := HE.out p hr1 hz
      have zz : (Go.FloatKind.f32.format.order t 0 == some .eq) = true := hz
      clear hr1 hz
      go_wp2_with fail
      refine bodyPost_ret (v := .tuple #[.float .f32 p, .bool true]) (by simp [results, Try.results206, go_sem, *]) rfl ⟨rfl, HBB.out⟩
    · have hz' : zf t = false := by simpa using hz
      have zz : (Go.FloatKind.f32.format.order t 0 == some .eq) = false := hz'
      have HR1 := Lib.hid hr1
      clear hr1 hz
      have HZ := Lib.hid hz'
      clear hz'
      have j3 : j + 1 ≤ 1099511627777 := by omega
      simp only [Option.getD_some, Option.isSome_some]
      go_wp2_with fail
      refine (K2.out w1 HL1.out w.heap.size (w.heap.size + 1) (w.heap.size + 1 + 1) HF1.out HP1.out (by omega) HQ1.out (by omega)).mono ?_
      rintro e w2 ⟨rfl, b2⟩
      have HB3 := Lib.hid (HBB.out.trans (b2.mono HBB.out.size))
      clear b2 K2
      cases hr2 : R2 with
      | none =>
        obtain rfl := HE1.out p HR1.out HZ.out hr2
        clear hr2
        go_wp2_with fail
        refine bodyPost_ret (v := .tuple #[.float .f32 0, .bool false]) (by simp [results, Try.results206, go_sem, *]) rfl ⟨rfl, HB3.out⟩
      | some q =>
        obtain rfl := HE2.out p q HR1.out HZ.out hr2
        have KM := Lib.hid (fun w' => mix_any 22 p q t w' (HB1.out p HR1.out) (HB2.out q hr2) HT.out (by omega))
        clear hr2
        generalize hmz : mixF p q t = z at *
        have HZZ := Lib.hid hmz
        clear hmz
        simp only [Option.getD_some, Option.isSome_some]
        go_wp2_with fail
        refine (KM.out _).mono ?_
        rintro e w3 ⟨rfl, rfl⟩
        go_wp2_with fail
        refine bodyPost_ret (v := .tuple #[.float .f32 z, .bool true]) (by simp [results, Try.results206, go_sem, *]) rfl ⟨by rw [HZZ.out]; rfl, HB3.out⟩
end Go.Proofs.Ytnfebeebjelgbaa

namespace Go.Proofs.Ytnfebeebjelgbaa
open Go.Shelf
open Go.ChangeShapes Go.WideShapes Go.ChangeAt Go.RowKit
open Ieee.Format (fin finE htE allFin allHt all_true all_false mulF subF addF Ht Bd mixF mix_bd shareF share_facts)
set_option linter.unusedVariables false

set_option maxRecDepth 100000 in
set_option maxHeartbeats 400000 in
theorem refrow_fn (X Y : Int) (Wn Hn : Nat) (b o c k p q : Nat) (i y : Int) (s : Nat) (l : List Nat) (w : World) (hl : SRow w (some ⟨b, o, none⟩) l) (hn : l.length = Hn * Wn) (hb : ∀ j, Bd 20 (l.getD j 0)) (hs : Bd 0 s) (hw : 1 ≤ Wn) (hw2 : Wn ≤ 512) (hh : 1 ≤ Hn) (hh2 : Hn ≤ 512) (hx0 : -8388608 ≤ X) (hx1 : X ≤ 8388608) (hy0 : -8388608 ≤ Y) (hy1 : Y ≤ 8388608)
    (hi1 : -1073741823 ≤ i) (hi2 : i ≤ 1073741823) (hj1 : -1073741823 ≤ y) (hj2 : y ≤ 1073741824) (hf : Fld w k X Y Wn Hn (.slice (some ⟨b, o, none⟩) l.length c)) (hp : w.cell? ⟨p, 0, none⟩ = some (.int .i64 i)) (pl : p < w.heap.size) (hq : w.cell? ⟨q, 0, none⟩ = some (.float .f32 s)) (ql : q < w.heap.size) :
    Calls Try.prog 210 #[.int .i64 y, .pointer (some ⟨k, 0, none⟩), .pointer (some ⟨p, 0, none⟩), .pointer (some ⟨q, 0, none⟩)] w fun e w' => e = .returned (.tuple #[.float .f32 ((rowV X Y Wn Hn l i y s).getD 0), .bool (rowV X Y Wn Hn l i y s).isSome]) ∧ Below w.heap.size w w' := by
  have kl := hf.lt
  obtain ⟨c0, c1, c2, c3, c4⟩ := hf.cells
  have HFL := Lib.hid hf
  have HL := Lib.hid hl
  have K1 := Lib.hid (fun w' a n c => there_any X Y Wn Hn i y a n c w' hw hw2 hh hh2 hx0 hx1 hy0 hy1 (by omega) (by omega) (by omega) (by omega))
  have K2 := Lib.hid (fun w' a n c => there_any X Y Wn Hn (i + 1) y a n c w' hw hw2 hh hh2 hx0 hx1 hy0 hy1 (by omega) (by omega) (by omega) (by omega))
  have KA : Hid (∀ w', SRow w' (some ⟨b, o, none⟩) l → X ≤ i → i < X + Wn → Y ≤ y → y < Y + Hn → Calls Try.prog 107 #[fldV X Y Wn Hn (some ⟨b, o, none⟩) l.length c, .int .i64 i, .int .i64 y] w' fun e w2 => e = .returned (.float .f32 (l.getD (cellNo X Y Wn i y).toNat 0)) ∧ Below w'.heap.size w' w2) := Lib.hid (fun w' hl g1 g2 g3 g4 => refat_any X Y Wn Hn i y b o c l w' hl (by rw [hn, Int.natCast_mul, Int.mul_comm]) (by omega) (by omega) (by omega) (by omega) hx0 hx1 hy0 hy1 g1 g2 g3 g4)
  have KB : Hid (∀ w', SRow w' (some ⟨b, o, none⟩) l → X ≤ i + 1 → i + 1 < X + Wn → Y ≤ y → y < Y + Hn → Calls Try.prog 107 #[fldV X Y Wn Hn (some ⟨b, o, none⟩) l.length c, .int .i64 (i + 1), .int .i64 y] w' fun e w2 => e = .returned (.float .f32 (l.getD (cellNo X Y Wn (i + 1) y).toNat 0)) ∧ Below w'.heap.size w' w2) := Lib.hid (fun w' hl g1 g2 g3 g4 => refat_any X Y Wn Hn (i + 1) y b o c l w' hl (by rw [hn, Int.natCast_mul, Int.mul_comm]) (by omega) (by omega) (by omega) (by omega) hx0 hx1 hy0 hy1 g1 g2 g3 g4)
  have HN := Lib.hid hn
  clear hf hl hn
  by_cases h1 : inR X Y Wn Hn i y
  · rw [decide_eq_true h1] at K1
    by_cases hz : zf s = true
    · have HR : Hid (rowV X Y Wn Hn l i y s = some (l.getD (cellNo X Y Wn i y).toNat 0)) := by unfold Hid rowV; rw [if_pos h1, if_pos hz]
      have zz : (Go.FloatKind.f32.format.order s 0 == some .eq) = true := hz
      have zn : (Go.FloatKind.f32.format.order s 0 != some .eq) = false := by rw [bne, zz]; rfl
      have KA' := Lib.hid (fun w' hl => KA.out w' hl h1.1 h1.2.1 h1.2.2.1 h1.2.2.2)
      clear hz h1 KA KB K2
      generalize rowV X Y Wn Hn l i y s = R at *
      obtain rfl := HR.out
      generalize hv : l.getD (cellNo X Y Wn i y).toNat 0 = v at *
      have HV := Lib.hid hv
      clear hv
      go_enter Try.func210, Try.ntmps210
      go_wp2_with fail
      refine (K1.out _ _ _ _).mono ?_
      rintro e w1 ⟨rfl, b1⟩
      have F1 := HFL.out.below b1 kl
      have HL1 := Lib.hid (HL.out.below b1)
      have q1 := (b1.cell (p := ⟨q, 0, none⟩) ql).trans hq
      have p1 := (b1.cell (p := ⟨p, 0, none⟩) pl).trans hp
      obtain ⟨d0, d1, d2, d3, d4⟩ := F1.cells
      have B1 := Lib.hid b1
      clear b1 F1 c0 c1 c2 c3 c4 hp hq HFL
      go_wp2_with fail
      refine (KA'.out _ HL1.out).mono ?_
      rintro e w2 ⟨rfl, b2⟩
      have B2 := Lib.hid (B1.out.trans (b2.mono B1.out.size))
      clear b2
      go_wp2_with fail
      refine bodyPost_ret (v := .tuple #[.float .f32 v, .bool true]) (by simp [results, Try.results210, go_sem, *]) rfl ⟨rfl, B2.out⟩
    · have zz : (Go.FloatKind.f32.format.order s 0 == some .eq) = false := by simpa [zf] using hz
      have zn : (Go.FloatKind.f32.format.order s 0 != some .eq) = true := by rw [bne, zz]; rfl
      have i3 : i + 1 ≤ 1073741824 := by omega
      by_cases h2 : inR X Y Wn Hn (i + 1) y
      · rw [decide_eq_true h2] at K2
        have HR : Hid (rowV X Y Wn Hn l i y s = some (mixF (l.getD (cellNo X Y Wn i y).toNat 0) (l.getD (cellNo X Y Wn (i + 1) y).toNat 0) s)) := by unfold Hid rowV; rw [if_pos h1, if_neg hz, if_pos h2]
        obtain ⟨vf, hvf⟩ : ∃ vf : Int → Nat, vf = fun i' => l.getD (cellNo X Y Wn i' y).toNat 0 := ⟨_, rfl⟩
        obtain ⟨g1, g2, g3, g4⟩ := h1
        have g5 : i + 1 < X + Wn := h2.2.1
        have KG : Hid (∀ (i' : Int) (w' : World), SRow w' (some ⟨b, o, none⟩) l → X ≤ i' → i' < X + Wn → Calls Try.prog 107 #[fldV X Y Wn Hn (some ⟨b, o, none⟩) l.length c, .int .i64 i', .int .i64 y] w' fun e w2 => e = .returned (.float .f32 (vf i')) ∧ Below w'.heap.size w' w2) := by
          intro i' w' hl' a1 a2
          rw [hvf]
          exact refat_any X Y Wn Hn i' y b o c l w' hl' (by rw [HN.out, Int.natCast_mul, Int.mul_comm]) (by omega) (by omega) (by omega) (by omega) hx0 hx1 hy0 hy1 a1 a2 g3 g4
        have KM : Hid (∀ (a d : Nat) (w' : World), Bd 20 a → Bd 20 d → Calls Try.prog 119 #[.float .f32 a, .float .f32 d, .float .f32 s] w' fun e w2 => e = .returned (.float .f32 (mixF a d s)) ∧ w' = w2) := fun a d w' ha hd => lerp_any 20 a d s w' ha hd hs (by omega)
        have HVB : Hid (∀ i', Bd 20 (vf i')) := by rw [hvf]; exact fun i' => hb _
        have wi : Hid (IntKind.i64.wrap (i + 1) = i + 1) := by unfold Hid; rw [IntKind.wrap_i64]; omega
        have HE : Hid (mixF (vf i) (vf (IntKind.i64.wrap (i + 1))) s = mixF (l.getD (cellNo X Y Wn i y).toNat 0) (l.getD (cellNo X Y Wn (i + 1) y).toNat 0) s) := by unfold Hid; rw [wi.out, hvf]
        clear hz h2 KA KB hb hs hvf
        generalize rowV X Y Wn Hn l i y s = R at *
        obtain rfl := HR.out
        go_enter Try.func210, Try.ntmps210
        go_wp2_with fail
        refine (K1.out _ _ _ _).mono ?_
        rintro e w1 ⟨rfl, b1⟩
        have F1 := HFL.out.below b1 kl
        have HL1 := Lib.hid (HL.out.below b1)
        have q1 := (b1.cell (p := ⟨q, 0, none⟩) ql).trans hq
        have p1 := (b1.cell (p := ⟨p, 0, none⟩) pl).trans hp
        have HF1 := Lib.hid F1
        obtain ⟨d0, d1, d2, d3, d4⟩ := F1.cells
        have B1 := Lib.hid b1
        have kl1 := F1.lt
        have z1 : w.heap.size ≤ w1.heap.size := b1.size
        clear b1 F1 c0 c1 c2 c3 c4 hp hq HFL
        go_wp2_with fail
        refine (K2.out _ _ _ _).mono ?_
        rintro e w2 ⟨rfl, b2⟩
        have F2 := HF1.out.below b2 kl1
        have HL2 := Lib.hid (HL1.out.below b2)
        have q2 := (b2.cell (p := ⟨q, 0, none⟩) (by simp; omega)).trans q1
        have p2 := (b2.cell (p := ⟨p, 0, none⟩) (by simp; omega)).trans p1
        have kl2 := F2.lt
        have z2 : w1.heap.size ≤ w2.heap.size := b2.size
        have hB2 := (B1.out.trans (b2.mono B1.out.size))
        have HB2 := Lib.hid hB2
        clear d0 d1 d2 d3 d4 q1 p1 b2 B1 HF1
        obtain ⟨c0, c1, c2, c3, c4⟩ := F2.cells
        clear F2
        go_wp2_with fail
        have hR2 := (Below.refl w2.heap.size w2)
        go_region_held3 (fun w' => w'.cell? ⟨k, 0, none⟩ = some (.int .i64 X) ∧ w'.cell? ⟨k, 1, none⟩ = some (.int .i64 Y) ∧ w'.cell? ⟨k, 2, none⟩ = some (.int .i64 Wn) ∧ w'.cell? ⟨k, 3, none⟩ = some (.int .i64 Hn) ∧ w'.cell? ⟨k, 4, none⟩ = some (.slice (some ⟨b, o, none⟩) l.length c) ∧ w'.cell? ⟨p, 0, none⟩ = some (.int .i64 i) ∧ w'.cell? ⟨q, 0, none⟩ = some (.float .f32 s) ∧ Below w2.heap.size w2 w')
          (first
            | exact ⟨c0, c1, c2, c3, c4, p2, q2, hR2.drew⟩
            | (go_split_ands
               have hs := (show Below w2.heap.size w2 _ by assumption).size
               refine ⟨?_, ?_, ?_, ?_, ?_, ?_, ?_, ?_⟩
               all_goals first
                 | (rw [hb.cell (by simp; omega)]; assumption)
                 | exact Below.trans (by assumption) (hb.mono (by omega)))
            | (go_split_ands; refine ⟨?_, ?_, ?_, ?_, ?_, ?_, ?_, ?_⟩ <;> assumption))
          (first
            | (go_at_call 107; go_split_ands; refine (KG.out _ _ (HL2.out.below (by assumption)) ?_ ?_).mono ?_ <;> first | omega | (rw [wi.out]; omega) | skip
               rintro e2 w2' ⟨rfl, hb⟩)
            | (go_at_call 119; refine (KM.out _ _ _ (HVB.out _) (HVB.out _)).mono ?_; rintro e2 w2' ⟨rfl, rfl⟩))
        rename_i hHeld
        obtain ⟨_, _, _, _, _, _, _, hB3⟩ := hHeld
        have B4 := Lib.hid (HB2.out.trans (hB3.mono HB2.out.size))
        clear hB3 hB2
        go_wp2_with fail
        refine bodyPost_ret (v := .tuple #[.float .f32 (mixF (vf i) (vf (IntKind.i64.wrap (i + 1))) s), .bool true]) (by simp [results, Try.results210, go_sem, *]) rfl ⟨by rw [HE.out]; rfl, B4.out⟩
      · rw [decide_eq_false h2] at K2
        have HR : Hid (rowV X Y Wn Hn l i y s = none) := by unfold Hid rowV; rw [if_pos h1, if_neg hz, if_neg h2]
        clear hz h1 h2 KA KB
        generalize rowV X Y Wn Hn l i y s = R at *
        obtain rfl := HR.out
        go_enter Try.func210, Try.ntmps210
        go_wp2_with fail
        refine (K1.out _ _ _ _).mono ?_
        rintro e w1 ⟨rfl, b1⟩
        have F1 := HFL.out.below b1 kl
        have q1 := (b1.cell (p := ⟨q, 0, none⟩) ql).trans hq
        have p1 := (b1.cell (p := ⟨p, 0, none⟩) pl).trans hp
        obtain ⟨d0, d1, d2, d3, d4⟩ := F1.cells
        have B1 := Lib.hid b1
        clear b1 F1 c0 c1 c2 c3 c4 hp hq HFL
        go_wp2_with fail
        refine (K2.out _ _ _ _).mono ?_
        rintro e w2 ⟨rfl, b2⟩
        have B2 := Lib.hid (B1.out.trans (b2.mono B1.out.size))
        clear b2
        go_wp2_with fail
        refine bodyPost_ret (v := .tuple #[.float .f32 0, .bool false]) (by simp [results, Try.results210, go_sem, *]) rfl ⟨rfl, B2.out⟩
  · rw [decide_eq_false h1] at K1
    have HR : Hid (rowV X Y Wn Hn l i y s = none) := by unfold Hid rowV; rw [if_neg h1]
    clear h1 KA KB K2
    generalize rowV X Y Wn Hn l i y s = R at *
    obtain rfl := HR.out
    go_enter Try.func210, Try.ntmps210
    go_wp2_with fail
    refine (K1.out _ _ _ _).mono ?_
    rintro e w1 ⟨rfl, b1⟩
    have B1 := Lib.hid b1
    clear b1
    go_wp2_with fail
    refine bodyPost_ret (v := .tuple #[.float .f32 0, .bool false]) (by simp [results, Try.results210, go_sem, *]) rfl ⟨rfl, B1.out⟩
end Go.Proofs.Ytnfebeebjelgbaa

namespace Go.Proofs.Ytnfebeebjelgbaa
open Go.Shelf
open Go.ChangeShapes Go.WideShapes Go.ChangeAt Go.RowKit
open Ieee.Format (fin finE htE allFin allHt all_true all_false mulF subF addF Ht Bd mixF mix_bd shareF share_facts)
set_option linter.unusedVariables false

theorem out_one (W : World) (g x : Nat) (hx : x < 4294967296) (h0 : W.cell? ⟨g, 0, none⟩ = some (.float .f32 x)) :
    Calls Try.prog 199 #[.slice (some ⟨g, 0, none⟩) 1 1] W fun e w' => e = .returned (.int .i64 (outE [x])) ∧ W = w' := by
  refine out_any (some ⟨g, 0, none⟩) 1 [x] W ⟨⟨by simp, by simp; exact hx⟩, .inr ⟨g, 0, rfl, ?_⟩⟩
  intro i hi
  obtain rfl : i = 0 := by simp at hi; omega
  exact h0
/-- the error of a value that may not be there -/
def bilC : Option Nat → Int
  | none => 5
  | some v => outE [v]
theorem rowV_lt {X Y : Int} {Wn Hn : Nat} {l : List Nat} {i y : Int} {s v : Nat} (hl : ∀ x ∈ l, x < 4294967296) (h : rowV X Y Wn Hn l i y s = some v) : v < 4294967296 := by
  unfold rowV at h
  split at h
  · split at h
    · cases h
      rcases Nat.lt_or_ge (cellNo X Y Wn i y).toNat l.length with hlt | hge
      · rw [List.getD_eq_getElem?_getD, List.getElem?_eq_getElem hlt]; exact hl _ (List.getElem_mem hlt)
      · rw [List.getD_eq_getElem?_getD, List.getElem?_eq_none hge]; show (0 : Nat) < 4294967296; decide
    · split at h
      · cases h; exact Ieee.Format.mixF_lt _ _ _
      · cases h
  · cases h

set_option maxRecDepth 100000 in
theorem bilinear_any (X Y : Int) (Wn Hn : Nat) (b o c : Nat) (i j : Int) (s t : Nat) (l : List Nat) (w : World) (hl : SRow w (some ⟨b, o, none⟩) l) (hn : l.length = Hn * Wn) (hb : ∀ j, Bd 20 (l.getD j 0)) (hs : Bd 0 s) (ht : Bd 0 t) (hw : 1 ≤ Wn) (hw2 : Wn ≤ 512) (hh : 1 ≤ Hn) (hh2 : Hn ≤ 512) (hx0 : -8388608 ≤ X) (hx1 : X ≤ 8388608) (hy0 : -8388608 ≤ Y) (hy1 : Y ≤ 8388608)
    (hi1 : -1073741823 ≤ i) (hi2 : i ≤ 1073741823) (hj1 : -1073741823 ≤ j) (hj2 : j ≤ 1073741823) :
    Calls Try.prog 143 #[fldV X Y Wn Hn (some ⟨b, o, none⟩) l.length c, .int .i64 i, .int .i64 j, .float .f32 s, .float .f32 t] w fun e w' => e = .returned (.tuple #[.float .f32 ((bilV X Y Wn Hn l i j s t).getD 0), .int .i64 (bilC (bilV X Y Wn Hn l i j s t))]) ∧ Below w.heap.size w w' := by
  have HL := Lib.hid hl
  have HB1 := Lib.hid (fun p h => rowV_bd (X := X) (Y := Y) (Wn := Wn) (Hn := Hn) (l := l) (i := i) (y := j) (s := s) (v := p) hb hs h)
  have HB2 := Lib.hid (fun p h => rowV_bd (X := X) (Y := Y) (Wn := Wn) (Hn := Hn) (l := l) (i := i) (y := j + 1) (s := s) (v := p) hb hs h)
  have HT := Lib.hid ht
  have HE : Hid (∀ p, rowV X Y Wn Hn l i j s = some p → zf t = true → bilV X Y Wn Hn l i j s t = some p) := fun p h1 h2 => by unfold bilV; rw [h1]; simp [h2]
  have HE0 : Hid (rowV X Y Wn Hn l i j s = none → bilV X Y Wn Hn l i j s t = none) := fun h1 => by unfold bilV; rw [h1]
  have HE1 : Hid (∀ p, rowV X Y Wn Hn l i j s = some p → zf t = false → rowV X Y Wn Hn l i (j + 1) s = none → bilV X Y Wn Hn l i j s t = none) := fun p h1 h2 h3 => by unfold bilV; rw [h1]; simp [h2, h3]
  have HE2 : Hid (∀ p q, rowV X Y Wn Hn l i j s = some p → zf t = false → rowV X Y Wn Hn l i (j + 1) s = some q → bilV X Y Wn Hn l i j s t = some (mixF p q t)) := fun p q h1 h2 h3 => by unfold bilV; rw [h1]; simp [h2, h3]
  have K1 := Lib.hid (fun w' hl k p q hf hp pl hq ql => refrow_fn X Y Wn Hn b o c k p q i j s l w' hl hn hb hs hw hw2 hh hh2 hx0 hx1 hy0 hy1 hi1 hi2 hj1 (by omega) hf hp pl hq ql)
  have K2 := Lib.hid (fun w' hl k p q hf hp pl hq ql => refrow_fn X Y Wn Hn b o c k p q i (j + 1) s l w' hl hn hb hs hw hw2 hh hh2 hx0 hx1 hy0 hy1 hi1 hi2 (by omega) (by omega) hf hp pl hq ql)
  have HLT := Lib.hid (fun p h => rowV_lt (X := X) (Y := Y) (Wn := Wn) (Hn := Hn) (l := l) (i := i) (y := j) (s := s) (v := p) hl.1.2 h)
  clear hb hs ht hl hn
  generalize rowV X Y Wn Hn l i j s = R1 at *
  generalize rowV X Y Wn Hn l i (j + 1) s = R2 at *
  generalize bilV X Y Wn Hn l i j s t = R at *
  go_enter Try.func143, Try.ntmps143
  go_wp2_with fail
  generalize hW0 : ((w.alloc (.cells #[.int .i64 X, .int .i64 Y, .int .i64 Wn, .int .i64 Hn, .slice (some ⟨b, o, none⟩) l.length c] /-T-/36)).alloc (.cells #[.int .i64 i] /-T-/3)).alloc (.cells #[.float .f32 s] /-T-/37) = W0 at *
  obtain ⟨F0, p0, q0, B0, z0⟩ := bil_world w X Y Wn Hn _ i s W0 hW0.symm
  clear hW0
  have HL0 := Lib.hid (HL.out.below B0)
  have HF0 := Lib.hid F0
  have HB0 := Lib.hid B0
  have HP0 := Lib.hid p0
  have HQ0 := Lib.hid q0
  clear F0 p0 q0 B0 HL
  refine (K1.out W0 HL0.out w.heap.size (w.heap.size + 1) (w.heap.size + 1 + 1) HF0.out HP0.out (by omega) HQ0.out (by omega)).mono ?_
  rintro e w1 ⟨rfl, b1⟩
  have HBB := Lib.hid (HB0.out.trans (b1.mono HB0.out.size))
  have HF1 := Lib.hid (HF0.out.below b1 HF0.out.lt)
  have HP1 := Lib.hid ((b1.cell (p := ⟨w.heap.size + 1, 0, none⟩) (by simp; omega)).trans HP0.out)
  have HQ1 := Lib.hid ((b1.cell (p := ⟨w.heap.size + 1 + 1, 0, none⟩) (by simp; omega)).trans HQ0.out)
  have HL1 := Lib.hid (HL0.out.below b1)
  have z1 : W0.heap.size ≤ w1.heap.size := b1.size
  clear b1 K1 HF0 HP0 HQ0 HL0 HB0
  cases hr1 : R1 with
  | none =>
    obtain rfl := HE0.out hr1
    clear hr1
    go_wp2_with fail
    refine bodyPost_ret (v := .tuple #[.float .f32 0, .int .i64 5]) (by simp [results, Try.results143, go_sem, *]) rfl ⟨rfl, HBB.out⟩
  | some p =>
    by_cases hz : zf t = true
    · obtain rfl := HE.out p hr1 hz
      have zz : (Go.FloatKind.f32.format.order t 0 == some .eq) = true := hz
      have KO := Lib.hid (fun W g h0 => out_one W g p (HLT.out p hr1) h0)
      clear hr1 hz
      simp only [Option.getD_some, Option.isSome_some]
      go_wp2_with fail
      refine (KO.out _ _ (by simp [go_sem])).mono ?_
      rintro e w3 ⟨rfl, rfl⟩
      have hB := HBB.out
      generalize hoe : outE [p] = oe at *
      have HOE := Lib.hid hoe
      clear hoe
      go_wp2_with fail
      refine bodyPost_ret (v := .tuple #[.float .f32 p, .int .i64 oe]) (by simp [results, Try.results143, go_sem, *]) rfl ⟨by rw [← HOE.out]; rfl, (by have hszz := hB.size; repeat (first | with_reducible exact hB | with_reducible apply Below.drew | with_reducible refine below_drewN ?_ _ | (with_reducible refine Below.setCell ?_ ?_ _; rotate_left; focus (first | omega | (simp <;> omega))) | (with_reducible refine Below.alloc ?_ ?_ _; rotate_left; focus (first | omega | (simp <;> omega)))))⟩
    · have hz' : zf t = false := by simpa using hz
      have zz : (Go.FloatKind.f32.format.order t 0 == some .eq) = false := hz'
      have HR1 := Lib.hid hr1
      clear hr1 hz
      have HZ := Lib.hid hz'
      clear hz'
      have j3 : j + 1 ≤ 1099511627777 := by omega
      simp only [Option.getD_some, Option.isSome_some]
      go_wp2_with fail
      refine (K2.out w1 HL1.out w.heap.size (w.heap.size + 1) (w.heap.size + 1 + 1) HF1.out HP1.out (by omega) HQ1.out (by omega)).mono ?_
      rintro e w2 ⟨rfl, b2⟩
      have HB3 := Lib.hid (HBB.out.trans (b2.mono HBB.out.size))
      clear b2 K2
      cases hr2 : R2 with
      | none =>
        obtain rfl := HE1.out p HR1.out HZ.out hr2
        clear hr2
        go_wp2_with fail
        refine bodyPost_ret (v := .tuple #[.float .f32 0, .int .i64 5]) (by simp [results, Try.results143, go_sem, *]) rfl ⟨rfl, HB3.out⟩
      | some q =>
        obtain rfl := HE2.out p q HR1.out HZ.out hr2
        have KM := Lib.hid (fun w' => lerp_any 22 p q t w' (HB1.out p HR1.out) (HB2.out q hr2) HT.out (by omega))
        clear hr2
        generalize hmz : mixF p q t = z at *
        have HZZ := Lib.hid hmz
        clear hmz
        simp only [Option.getD_some, Option.isSome_some]
        have KO := Lib.hid (fun W g h0 => out_one W g z (by rw [← HZZ.out]; exact Ieee.Format.mixF_lt _ _ _) h0)
        go_wp2_with fail
        refine (KM.out _).mono ?_
        rintro e w3 ⟨rfl, rfl⟩
        go_wp2_with fail
        refine (KO.out _ _ (by simp [go_sem])).mono ?_
        rintro e w3 ⟨rfl, rfl⟩
        have hB := HB3.out
        generalize hoe : outE [z] = oe at *
        have HOE := Lib.hid hoe
        clear hoe
        go_wp2_with fail
        refine bodyPost_ret (v := .tuple #[.float .f32 z, .int .i64 oe]) (by simp [results, Try.results143, go_sem, *]) rfl ⟨by rw [← HOE.out, ← HZZ.out]; rfl, (by have hszz := hB.size; repeat (first | with_reducible exact hB | with_reducible apply Below.drew | with_reducible refine below_drewN ?_ _ | (with_reducible refine Below.setCell ?_ ?_ _; rotate_left; focus (first | omega | (simp <;> omega))) | (with_reducible refine Below.alloc ?_ ?_ _; rotate_left; focus (first | omega | (simp <;> omega)))))⟩
end Go.Proofs.Ytnfebeebjelgbaa
