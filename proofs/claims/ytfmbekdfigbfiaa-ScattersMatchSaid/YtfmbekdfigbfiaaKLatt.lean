import Derived.Test.YtfmbekdfigbfiaaJA
import Derived.Test.YtfmbekdfigbfiaaM8
import Derived.BigQuiet
namespace Go.Proofs.Ytfmbekdfigbfiaa
open Go.ChangeShapes Go.WideShapes Go.ChangeAt Go.RowKit
open Ieee.Format (fin finE htE allFin allHt all_true all_false mulF subF addF Ht Bd divF rootF floorF easeF mixF)
set_option linter.unusedVariables false

theorem lat_any (a b : Int) (w : World) (hb : 0 < b) (hb2 : b ≤ 16777216) (ha : -1099511627776 ≤ a) (ha2 : a ≤ 1099511627776) :
    Calls Try.prog 115 #[.int .i64 a, .int .i64 b] w fun e w' => e = .returned (.tuple #[.int .i64 (a / b), .int .i64 (a % b)]) ∧ Below w.heap.size w w' := by
  obtain ⟨f1, f2⟩ := tdiv_floor a b hb
  have h2 := Int.tmod_lt_of_pos a hb
  have h3 := Int.lt_tmod_of_pos a hb
  have h4 := Int.natAbs_tdiv_le_natAbs a b
  have n0 : b ≠ 0 := by omega
  have g1 : -1099511627776 ≤ a.tdiv b := by omega
  have g2 : a.tdiv b ≤ 1099511627776 := by omega
  have HF1 := Lib.hid f1
  have HF2 := Lib.hid f2
  clear f1 f2 h4
  generalize hq : a.tdiv b = q at *
  generalize hm : a.tmod b = m at *
  by_cases h : m < 0
  · obtain ⟨e1, e2⟩ := HF1.out h
    have E1 := Lib.hid e1
    have E2 := Lib.hid e2
    clear e1 e2 HF1 HF2
    go_enter Try.func115, Try.ntmps115
    go_wp2_with fail
    go_quiet (fail)
    go_wp2_with fail
    refine bodyPost_ret (v := .tuple #[.int .i64 (q - 1), .int .i64 (m + b)]) (by simp [results, Try.results115, go_sem]) rfl ⟨by rw [E1.out, E2.out], (by repeat (first | with_reducible exact Below.refl _ _ | with_reducible apply Below.drew | with_reducible refine below_drewN ?_ _ | (with_reducible refine Below.setCell ?_ ?_ _; rotate_left; focus (first | omega | (simp <;> omega))) | (with_reducible refine Below.alloc ?_ ?_ _; rotate_left; focus (first | omega | (simp <;> omega)))))⟩
  · obtain ⟨e1, e2⟩ := HF2.out h
    have E1 := Lib.hid e1
    have E2 := Lib.hid e2
    clear e1 e2 HF1 HF2
    go_enter Try.func115, Try.ntmps115
    go_wp2_with fail
    go_quiet (fail)
    go_wp2_with fail
    refine bodyPost_ret (v := .tuple #[.int .i64 q, .int .i64 m]) (by simp [results, Try.results115, go_sem]) rfl ⟨by rw [E1.out, E2.out], (by repeat (first | with_reducible exact Below.refl _ _ | with_reducible apply Below.drew | with_reducible refine below_drewN ?_ _ | (with_reducible refine Below.setCell ?_ ?_ _; rotate_left; focus (first | omega | (simp <;> omega))) | (with_reducible refine Below.alloc ?_ ?_ _; rotate_left; focus (first | omega | (simp <;> omega)))))⟩

theorem quo_any (p den : Int) (w : World) (hb : 0 < den) (hb2 : den ≤ 16777216) (p3 : -1099511627776 ≤ p) (p4 : p ≤ 1099511627776) :
    Calls Try.prog 123 #[.int .i64 p, .int .i64 1, .int .i64 den] w fun e w' => e = .returned (.tuple #[.int .i64 (p / den), .int .i64 (p % den)]) ∧ Below w.heap.size w w' := by
  obtain ⟨f1, f2⟩ := tdiv_floor p den hb
  have h1 := Int.mul_ediv_add_emod p den
  have h2 := Int.tmod_lt_of_pos p hb
  have h3 := Int.lt_tmod_of_pos p hb
  have h4 := Int.natAbs_tdiv_le_natAbs p den
  have n0 : den ≠ 0 := by omega
  obtain ⟨s1, s2⟩ := ediv_small p den 1099511627776 hb p3 p4 (by omega)
  have m1 := Int.emod_nonneg p n0
  have m2 := Int.emod_lt_of_pos p hb
  have g1 : -1099511627776 ≤ p.tdiv den := by omega
  have g2 : p.tdiv den ≤ 1099511627776 := by omega
  have h1' : p - p / den * den = p % den := by rw [Int.mul_comm (p / den)]; omega
  have E3 := Lib.hid h1'
  have HF1 := Lib.hid f1
  have HF2 := Lib.hid f2
  have p5 : -1099528404992 ≤ p / den * den := by omega
  have p6 : p / den * den ≤ 1099511627776 := by omega
  have o1 : p * 1 = p := Int.mul_one p
  clear f1 f2 h4 h1 h1'
  generalize hq : p.tdiv den = q at *
  generalize hm : p.tmod den = m at *
  by_cases h : m < 0
  · obtain ⟨e1, e2⟩ := HF1.out h
    rw [← E3.out, ← e1]
    rw [← e1] at p5 p6
    clear e2 HF1 HF2 e1 E3 s1 s2
    generalize hr : (q - 1) * den = r at *
    go_enter Try.func123, Try.ntmps123
    go_wp2_with fail
    refine bodyPost_ret (v := .tuple #[.int .i64 (q - 1), .int .i64 (p - r)]) (by simp [results, Try.results123, go_sem]) rfl ⟨rfl, (by repeat (first | with_reducible exact Below.refl _ _ | with_reducible apply Below.drew | with_reducible refine below_drewN ?_ _ | (with_reducible refine Below.setCell ?_ ?_ _; rotate_left; focus (first | omega | (simp <;> omega))) | (with_reducible refine Below.alloc ?_ ?_ _; rotate_left; focus (first | omega | (simp <;> omega)))))⟩
  · obtain ⟨e1, e2⟩ := HF2.out h
    rw [← E3.out, ← e1]
    rw [← e1] at p5 p6
    clear e2 HF1 HF2 e1 E3 s1 s2
    generalize hr : q * den = r at *
    go_enter Try.func123, Try.ntmps123
    go_wp2_with fail
    refine bodyPost_ret (v := .tuple #[.int .i64 q, .int .i64 (p - r)]) (by simp [results, Try.results123, go_sem]) rfl ⟨rfl, (by repeat (first | with_reducible exact Below.refl _ _ | with_reducible apply Below.drew | with_reducible refine below_drewN ?_ _ | (with_reducible refine Below.setCell ?_ ?_ _; rotate_left; focus (first | omega | (simp <;> omega))) | (with_reducible refine Below.alloc ?_ ?_ _; rotate_left; focus (first | omega | (simp <;> omega)))))⟩
end Go.Proofs.Ytfmbekdfigbfiaa
