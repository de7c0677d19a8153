import Derived.Test.YtgeeaegnohdejaaAround
import Derived.Test.YtgeeaegnohdejaaFloatI
import Derived.Test.YtgeeaegnohdejaaRefScale
import Derived.Test.YtgeeaegnohdejaaRegB
import Derived.Deep.RegionHeld3
import Derived.BigQuiet
namespace Go.Proofs.Ytgeeaegnohdejaa
open Go.Shelf
open Go.ChangeShapes Go.WideShapes Go.ChangeAt Go.RowKit
open Ieee.Format (fin finE htE allFin allHt all_true all_false mulF subF addF Ht Bd)
set_option linter.unusedVariables false

theorem tdiv_floor (a b : Int) (hb : 0 < b) : (a.tmod b < 0 → a.tdiv b - 1 = a / b ∧ a.tmod b + b = a % b) ∧ (¬ a.tmod b < 0 → a.tdiv b = a / b ∧ a.tmod b = a % b) := by
  have h1 := Int.mul_tdiv_add_tmod a b
  have h2 := Int.tmod_lt_of_pos a hb
  have h3 := Int.lt_tmod_of_pos a hb
  constructor
  · intro h
    have := (Int.ediv_emod_unique (a := a) (b := b) (r := a.tmod b + b) (q := a.tdiv b - 1) hb).2 ⟨by rw [Int.mul_sub, Int.mul_one]; omega, by omega, by omega⟩
    exact ⟨this.1.symm, this.2.symm⟩
  · intro h
    have := (Int.ediv_emod_unique (a := a) (b := b) (r := a.tmod b) (q := a.tdiv b) hb).2 ⟨by omega, by omega, h2⟩
    exact ⟨this.1.symm, this.2.symm⟩
theorem ediv_small (a b c : Int) (hb : 0 < b) (h1 : -c ≤ a) (h2 : a ≤ c) (hc : 0 ≤ c) : -c ≤ a / b ∧ a / b ≤ c := by
  have e := Int.mul_ediv_add_emod a b
  have m0 := Int.emod_nonneg a (show b ≠ 0 by omega)
  have m1 := Int.emod_lt_of_pos a hb
  constructor
  · refine (Int.le_ediv_iff_mul_le hb).2 ?_
    have := Int.mul_le_mul_of_nonneg_left (show 1 ≤ b by omega) hc
    rw [Int.neg_mul]; omega
  · by_cases h : a / b ≤ c
    · exact h
    · exfalso
      have := Int.mul_le_mul_of_nonneg_left (show c + 1 ≤ a / b by omega) (show 0 ≤ b by omega)
      have h3 := Int.mul_le_mul_of_nonneg_right (show 1 ≤ b by omega) (show 0 ≤ c + 1 by omega)
      omega

theorem divided_any (a b : Int) (w : World) (hb : 0 < b) (hb2 : b ≤ 64) (ha : -1099511627776 ≤ a) (ha2 : a ≤ 1099511627776) :
    Calls Try.prog 109 #[.int .i64 a, .int .i64 b] w fun e w' => e = .returned (.tuple #[.int .i64 (a / b), .int .i64 (a % b)]) ∧ Below w.heap.size w w' := by
  obtain ⟨f1, f2⟩ := tdiv_floor a b hb
  have h2 := Int.tmod_lt_of_pos a hb
  have h3 := Int.lt_tmod_of_pos a hb
  have h4 := Int.natAbs_tdiv_le_natAbs a b
  have n0 : b ≠ 0 := by omega
  have g1 : -1099511627776 ≤ a.tdiv b := by omega
  have g2 : a.tdiv b ≤ 1099511627776 := by omega
  have HF1 := Lib.hid f1
  have HF2 := Lib.hid f2
  clear f1 f2 h4
  generalize hq : a.tdiv b = q at *
  generalize hm : a.tmod b = m at *
  by_cases h : m < 0
  · obtain ⟨e1, e2⟩ := HF1.out h
    have E1 := Lib.hid e1
    have E2 := Lib.hid e2
    clear e1 e2 HF1 HF2
    go_enter Try.func109, Try.ntmps109
    go_wp2_with fail
    go_quiet (fail)
    go_wp2_with fail
    refine bodyPost_ret (v := .tuple #[.int .i64 (q - 1), .int .i64 (m + b)]) (by simp [results, Try.results109, go_sem]) rfl ⟨by rw [E1.out, E2.out], (by repeat (first | with_reducible exact Below.refl _ _ | with_reducible apply Below.drew | with_reducible refine below_drewN ?_ _ | (with_reducible refine Below.setCell ?_ ?_ _; rotate_left; focus (first | omega | (simp <;> omega))) | (with_reducible refine Below.alloc ?_ ?_ _; rotate_left; focus (first | omega | (simp <;> omega)))))⟩
  · obtain ⟨e1, e2⟩ := HF2.out h
    have E1 := Lib.hid e1
    have E2 := Lib.hid e2
    clear e1 e2 HF1 HF2
    go_enter Try.func109, Try.ntmps109
    go_wp2_with fail
    go_quiet (fail)
    go_wp2_with fail
    refine bodyPost_ret (v := .tuple #[.int .i64 q, .int .i64 m]) (by simp [results, Try.results109, go_sem]) rfl ⟨by rw [E1.out, E2.out], (by repeat (first | with_reducible exact Below.refl _ _ | with_reducible apply Below.drew | with_reducible refine below_drewN ?_ _ | (with_reducible refine Below.setCell ?_ ?_ _; rotate_left; focus (first | omega | (simp <;> omega))) | (with_reducible refine Below.alloc ?_ ?_ _; rotate_left; focus (first | omega | (simp <;> omega)))))⟩

theorem quotient_any (n num den : Int) (w : World) (hb : 0 < den) (hb2 : den ≤ 64) (hn : 0 < num) (hn2 : num ≤ 64) (ha : -16777216 ≤ n) (ha2 : n ≤ 16777216) :
    Calls Try.prog 88 #[.int .i64 n, .int .i64 num, .int .i64 den] w fun e w' => e = .returned (.tuple #[.int .i64 (n * num / den), .int .i64 (n * num % den)]) ∧ Below w.heap.size w w' := by
  have p1 := Int.mul_le_mul_of_nonneg_right ha2 (show 0 ≤ num by omega)
  have p2 := Int.mul_le_mul_of_nonneg_right ha (show 0 ≤ num by omega)
  generalize hp : n * num = p at *
  have p3 : -1073741824 ≤ p := by omega
  have p4 : p ≤ 1073741824 := by omega
  clear p1 p2
  obtain ⟨f1, f2⟩ := tdiv_floor p den hb
  have h1 := Int.mul_ediv_add_emod p den
  have h2 := Int.tmod_lt_of_pos p hb
  have h3 := Int.lt_tmod_of_pos p hb
  have h4 := Int.natAbs_tdiv_le_natAbs p den
  have n0 : den ≠ 0 := by omega
  obtain ⟨s1, s2⟩ := ediv_small p den 1073741824 hb p3 p4 (by omega)
  have m1 := Int.emod_nonneg p n0
  have m2 := Int.emod_lt_of_pos p hb
  have g1 : -1073741824 ≤ p.tdiv den := by omega
  have g2 : p.tdiv den ≤ 1073741824 := by omega
  have h1' : p - p / den * den = p % den := by rw [Int.mul_comm (p / den)]; omega
  have E3 := Lib.hid h1'
  have HF1 := Lib.hid f1
  have HF2 := Lib.hid f2
  have p5 : -1073741888 ≤ p / den * den := by omega
  have p6 : p / den * den ≤ 1073741824 := by omega
  clear f1 f2 h4 h1 h1'
  generalize hq : p.tdiv den = q at *
  generalize hm : p.tmod den = m at *
  by_cases h : m < 0
  · obtain ⟨e1, e2⟩ := HF1.out h
    rw [← E3.out, ← e1]
    rw [← e1] at p5 p6
    clear e2 HF1 HF2 e1 E3 s1 s2
    generalize hr : (q - 1) * den = r at *
    go_enter Try.func88, Try.ntmps88
    go_wp2_with fail
    refine bodyPost_ret (v := .tuple #[.int .i64 (q - 1), .int .i64 (p - r)]) (by simp [results, Try.results88, go_sem]) rfl ⟨rfl, (by repeat (first | with_reducible exact Below.refl _ _ | with_reducible apply Below.drew | with_reducible refine below_drewN ?_ _ | (with_reducible refine Below.setCell ?_ ?_ _; rotate_left; focus (first | omega | (simp <;> omega))) | (with_reducible refine Below.alloc ?_ ?_ _; rotate_left; focus (first | omega | (simp <;> omega)))))⟩
  · obtain ⟨e1, e2⟩ := HF2.out h
    rw [← E3.out, ← e1]
    rw [← e1] at p5 p6
    clear e2 HF1 HF2 e1 E3 s1 s2
    generalize hr : q * den = r at *
    go_enter Try.func88, Try.ntmps88
    go_wp2_with fail
    refine bodyPost_ret (v := .tuple #[.int .i64 q, .int .i64 (p - r)]) (by simp [results, Try.results88, go_sem]) rfl ⟨rfl, (by repeat (first | with_reducible exact Below.refl _ _ | with_reducible apply Below.drew | with_reducible refine below_drewN ?_ _ | (with_reducible refine Below.setCell ?_ ?_ _; rotate_left; focus (first | omega | (simp <;> omega))) | (with_reducible refine Below.alloc ?_ ?_ _; rotate_left; focus (first | omega | (simp <;> omega)))))⟩
end Go.Proofs.Ytgeeaegnohdejaa
