import Derived.Test.YtfmbekdfigbfiaaKScatF
import Derived.Test.YtfmbekdfigbfiaaJM
import Derived.Test.YtfmbekdfigbfiaaKCelMem
import Derived.Test.YtfmbekdfigbfiaaKLatt
import Derived.Test.YtfmbekdfigbfiaaKDithFn
import Derived.Test.YtfmbekdfigbfiaaKWear
import Derived.Test.YtfmbekdfigbfiaaEase
import Derived.Deep.DeepCutAuto
namespace Go.Proofs.Ytfmbekdfigbfiaa
open Go.ChangeShapes Go.WideShapes Go.ChangeAt Go.RowKit
open Ieee.Format (fin finE htE allFin allHt all_true all_false mulF subF addF Ht Bd divF rootF floorF easeF mixF)
set_option linter.unusedVariables false
open Wide Go.Sort

/-! ### scatters: the check, the comparison -/
def scE (cell : Int) (sh : Nat) (ap : Int) : Int := if cell < 1 then 3 else if 256 < cell then 3 else if shareE sh ≠ 0 then shareE sh else if ap < 0 then 3 else if 2 * cell < ap then 3 else 0
def scC (seed cell : Int) (sh : Nat) (ap : Int) : Array Value := #[.int .u32 seed, .int .i64 cell, .float .f32 sh, .int .i64 ap]
def scV (seed cell : Int) (sh : Nat) (ap : Int) : Value := .agg (scC seed cell sh ap)
theorem shareE_two' (t : Nat) : shareE2 t 1065353216 = shareE t := by
  unfold shareE2 shareE
  by_cases hf : fin Ieee.single t
  · rw [if_pos hf]
    by_cases ht : htE [t] = 0
    · rw [if_neg (by omega)]
      cases lss t 0 <;> cases gtr t 1065353216 <;> rfl
    · rw [if_pos ht]
      have a1 : allFin [t] = true := by unfold allFin; simp [hf]
      have n1 : ¬ Ht t := fun hc => ht (Ieee.Format.htE_of_ht (Ieee.Format.allHt_iff.2 (by simpa using hc)))
      have h3 : htE [t] = 3 := Ieee.Format.htE_far a1 (by cases hh : allHt [t]; rfl; exact absurd (Ieee.Format.allHt_iff.1 hh t (by simp)) n1)
      rw [h3]
      cases h : (lss t 0 || gtr t 1065353216) with
      | true => rfl
      | false =>
        exfalso
        rw [Bool.or_eq_false_iff] at h
        obtain ⟨l1, l2⟩ := h
        rw [lss_V hf Ieee.Format.const_0.1, Ieee.Format.const_0.2.1] at l1
        rw [gtr_V hf Ieee.Format.const_1.1, Ieee.Format.const_1.2.1] at l2
        have l1 := of_decide_eq_false l1
        have l2 := of_decide_eq_false l2
        have p : (1 : Rat) ≤ Ieee.P2 20 := by rw [show Ieee.P2 20 = ((2 ^ 20 : Nat) : Rat) from Ieee.P2_nat 20]; decide
        exact n1 (Ieee.Format.Ht.of ⟨by grind, by grind⟩)
  · rw [if_neg hf]
    have h0 : htE [t] = 2 := Ieee.Format.htE_bad (by unfold allFin; simp [hf])
    rw [h0]; rfl
set_option maxRecDepth 100000 in
theorem chksc_any (seed cell : Int) (sh : Nat) (ap : Int) (hs : sh < 4294967296) (w : World) :
    Calls Try.prog 45 #[scV seed cell sh ap] w fun e w' => e = .returned (.int .i64 (scE cell sh ap)) ∧ Below w.heap.size w w' := by
  have K := Lib.hid (fun w => share_any sh hs w)
  have BA : Below w.heap.size w (w.alloc (.cells #[.int .u32 seed, .int .i64 cell, .float .f32 sh, .int .i64 ap] 93)) := (by repeat (first | with_reducible exact Below.refl _ _ | with_reducible apply Below.drew | with_reducible refine below_drewN ?_ _ | (with_reducible refine Below.setCell ?_ ?_ _; rotate_left; focus (first | omega | (simp <;> omega))) | (with_reducible refine Below.alloc ?_ ?_ _; rotate_left; focus (first | omega | (simp <;> omega)))))
  have HBL : Hid (Blk (w.alloc (.cells #[.int .u32 seed, .int .i64 cell, .float .f32 sh, .int .i64 ap] 93)) w.heap.size #[.int .u32 seed, .int .i64 cell, .float .f32 sh, .int .i64 ap] 93) := Lib.hid (Blk.new _ _ _)
  unfold scV scC scE
  by_cases h1 : cell < 1
  · rw [if_pos h1]
    go_enter Try.func45, Try.ntmps45
    go_wp2_with fail
    go_ret
    exact ⟨rfl, (by repeat (first | with_reducible exact Below.refl _ _ | with_reducible apply Below.drew | with_reducible refine below_drewN ?_ _ | (with_reducible refine Below.setCell ?_ ?_ _; rotate_left; focus (first | omega | (simp <;> omega))) | (with_reducible refine Below.alloc ?_ ?_ _; rotate_left; focus (first | omega | (simp <;> omega)))))⟩
  rw [if_neg h1]
  by_cases h2 : 256 < cell
  · rw [if_pos h2]
    go_enter Try.func45, Try.ntmps45
    go_wp2_with fail
    go_ret
    exact ⟨rfl, (by repeat (first | with_reducible exact Below.refl _ _ | with_reducible apply Below.drew | with_reducible refine below_drewN ?_ _ | (with_reducible refine Below.setCell ?_ ?_ _; rotate_left; focus (first | omega | (simp <;> omega))) | (with_reducible refine Below.alloc ?_ ?_ _; rotate_left; focus (first | omega | (simp <;> omega)))))⟩
  rw [if_neg h2]
  by_cases h3 : shareE sh = 0
  · rw [if_neg (show ¬ shareE sh ≠ 0 by omega)]
    rw [h3] at K
    by_cases h4 : ap < 0
    · rw [if_pos h4]
      go_enter Try.func45, Try.ntmps45
      go_wp2_with fail
      generalize w.alloc (.cells #[.int .u32 seed, .int .i64 cell, .float .f32 sh, .int .i64 ap] 93) = W0 at *
      refine (K.out _).mono ?_
      rintro e w1 ⟨rfl, b1⟩
      have HL1 := HBL.out.below b1 HBL.out.lt
      have HB1 := Lib.hid (BA.trans (b1.mono BA.size))
      have c1 : w1.cell? ⟨w.heap.size, 1, none⟩ = some (.int .i64 cell) := HL1.cell 1
      have c3 : w1.cell? ⟨w.heap.size, 3, none⟩ = some (.int .i64 ap) := HL1.cell 3
      have l1 := HL1.lt
      clear b1 BA HL1
      go_wp2_with fail
      go_ret
      exact ⟨rfl, HB1.out⟩
    rw [if_neg h4]
    by_cases h5 : 2 * cell < ap
    · rw [if_pos h5]
      go_enter Try.func45, Try.ntmps45
      go_wp2_with fail
      generalize w.alloc (.cells #[.int .u32 seed, .int .i64 cell, .float .f32 sh, .int .i64 ap] 93) = W0 at *
      refine (K.out _).mono ?_
      rintro e w1 ⟨rfl, b1⟩
      have HL1 := HBL.out.below b1 HBL.out.lt
      have HB1 := Lib.hid (BA.trans (b1.mono BA.size))
      have c1 : w1.cell? ⟨w.heap.size, 1, none⟩ = some (.int .i64 cell) := HL1.cell 1
      have c3 : w1.cell? ⟨w.heap.size, 3, none⟩ = some (.int .i64 ap) := HL1.cell 3
      have l1 := HL1.lt
      clear b1 BA HL1
      go_wp2_with fail
      go_ret
      exact ⟨rfl, HB1.out⟩
    · rw [if_neg h5]
      go_enter Try.func45, Try.ntmps45
      go_wp2_with fail
      generalize w.alloc (.cells #[.int .u32 seed, .int .i64 cell, .float .f32 sh, .int .i64 ap] 93) = W0 at *
      refine (K.out _).mono ?_
      rintro e w1 ⟨rfl, b1⟩
      have HL1 := HBL.out.below b1 HBL.out.lt
      have HB1 := Lib.hid (BA.trans (b1.mono BA.size))
      have c1 : w1.cell? ⟨w.heap.size, 1, none⟩ = some (.int .i64 cell) := HL1.cell 1
      have c3 : w1.cell? ⟨w.heap.size, 3, none⟩ = some (.int .i64 ap) := HL1.cell 3
      have l1 := HL1.lt
      clear b1 BA HL1
      go_wp2_with fail
      go_ret
      exact ⟨rfl, HB1.out⟩
  · rw [if_pos h3]
    have hb3 : (shareE sh == 0) = false := by simpa using h3
    generalize shareE sh = S at *
    go_enter Try.func45, Try.ntmps45
    go_wp2_with fail
    generalize w.alloc (.cells #[.int .u32 seed, .int .i64 cell, .float .f32 sh, .int .i64 ap] 93) = W0 at *
    refine (K.out _).mono ?_
    rintro e w1 ⟨rfl, b1⟩
    have HB1 := Lib.hid (BA.trans (b1.mono BA.size))
    clear b1 BA
    go_wp2_with fail
    go_ret
    exact ⟨rfl, HB1.out⟩
set_option maxRecDepth 100000 in
theorem refchksc_any (seed cell : Int) (sh : Nat) (ap : Int) (hs : sh < 4294967296) (w : World) :
    Calls Try.prog 44 #[scV seed cell sh ap] w fun e w' => e = .returned (.int .i64 (scE cell sh ap)) ∧ Below w.heap.size w w' := by
  have K := Lib.hid (fun w => refshare_any sh 1065353216 hs w)
  rw [shareE_two'] at K
  have BA : Below w.heap.size w (w.alloc (.cells #[.int .u32 seed, .int .i64 cell, .float .f32 sh, .int .i64 ap] 93)) := (by repeat (first | with_reducible exact Below.refl _ _ | with_reducible apply Below.drew | with_reducible refine below_drewN ?_ _ | (with_reducible refine Below.setCell ?_ ?_ _; rotate_left; focus (first | omega | (simp <;> omega))) | (with_reducible refine Below.alloc ?_ ?_ _; rotate_left; focus (first | omega | (simp <;> omega)))))
  have HBL : Hid (Blk (w.alloc (.cells #[.int .u32 seed, .int .i64 cell, .float .f32 sh, .int .i64 ap] 93)) w.heap.size #[.int .u32 seed, .int .i64 cell, .float .f32 sh, .int .i64 ap] 93) := Lib.hid (Blk.new _ _ _)
  unfold scV scC scE
  by_cases h1 : cell < 1
  · rw [if_pos h1]
    go_enter Try.func44, Try.ntmps44
    go_wp2_with fail
    go_ret
    exact ⟨rfl, (by repeat (first | with_reducible exact Below.refl _ _ | with_reducible apply Below.drew | with_reducible refine below_drewN ?_ _ | (with_reducible refine Below.setCell ?_ ?_ _; rotate_left; focus (first | omega | (simp <;> omega))) | (with_reducible refine Below.alloc ?_ ?_ _; rotate_left; focus (first | omega | (simp <;> omega)))))⟩
  rw [if_neg h1]
  by_cases h2 : 256 < cell
  · rw [if_pos h2]
    go_enter Try.func44, Try.ntmps44
    go_wp2_with fail
    go_ret
    exact ⟨rfl, (by repeat (first | with_reducible exact Below.refl _ _ | with_reducible apply Below.drew | with_reducible refine below_drewN ?_ _ | (with_reducible refine Below.setCell ?_ ?_ _; rotate_left; focus (first | omega | (simp <;> omega))) | (with_reducible refine Below.alloc ?_ ?_ _; rotate_left; focus (first | omega | (simp <;> omega)))))⟩
  rw [if_neg h2]
  by_cases h3 : shareE sh = 0
  · rw [if_neg (show ¬ shareE sh ≠ 0 by omega)]
    rw [h3] at K
    by_cases h4 : ap < 0
    · rw [if_pos h4]
      go_enter Try.func44, Try.ntmps44
      go_wp2_with fail
      generalize w.alloc (.cells #[.int .u32 seed, .int .i64 cell, .float .f32 sh, .int .i64 ap] 93) = W0 at *
      refine (K.out _).mono ?_
      rintro e w1 ⟨rfl, b1⟩
      have HL1 := HBL.out.below b1 HBL.out.lt
      have HB1 := Lib.hid (BA.trans (b1.mono BA.size))
      have c1 : w1.cell? ⟨w.heap.size, 1, none⟩ = some (.int .i64 cell) := HL1.cell 1
      have c3 : w1.cell? ⟨w.heap.size, 3, none⟩ = some (.int .i64 ap) := HL1.cell 3
      have l1 := HL1.lt
      clear b1 BA HL1
      go_wp2_with fail
      go_ret
      exact ⟨rfl, HB1.out⟩
    rw [if_neg h4]
    by_cases h5 : 2 * cell < ap
    · rw [if_pos h5]
      go_enter Try.func44, Try.ntmps44
      go_wp2_with fail
      generalize w.alloc (.cells #[.int .u32 seed, .int .i64 cell, .float .f32 sh, .int .i64 ap] 93) = W0 at *
      refine (K.out _).mono ?_
      rintro e w1 ⟨rfl, b1⟩
      have HL1 := HBL.out.below b1 HBL.out.lt
      have HB1 := Lib.hid (BA.trans (b1.mono BA.size))
      have c1 : w1.cell? ⟨w.heap.size, 1, none⟩ = some (.int .i64 cell) := HL1.cell 1
      have c3 : w1.cell? ⟨w.heap.size, 3, none⟩ = some (.int .i64 ap) := HL1.cell 3
      have l1 := HL1.lt
      clear b1 BA HL1
      go_wp2_with fail
      go_ret
      exact ⟨rfl, HB1.out⟩
    · rw [if_neg h5]
      go_enter Try.func44, Try.ntmps44
      go_wp2_with fail
      generalize w.alloc (.cells #[.int .u32 seed, .int .i64 cell, .float .f32 sh, .int .i64 ap] 93) = W0 at *
      refine (K.out _).mono ?_
      rintro e w1 ⟨rfl, b1⟩
      have HL1 := HBL.out.below b1 HBL.out.lt
      have HB1 := Lib.hid (BA.trans (b1.mono BA.size))
      have c1 : w1.cell? ⟨w.heap.size, 1, none⟩ = some (.int .i64 cell) := HL1.cell 1
      have c3 : w1.cell? ⟨w.heap.size, 3, none⟩ = some (.int .i64 ap) := HL1.cell 3
      have l1 := HL1.lt
      clear b1 BA HL1
      go_wp2_with fail
      go_ret
      exact ⟨rfl, HB1.out⟩
  · rw [if_pos h3]
    have hb3 : (shareE sh == 0) = false := by simpa using h3
    generalize shareE sh = S at *
    go_enter Try.func44, Try.ntmps44
    go_wp2_with fail
    generalize w.alloc (.cells #[.int .u32 seed, .int .i64 cell, .float .f32 sh, .int .i64 ap] 93) = W0 at *
    refine (K.out _).mono ?_
    rintro e w1 ⟨rfl, b1⟩
    have HB1 := Lib.hid (BA.trans (b1.mono BA.size))
    clear b1 BA
    go_wp2_with fail
    go_ret
    exact ⟨rfl, HB1.out⟩
/-- a right scatter's numbers -/
theorem scE_zero {cell : Int} {sh : Nat} {ap : Int} (h : scE cell sh ap = 0) : 1 ≤ cell ∧ cell ≤ 256 ∧ 0 ≤ ap ∧ ap ≤ 2 * cell ∧ shareE sh = 0 := by
  unfold scE at h
  by_cases h1 : cell < 1
  · rw [if_pos h1] at h; omega
  rw [if_neg h1] at h
  by_cases h2 : 256 < cell
  · rw [if_pos h2] at h; omega
  rw [if_neg h2] at h
  by_cases h3 : shareE sh ≠ 0
  · rw [if_pos h3] at h; exact absurd h h3
  rw [if_neg h3] at h
  by_cases h4 : ap < 0
  · rw [if_pos h4] at h; omega
  rw [if_neg h4] at h
  by_cases h5 : 2 * cell < ap
  · rw [if_pos h5] at h; omega
  · exact ⟨by omega, by omega, by omega, by omega, by simpa using h3⟩
end Go.Proofs.Ytfmbekdfigbfiaa
