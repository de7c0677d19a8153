import Derived.Test.YtfmbekdfigbfiaaEase
import Derived.Test.YtfmbekdfigbfiaaJA
import Derived.Test.YtfmbekdfigbfiaaM5
import Derived.BigQuiet
import Derived.Deep.QuietTactic
namespace Go.Proofs.Ytfmbekdfigbfiaa
open Go.ChangeShapes Go.WideShapes Go.ChangeAt Go.RowKit
open Ieee.Format (fin finE htE allFin allHt all_true all_false mulF subF addF Ht Bd divF rootF floorF easeF mixF)
set_option linter.unusedVariables false

theorem row_at1 (W : World) (g x : Nat) (hx : x < 4294967296) (h0 : W.cell? ⟨g, 0, none⟩ = some (.float .f32 x)) : SRow W (some ⟨g, 0, none⟩) [x] := by
  refine ⟨⟨by simp, by simp; exact hx⟩, .inr ⟨g, 0, rfl, ?_⟩⟩
  intro i hi
  obtain rfl : i = 0 := by simp at hi; omega
  exact h0
theorem heights_one (W : World) (g x : Nat) (hx : x < 4294967296) (h0 : W.cell? ⟨g, 0, none⟩ = some (.float .f32 x)) :
    Calls Try.prog 131 #[.slice (some ⟨g, 0, none⟩) 1 1] W fun e w' => e = .returned (.int .i64 (htE [x])) ∧ W = w' := heights_any (some ⟨g, 0, none⟩) 1 [x] W (row_at1 W g x hx h0)
theorem finites_one (W : World) (g x : Nat) (hx : x < 4294967296) (h0 : W.cell? ⟨g, 0, none⟩ = some (.float .f32 x)) :
    Calls Try.prog 142 #[.slice (some ⟨g, 0, none⟩) 1 1] W fun e w' => e = .returned (.int .i64 (finE [x])) ∧ W = w' := finites_any (some ⟨g, 0, none⟩) 1 [x] W (row_at1 W g x hx h0)
theorem heights_two (W : World) (g x y : Nat) (hx : x < 4294967296) (hy : y < 4294967296) (h0 : W.cell? ⟨g, 0, none⟩ = some (.float .f32 x)) (h1 : W.cell? ⟨g, 1, none⟩ = some (.float .f32 y)) :
    Calls Try.prog 131 #[.slice (some ⟨g, 0, none⟩) 2 2] W fun e w' => e = .returned (.int .i64 (htE [x, y])) ∧ W = w' := heights_any (some ⟨g, 0, none⟩) 2 [x, y] W (row_two_at W g x y hx hy h0 h1)
theorem htE_one {t : Nat} (h : htE [t] = 0) : Ht t := Ieee.Format.allHt_iff.1 (Ieee.Format.htE_zero h) t (by simp)
theorem finE_one {t : Nat} (h : finE [t] = 0) : fin Ieee.single t := by
  apply Classical.byContradiction
  intro hc
  have : finE [t] = 2 := Ieee.Format.finE_bad (by unfold allFin; simp [hc])
  omega
theorem lss_V {x y : Nat} (hx : fin Ieee.single x) (hy : fin Ieee.single y) : lss x y = decide (Ieee.single.V x < Ieee.single.V y) := Ieee.single.order_lt hx hy
theorem gtr_V {x y : Nat} (hx : fin Ieee.single x) (hy : fin Ieee.single y) : gtr x y = decide (Ieee.single.V y < Ieee.single.V x) := Ieee.single.order_gt hx hy

/-- a wear -/
abbrev wearV (T R : Nat) (n : Int) : Value := .agg #[.float .f32 T, .float .f32 R, .int .i64 n]
def wearE (T R : Nat) (n : Int) : Int :=
  if htE [T] ≠ 0 then htE [T] else if lss T 0 = true then 3 else if finE [R] ≠ 0 then finE [R] else
  if lss R 0 = true then 3 else if gtr R 1040187392 = true then 3 else if n < 0 then 3 else if 64 < n then 3 else 0

theorem check_wear (T R : Nat) (n : Int) (w : World) (hT : T < 4294967296) (hR : R < 4294967296) :
    Calls Try.prog 64 #[wearV T R n] w fun e w' => e = .returned (.int .i64 (wearE T R n)) ∧ Below w.heap.size w w' := by
  have K1 := Lib.hid (fun W g h => heights_one W g T hT h)
  have K2 := Lib.hid (fun W g h => finites_one W g R hR h)
  clear hT hR
  unfold wearE
  generalize htE [T] = a at *
  generalize finE [R] = b at *
  by_cases ha : a = 0
  · rw [ha] at K1
    rw [if_neg (by omega)]
    clear ha
    cases h1 : lss T 0 with
    | true =>
      change (FloatKind.f32.format.order T 0 == some .lt) = true at h1
      rw [if_pos rfl]
      go_enter Try.func64, Try.ntmps64
      go_wp2_with (first | (go_at_call 131; refine (K1.out _ _ (by simp [go_sem])).mono ?_; rintro e w' ⟨rfl, rfl⟩) | (go_at_call 142; refine (K2.out _ _ (by simp [go_sem])).mono ?_; rintro e w' ⟨rfl, rfl⟩))
      go_ret
      exact ⟨rfl, (by repeat (first | with_reducible exact Below.refl _ _ | with_reducible apply Below.drew | with_reducible refine below_drewN ?_ _ | (with_reducible refine Below.setCell ?_ ?_ _; rotate_left; focus (first | omega | (simp <;> omega))) | (with_reducible refine Below.alloc ?_ ?_ _; rotate_left; focus (first | omega | (simp <;> omega)))))⟩
    | false =>
      change (FloatKind.f32.format.order T 0 == some .lt) = false at h1
      rw [if_neg (by decide)]
      by_cases hb : b = 0
      · rw [hb] at K2
        rw [if_neg (by omega)]
        clear hb
        cases h2 : lss R 0 with
        | true =>
          change (FloatKind.f32.format.order R 0 == some .lt) = true at h2
          rw [if_pos rfl]
          go_enter Try.func64, Try.ntmps64
          go_wp2_with (first | (go_at_call 131; refine (K1.out _ _ (by simp [go_sem])).mono ?_; rintro e w' ⟨rfl, rfl⟩) | (go_at_call 142; refine (K2.out _ _ (by simp [go_sem])).mono ?_; rintro e w' ⟨rfl, rfl⟩))
          go_ret
          exact ⟨rfl, (by repeat (first | with_reducible exact Below.refl _ _ | with_reducible apply Below.drew | with_reducible refine below_drewN ?_ _ | (with_reducible refine Below.setCell ?_ ?_ _; rotate_left; focus (first | omega | (simp <;> omega))) | (with_reducible refine Below.alloc ?_ ?_ _; rotate_left; focus (first | omega | (simp <;> omega)))))⟩
        | false =>
          change (FloatKind.f32.format.order R 0 == some .lt) = false at h2
          rw [if_neg (by decide)]
          cases h3 : gtr R 1040187392 with
          | true =>
            change (FloatKind.f32.format.order R 1040187392 == some .gt) = true at h3
            rw [if_pos rfl]
            go_enter Try.func64, Try.ntmps64
            go_wp2_with (first | (go_at_call 131; refine (K1.out _ _ (by simp [go_sem])).mono ?_; rintro e w' ⟨rfl, rfl⟩) | (go_at_call 142; refine (K2.out _ _ (by simp [go_sem])).mono ?_; rintro e w' ⟨rfl, rfl⟩))
            go_ret
            exact ⟨rfl, (by repeat (first | with_reducible exact Below.refl _ _ | with_reducible apply Below.drew | with_reducible refine below_drewN ?_ _ | (with_reducible refine Below.setCell ?_ ?_ _; rotate_left; focus (first | omega | (simp <;> omega))) | (with_reducible refine Below.alloc ?_ ?_ _; rotate_left; focus (first | omega | (simp <;> omega)))))⟩
          | false =>
            change (FloatKind.f32.format.order R 1040187392 == some .gt) = false at h3
            rw [if_neg (by decide)]
            by_cases h4 : n < 0
            · rw [if_pos h4]
              go_enter Try.func64, Try.ntmps64
              go_wp2_with (first | (go_at_call 131; refine (K1.out _ _ (by simp [go_sem])).mono ?_; rintro e w' ⟨rfl, rfl⟩) | (go_at_call 142; refine (K2.out _ _ (by simp [go_sem])).mono ?_; rintro e w' ⟨rfl, rfl⟩))
              go_ret
              exact ⟨rfl, (by repeat (first | with_reducible exact Below.refl _ _ | with_reducible apply Below.drew | with_reducible refine below_drewN ?_ _ | (with_reducible refine Below.setCell ?_ ?_ _; rotate_left; focus (first | omega | (simp <;> omega))) | (with_reducible refine Below.alloc ?_ ?_ _; rotate_left; focus (first | omega | (simp <;> omega)))))⟩
            · rw [if_neg h4]
              by_cases h5 : 64 < n
              · rw [if_pos h5]
                go_enter Try.func64, Try.ntmps64
                go_wp2_with (first | (go_at_call 131; refine (K1.out _ _ (by simp [go_sem])).mono ?_; rintro e w' ⟨rfl, rfl⟩) | (go_at_call 142; refine (K2.out _ _ (by simp [go_sem])).mono ?_; rintro e w' ⟨rfl, rfl⟩))
                go_ret
                exact ⟨rfl, (by repeat (first | with_reducible exact Below.refl _ _ | with_reducible apply Below.drew | with_reducible refine below_drewN ?_ _ | (with_reducible refine Below.setCell ?_ ?_ _; rotate_left; focus (first | omega | (simp <;> omega))) | (with_reducible refine Below.alloc ?_ ?_ _; rotate_left; focus (first | omega | (simp <;> omega)))))⟩
              · rw [if_neg h5]
                go_enter Try.func64, Try.ntmps64
                go_wp2_with (first | (go_at_call 131; refine (K1.out _ _ (by simp [go_sem])).mono ?_; rintro e w' ⟨rfl, rfl⟩) | (go_at_call 142; refine (K2.out _ _ (by simp [go_sem])).mono ?_; rintro e w' ⟨rfl, rfl⟩))
                go_ret
                exact ⟨rfl, (by repeat (first | with_reducible exact Below.refl _ _ | with_reducible apply Below.drew | with_reducible refine below_drewN ?_ _ | (with_reducible refine Below.setCell ?_ ?_ _; rotate_left; focus (first | omega | (simp <;> omega))) | (with_reducible refine Below.alloc ?_ ?_ _; rotate_left; focus (first | omega | (simp <;> omega)))))⟩
      · rw [if_pos hb]
        have hb' : (b != 0) = true := by rw [bne_iff_ne]; exact hb
        clear hb
        go_enter Try.func64, Try.ntmps64
        go_wp2_with (first | (go_at_call 131; refine (K1.out _ _ (by simp [go_sem])).mono ?_; rintro e w' ⟨rfl, rfl⟩) | (go_at_call 142; refine (K2.out _ _ (by simp [go_sem])).mono ?_; rintro e w' ⟨rfl, rfl⟩))
        go_ret
        exact ⟨rfl, (by repeat (first | with_reducible exact Below.refl _ _ | with_reducible apply Below.drew | with_reducible refine below_drewN ?_ _ | (with_reducible refine Below.setCell ?_ ?_ _; rotate_left; focus (first | omega | (simp <;> omega))) | (with_reducible refine Below.alloc ?_ ?_ _; rotate_left; focus (first | omega | (simp <;> omega)))))⟩
  · rw [if_pos ha]
    have ha' : (a != 0) = true := by rw [bne_iff_ne]; exact ha
    clear ha
    go_enter Try.func64, Try.ntmps64
    go_wp2_with (first | (go_at_call 131; refine (K1.out _ _ (by simp [go_sem])).mono ?_; rintro e w' ⟨rfl, rfl⟩) | (go_at_call 142; refine (K2.out _ _ (by simp [go_sem])).mono ?_; rintro e w' ⟨rfl, rfl⟩))
    go_ret
    exact ⟨rfl, (by repeat (first | with_reducible exact Below.refl _ _ | with_reducible apply Below.drew | with_reducible refine below_drewN ?_ _ | (with_reducible refine Below.setCell ?_ ?_ _; rotate_left; focus (first | omega | (simp <;> omega))) | (with_reducible refine Below.alloc ?_ ?_ _; rotate_left; focus (first | omega | (simp <;> omega)))))⟩

def shareE2 (t m : Nat) : Int := if htE [t] ≠ 0 then htE [t] else if lss t 0 = true then 3 else if gtr t m = true then 3 else 0
theorem refshare_any (t m : Nat) (ht : t < 4294967296) (w : World) : Calls Try.prog 61 #[.float .f32 t, .float .f32 m] w fun e w' => e = .returned (.int .i64 (shareE2 t m)) ∧ Below w.heap.size w w' := by
  have K1 := Lib.hid (fun W g h => refheight_one W g t ht h)
  clear ht
  unfold shareE2
  generalize htE [t] = a at *
  by_cases ha : a = 0
  · rw [ha] at K1
    rw [if_neg (by omega)]
    clear ha
    cases h1 : lss t 0 with
    | true =>
      change (FloatKind.f32.format.order t 0 == some .lt) = true at h1
      rw [if_pos rfl]
      go_enter Try.func61, Try.ntmps61
      go_wp2_with (go_at_call 62; refine (K1.out _ _ (by simp [go_sem])).mono ?_; rintro e w' ⟨rfl, rfl⟩)
      go_ret
      exact ⟨rfl, (by repeat (first | with_reducible exact Below.refl _ _ | with_reducible apply Below.drew | with_reducible refine below_drewN ?_ _ | (with_reducible refine Below.setCell ?_ ?_ _; rotate_left; focus (first | omega | (simp <;> omega))) | (with_reducible refine Below.alloc ?_ ?_ _; rotate_left; focus (first | omega | (simp <;> omega)))))⟩
    | false =>
      change (FloatKind.f32.format.order t 0 == some .lt) = false at h1
      rw [if_neg (by decide)]
      cases h3 : gtr t m with
      | true =>
        change (FloatKind.f32.format.order t m == some .gt) = true at h3
        rw [if_pos rfl]
        go_enter Try.func61, Try.ntmps61
        go_wp2_with (go_at_call 62; refine (K1.out _ _ (by simp [go_sem])).mono ?_; rintro e w' ⟨rfl, rfl⟩)
        go_ret
        exact ⟨rfl, (by repeat (first | with_reducible exact Below.refl _ _ | with_reducible apply Below.drew | with_reducible refine below_drewN ?_ _ | (with_reducible refine Below.setCell ?_ ?_ _; rotate_left; focus (first | omega | (simp <;> omega))) | (with_reducible refine Below.alloc ?_ ?_ _; rotate_left; focus (first | omega | (simp <;> omega)))))⟩
      | false =>
        change (FloatKind.f32.format.order t m == some .gt) = false at h3
        rw [if_neg (by decide)]
        go_enter Try.func61, Try.ntmps61
        go_wp2_with (go_at_call 62; refine (K1.out _ _ (by simp [go_sem])).mono ?_; rintro e w' ⟨rfl, rfl⟩)
        go_ret
        exact ⟨rfl, (by repeat (first | with_reducible exact Below.refl _ _ | with_reducible apply Below.drew | with_reducible refine below_drewN ?_ _ | (with_reducible refine Below.setCell ?_ ?_ _; rotate_left; focus (first | omega | (simp <;> omega))) | (with_reducible refine Below.alloc ?_ ?_ _; rotate_left; focus (first | omega | (simp <;> omega)))))⟩
  · rw [if_pos ha]
    have ha' : (a != 0) = true := by rw [bne_iff_ne]; exact ha
    clear ha
    go_enter Try.func61, Try.ntmps61
    go_wp2_with (go_at_call 62; refine (K1.out _ _ (by simp [go_sem])).mono ?_; rintro e w' ⟨rfl, rfl⟩)
    go_ret
    exact ⟨rfl, (by repeat (first | with_reducible exact Below.refl _ _ | with_reducible apply Below.drew | with_reducible refine below_drewN ?_ _ | (with_reducible refine Below.setCell ?_ ?_ _; rotate_left; focus (first | omega | (simp <;> omega))) | (with_reducible refine Below.alloc ?_ ?_ _; rotate_left; focus (first | omega | (simp <;> omega)))))⟩

theorem wearE_share (T R : Nat) (n : Int) : wearE T R n = if shareE2 T 1233125376 ≠ 0 then shareE2 T 1233125376 else if shareE2 R 1040187392 ≠ 0 then shareE2 R 1040187392 else if n < 0 then 3 else if 64 < n then 3 else 0 := by
  have hT : htE [T] = 0 → gtr T 1233125376 = false := by
    intro h
    have ht : Ht T := htE_one h
    rw [gtr_V ht.fin Ieee.Format.const_20.1, Ieee.Format.const_20.2.1]
    have := ht.V.2
    simp; grind
  have hR : finE [R] = 0 → htE [R] ≠ 0 → htE [R] = 3 ∧ (lss R 0 = true ∨ gtr R 1040187392 = true) := by
    intro hf h
    have f1 : fin Ieee.single R := finE_one hf
    have a1 : allFin [R] = true := by unfold allFin; simp [f1]
    have n1 : ¬ Ht R := fun hc => h (Ieee.Format.htE_of_ht (Ieee.Format.allHt_iff.2 (by simpa using hc)))
    have h3 : htE [R] = 3 := Ieee.Format.htE_far a1 (by cases hh : allHt [R]; rfl; exact absurd (Ieee.Format.allHt_iff.1 hh R (by simp)) n1)
    refine ⟨h3, ?_⟩
    rw [lss_V f1 Ieee.Format.const_0.1, gtr_V f1 Ieee.Format.const_eighth.1, Ieee.Format.const_eighth.2.1, Ieee.Format.const_0.2.1]
    by_cases c1 : Ieee.single.V R < 0
    · left; simpa using c1
    · right
      simp only [decide_eq_true_eq]
      apply Classical.byContradiction
      intro c2
      apply n1
      have m1 := Ieee.P2_mono (show (-3 : Int) ≤ 20 by omega)
      have m2 := Ieee.P2_pos 20
      exact Ieee.Format.Ht.of ⟨by grind, by grind⟩
  have hR2 : finE [R] ≠ 0 → htE [R] = finE [R] := by
    intro hf
    have a1 : allFin [R] = false := by
      cases h : allFin [R]
      · rfl
      · exact absurd (Ieee.Format.finE_ok h) hf
    rw [Ieee.Format.htE_bad a1, Ieee.Format.finE_bad a1]
  have hR3 : finE [R] ≠ 0 → htE [R] ≠ 0 := fun h => by rw [hR2 h]; exact h
  unfold wearE shareE2
  by_cases h1 : htE [T] = 0
  · have := hT h1
    simp only [h1, this]
    by_cases h2 : finE [R] = 0
    · by_cases h3 : htE [R] = 0
      · simp only [h2, h3]
        cases lss T 0 <;> cases lss R 0 <;> cases gtr R 1040187392 <;> simp
      · obtain ⟨h4, h5⟩ := hR h2 h3
        simp only [h2, h4]
        cases lss T 0 <;> rcases h5 with h5 | h5 <;> simp [h5]
    · have h3 := hR2 h2
      simp only [h3]
      cases lss T 0 <;> simp [h2]
  · simp [h1]

theorem refcheck_wear (T R : Nat) (n : Int) (w : World) (hT : T < 4294967296) (hR : R < 4294967296) :
    Calls Try.prog 13 #[wearV T R n] w fun e w' => e = .returned (.int .i64 (wearE T R n)) ∧ Below w.heap.size w w' := by
  have KT := Lib.hid (fun w => refshare_any T 1233125376 hT w)
  have KR := Lib.hid (fun w => refshare_any R 1040187392 hR w)
  clear hT hR
  rw [wearE_share]
  generalize shareE2 T 1233125376 = a at *
  generalize shareE2 R 1040187392 = b at *
  by_cases ha : a = 0
  · rw [ha] at KT
    rw [if_neg (by omega)]
    clear ha
    by_cases hb : b = 0
    · rw [hb] at KR
      rw [if_neg (by omega)]
      clear hb
      by_cases h4 : n < 0
      · rw [if_pos h4]
        go_enter Try.func13, Try.ntmps13
        go_wp2_with fail
        refine (KT.out _).mono ?_
        rintro e w1 ⟨rfl, b1⟩
        obtain ⟨hc, hf⟩ := bcell b1
        have HB := Lib.hid b1
        have hz : w.heap.size < w1.heap.size := by have := b1.size; simp at this; omega
        clear b1
        go_wp2_with fail
        refine (KR.out _).mono ?_
        rintro e w2 ⟨rfl, b2⟩
        obtain ⟨hc2, hf2⟩ := bcell b2
        have HB2 := Lib.hid b2
        clear b2
        go_wp2_with fail
        go_ret
        have B0 : Below w.heap.size w (w.alloc (.cells #[.float .f32 T, .float .f32 R, .int .i64 n] 45)) := (by repeat (first | with_reducible exact Below.refl _ _ | with_reducible apply Below.drew | with_reducible refine below_drewN ?_ _ | (with_reducible refine Below.setCell ?_ ?_ _; rotate_left; focus (first | omega | (simp <;> omega))) | (with_reducible refine Below.alloc ?_ ?_ _; rotate_left; focus (first | omega | (simp <;> omega)))))
        exact ⟨rfl, (B0.trans (HB.out.mono (by simp))).trans (HB2.out.mono (by omega))⟩
      · rw [if_neg h4]
        by_cases h5 : 64 < n
        · rw [if_pos h5]
          go_enter Try.func13, Try.ntmps13
          go_wp2_with fail
          refine (KT.out _).mono ?_
          rintro e w1 ⟨rfl, b1⟩
          obtain ⟨hc, hf⟩ := bcell b1
          have HB := Lib.hid b1
          have hz : w.heap.size < w1.heap.size := by have := b1.size; simp at this; omega
          clear b1
          go_wp2_with fail
          refine (KR.out _).mono ?_
          rintro e w2 ⟨rfl, b2⟩
          obtain ⟨hc2, hf2⟩ := bcell b2
          have HB2 := Lib.hid b2
          clear b2
          go_wp2_with fail
          go_ret
          have B0 : Below w.heap.size w (w.alloc (.cells #[.float .f32 T, .float .f32 R, .int .i64 n] 45)) := (by repeat (first | with_reducible exact Below.refl _ _ | with_reducible apply Below.drew | with_reducible refine below_drewN ?_ _ | (with_reducible refine Below.setCell ?_ ?_ _; rotate_left; focus (first | omega | (simp <;> omega))) | (with_reducible refine Below.alloc ?_ ?_ _; rotate_left; focus (first | omega | (simp <;> omega)))))
          exact ⟨rfl, (B0.trans (HB.out.mono (by simp))).trans (HB2.out.mono (by omega))⟩
        · rw [if_neg h5]
          go_enter Try.func13, Try.ntmps13
          go_wp2_with fail
          refine (KT.out _).mono ?_
          rintro e w1 ⟨rfl, b1⟩
          obtain ⟨hc, hf⟩ := bcell b1
          have HB := Lib.hid b1
          have hz : w.heap.size < w1.heap.size := by have := b1.size; simp at this; omega
          clear b1
          go_wp2_with fail
          refine (KR.out _).mono ?_
          rintro e w2 ⟨rfl, b2⟩
          obtain ⟨hc2, hf2⟩ := bcell b2
          have HB2 := Lib.hid b2
          clear b2
          go_wp2_with fail
          go_ret
          have B0 : Below w.heap.size w (w.alloc (.cells #[.float .f32 T, .float .f32 R, .int .i64 n] 45)) := (by repeat (first | with_reducible exact Below.refl _ _ | with_reducible apply Below.drew | with_reducible refine below_drewN ?_ _ | (with_reducible refine Below.setCell ?_ ?_ _; rotate_left; focus (first | omega | (simp <;> omega))) | (with_reducible refine Below.alloc ?_ ?_ _; rotate_left; focus (first | omega | (simp <;> omega)))))
          exact ⟨rfl, (B0.trans (HB.out.mono (by simp))).trans (HB2.out.mono (by omega))⟩
    · rw [if_pos hb]
      have hb' : (b != 0) = true := by rw [bne_iff_ne]; exact hb
      clear hb
      go_enter Try.func13, Try.ntmps13
      go_wp2_with fail
      refine (KT.out _).mono ?_
      rintro e w1 ⟨rfl, b1⟩
      obtain ⟨hc, hf⟩ := bcell b1
      have HB := Lib.hid b1
      have hz : w.heap.size < w1.heap.size := by have := b1.size; simp at this; omega
      clear b1
      go_wp2_with fail
      refine (KR.out _).mono ?_
      rintro e w2 ⟨rfl, b2⟩
      obtain ⟨hc2, hf2⟩ := bcell b2
      have HB2 := Lib.hid b2
      clear b2
      go_wp2_with fail
      go_ret
      have B0 : Below w.heap.size w (w.alloc (.cells #[.float .f32 T, .float .f32 R, .int .i64 n] 45)) := (by repeat (first | with_reducible exact Below.refl _ _ | with_reducible apply Below.drew | with_reducible refine below_drewN ?_ _ | (with_reducible refine Below.setCell ?_ ?_ _; rotate_left; focus (first | omega | (simp <;> omega))) | (with_reducible refine Below.alloc ?_ ?_ _; rotate_left; focus (first | omega | (simp <;> omega)))))
      exact ⟨rfl, (B0.trans (HB.out.mono (by simp))).trans (HB2.out.mono (by omega))⟩
  · rw [if_pos ha]
    have ha' : (a != 0) = true := by rw [bne_iff_ne]; exact ha
    clear ha
    go_enter Try.func13, Try.ntmps13
    go_wp2_with fail
    refine (KT.out _).mono ?_
    rintro e w1 ⟨rfl, b1⟩
    obtain ⟨hc, hf⟩ := bcell b1
    have HB := Lib.hid b1
    have hz : w.heap.size < w1.heap.size := by have := b1.size; simp at this; omega
    clear b1
    go_wp2_with fail
    go_ret
    have B0 : Below w.heap.size w (w.alloc (.cells #[.float .f32 T, .float .f32 R, .int .i64 n] 45)) := (by repeat (first | with_reducible exact Below.refl _ _ | with_reducible apply Below.drew | with_reducible refine below_drewN ?_ _ | (with_reducible refine Below.setCell ?_ ?_ _; rotate_left; focus (first | omega | (simp <;> omega))) | (with_reducible refine Below.alloc ?_ ?_ _; rotate_left; focus (first | omega | (simp <;> omega)))))
    exact ⟨rfl, B0.trans (HB.out.mono (by simp))⟩
end Go.Proofs.Ytfmbekdfigbfiaa
