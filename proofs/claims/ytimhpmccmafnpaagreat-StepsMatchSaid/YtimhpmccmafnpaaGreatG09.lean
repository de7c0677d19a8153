import Derived.Test.YtimhpmccmafnpaaGreatG08
import Derived.Test.YtimhpmccmafnpaaGreatG07
import Derived.Test.YtimhpmccmafnpaaGreatG04
import Derived.BigQuiet
import Derived.Deep.QuietTactic
import Derived.Test.YtimhpmccmafnpaaGreatG01
import Derived.Test.YtimhpmccmafnpaaGreatG02
import Derived.Deep.RegionHeld3
import Derived.OwnWalk
import Derived.Deep.AppendLies
import Derived.WalkLawsBesides



namespace Go.Proofs.YtimhpmccmafnpaaGreat
open Go.ChangeShapes Go.WideShapes Go.ChangeAt Go.RowKit
open Ieee.Format (fin finE htE allFin allHt all_true all_false mulF subF addF Ht Bd divF rootF floorF easeF mixF)
set_option linter.unusedVariables false

theorem row_at1 (W : World) (g x : Nat) (hx : x < 4294967296) (h0 : W.cell? ⟨g, 0, none⟩ = some (.float .f32 x)) : SRow W (some ⟨g, 0, none⟩) [x] := by
  refine ⟨⟨by simp, by simp; exact hx⟩, .inr ⟨g, 0, rfl, ?_⟩⟩
  intro i hi
  obtain rfl : i = 0 := by simp at hi; omega
  exact h0
theorem heights_one (W : World) (g x : Nat) (hx : x < 4294967296) (h0 : W.cell? ⟨g, 0, none⟩ = some (.float .f32 x)) :
    Calls Tryz.prog 16 #[.slice (some ⟨g, 0, none⟩) 1 1] W fun e w' => e = .returned (.int .i64 (htE [x])) ∧ W = w' := heights_any (some ⟨g, 0, none⟩) 1 [x] W (row_at1 W g x hx h0)
theorem finites_one (W : World) (g x : Nat) (hx : x < 4294967296) (h0 : W.cell? ⟨g, 0, none⟩ = some (.float .f32 x)) :
    Calls Tryz.prog 40 #[.slice (some ⟨g, 0, none⟩) 1 1] W fun e w' => e = .returned (.int .i64 (finE [x])) ∧ W = w' := finites_any (some ⟨g, 0, none⟩) 1 [x] W (row_at1 W g x hx h0)
theorem heights_two (W : World) (g x y : Nat) (hx : x < 4294967296) (hy : y < 4294967296) (h0 : W.cell? ⟨g, 0, none⟩ = some (.float .f32 x)) (h1 : W.cell? ⟨g, 1, none⟩ = some (.float .f32 y)) :
    Calls Tryz.prog 16 #[.slice (some ⟨g, 0, none⟩) 2 2] W fun e w' => e = .returned (.int .i64 (htE [x, y])) ∧ W = w' := heights_any (some ⟨g, 0, none⟩) 2 [x, y] W (row_two_at W g x y hx hy h0 h1)
theorem htE_one {t : Nat} (h : htE [t] = 0) : Ht t := Ieee.Format.allHt_iff.1 (Ieee.Format.htE_zero h) t (by simp)
theorem finE_one {t : Nat} (h : finE [t] = 0) : fin Ieee.single t := by
  apply Classical.byContradiction
  intro hc
  have : finE [t] = 2 := Ieee.Format.finE_bad (by unfold allFin; simp [hc])
  omega
theorem lss_V {x y : Nat} (hx : fin Ieee.single x) (hy : fin Ieee.single y) : lss x y = decide (Ieee.single.V x < Ieee.single.V y) := Ieee.single.order_lt hx hy
theorem gtr_V {x y : Nat} (hx : fin Ieee.single x) (hy : fin Ieee.single y) : gtr x y = decide (Ieee.single.V y < Ieee.single.V x) := Ieee.single.order_gt hx hy

/-- a wear -/
abbrev wearV (T R : Nat) (n : Int) : Value := .agg #[.float .f32 T, .float .f32 R, .int .i64 n]
def wearE (T R : Nat) (n : Int) : Int :=
  if htE [T] ≠ 0 then htE [T] else if lss T 0 = true then 3 else if finE [R] ≠ 0 then finE [R] else
  if lss R 0 = true then 3 else if gtr R 1040187392 = true then 3 else if n < 0 then 3 else if 64 < n then 3 else 0

theorem check_wear (T R : Nat) (n : Int) (w : World) (hT : T < 4294967296) (hR : R < 4294967296) :
    Calls Tryz.prog 29 #[wearV T R n] w fun e w' => e = .returned (.int .i64 (wearE T R n)) ∧ Below w.heap.size w w' := by
  have K1 := Lib.hid (fun W g h => heights_one W g T hT h)
  have K2 := Lib.hid (fun W g h => finites_one W g R hR h)
  clear hT hR
  unfold wearE
  generalize htE [T] = a at *
  generalize finE [R] = b at *
  by_cases ha : a = 0
  · rw [ha] at K1
    rw [if_neg (by omega)]
    clear ha
    cases h1 : lss T 0 with
    | true =>
      change (FloatKind.f32.format.order T 0 == some .lt) = true at h1
      rw [if_pos rfl]
      go_enter Tryz.func29, Tryz.ntmps29
      go_wp2_with (first | (go_at_call 16; refine (K1.out _ _ (by simp [go_sem])).mono ?_; rintro e w' ⟨rfl, rfl⟩) | (go_at_call 40; refine (K2.out _ _ (by simp [go_sem])).mono ?_; rintro e w' ⟨rfl, rfl⟩))
      go_ret
      exact ⟨rfl, (by repeat (first | with_reducible exact Below.refl _ _ | with_reducible apply Below.drew | with_reducible refine below_drewN ?_ _ | (with_reducible refine Below.setCell ?_ ?_ _; rotate_left; focus (first | omega | (simp <;> omega))) | (with_reducible refine Below.alloc ?_ ?_ _; rotate_left; focus (first | omega | (simp <;> omega)))))⟩
    | false =>
      change (FloatKind.f32.format.order T 0 == some .lt) = false at h1
      rw [if_neg (by decide)]
      by_cases hb : b = 0
      · rw [hb] at K2
        rw [if_neg (by omega)]
        clear hb
        cases h2 : lss R 0 with
        | true =>
          change (FloatKind.f32.format.order R 0 == some .lt) = true at h2
          rw [if_pos rfl]
          go_enter Tryz.func29, Tryz.ntmps29
          go_wp2_with (first | (go_at_call 16; refine (K1.out _ _ (by simp [go_sem])).mono ?_; rintro e w' ⟨rfl, rfl⟩) | (go_at_call 40; refine (K2.out _ _ (by simp [go_sem])).mono ?_; rintro e w' ⟨rfl, rfl⟩))
          go_ret
          exact ⟨rfl, (by repeat (first | with_reducible exact Below.refl _ _ | with_reducible apply Below.drew | with_reducible refine below_drewN ?_ _ | (with_reducible refine Below.setCell ?_ ?_ _; rotate_left; focus (first | omega | (simp <;> omega))) | (with_reducible refine Below.alloc ?_ ?_ _; rotate_left; focus (first | omega | (simp <;> omega)))))⟩
        | false =>
          change (FloatKind.f32.format.order R 0 == some .lt) = false at h2
          rw [if_neg (by decide)]
          cases h3 : gtr R 1040187392 with
          | true =>
            change (FloatKind.f32.format.order R 1040187392 == some .gt) = true at h3
            rw [if_pos rfl]
            go_enter Tryz.func29, Tryz.ntmps29
            go_wp2_with (first | (go_at_call 16; refine (K1.out _ _ (by simp [go_sem])).mono ?_; rintro e w' ⟨rfl, rfl⟩) | (go_at_call 40; refine (K2.out _ _ (by simp [go_sem])).mono ?_; rintro e w' ⟨rfl, rfl⟩))
            go_ret
            exact ⟨rfl, (by repeat (first | with_reducible exact Below.refl _ _ | with_reducible apply Below.drew | with_reducible refine below_drewN ?_ _ | (with_reducible refine Below.setCell ?_ ?_ _; rotate_left; focus (first | omega | (simp <;> omega))) | (with_reducible refine Below.alloc ?_ ?_ _; rotate_left; focus (first | omega | (simp <;> omega)))))⟩
          | false =>
            change (FloatKind.f32.format.order R 1040187392 == some .gt) = false at h3
            rw [if_neg (by decide)]
            by_cases h4 : n < 0
            · rw [if_pos h4]
              go_enter Tryz.func29, Tryz.ntmps29
              go_wp2_with (first | (go_at_call 16; refine (K1.out _ _ (by simp [go_sem])).mono ?_; rintro e w' ⟨rfl, rfl⟩) | (go_at_call 40; refine (K2.out _ _ (by simp [go_sem])).mono ?_; rintro e w' ⟨rfl, rfl⟩))
              go_ret
              exact ⟨rfl, (by repeat (first | with_reducible exact Below.refl _ _ | with_reducible apply Below.drew | with_reducible refine below_drewN ?_ _ | (with_reducible refine Below.setCell ?_ ?_ _; rotate_left; focus (first | omega | (simp <;> omega))) | (with_reducible refine Below.alloc ?_ ?_ _; rotate_left; focus (first | omega | (simp <;> omega)))))⟩
            · rw [if_neg h4]
              by_cases h5 : 64 < n
              · rw [if_pos h5]
                go_enter Tryz.func29, Tryz.ntmps29
                go_wp2_with (first | (go_at_call 16; refine (K1.out _ _ (by simp [go_sem])).mono ?_; rintro e w' ⟨rfl, rfl⟩) | (go_at_call 40; refine (K2.out _ _ (by simp [go_sem])).mono ?_; rintro e w' ⟨rfl, rfl⟩))
                go_ret
                exact ⟨rfl, (by repeat (first | with_reducible exact Below.refl _ _ | with_reducible apply Below.drew | with_reducible refine below_drewN ?_ _ | (with_reducible refine Below.setCell ?_ ?_ _; rotate_left; focus (first | omega | (simp <;> omega))) | (with_reducible refine Below.alloc ?_ ?_ _; rotate_left; focus (first | omega | (simp <;> omega)))))⟩
              · rw [if_neg h5]
                go_enter Tryz.func29, Tryz.ntmps29
                go_wp2_with (first | (go_at_call 16; refine (K1.out _ _ (by simp [go_sem])).mono ?_; rintro e w' ⟨rfl, rfl⟩) | (go_at_call 40; refine (K2.out _ _ (by simp [go_sem])).mono ?_; rintro e w' ⟨rfl, rfl⟩))
                go_ret
                exact ⟨rfl, (by repeat (first | with_reducible exact Below.refl _ _ | with_reducible apply Below.drew | with_reducible refine below_drewN ?_ _ | (with_reducible refine Below.setCell ?_ ?_ _; rotate_left; focus (first | omega | (simp <;> omega))) | (with_reducible refine Below.alloc ?_ ?_ _; rotate_left; focus (first | omega | (simp <;> omega)))))⟩
      · rw [if_pos hb]
        have hb' : (b != 0) = true := by rw [bne_iff_ne]; exact hb
        clear hb
        go_enter Tryz.func29, Tryz.ntmps29
        go_wp2_with (first | (go_at_call 16; refine (K1.out _ _ (by simp [go_sem])).mono ?_; rintro e w' ⟨rfl, rfl⟩) | (go_at_call 40; refine (K2.out _ _ (by simp [go_sem])).mono ?_; rintro e w' ⟨rfl, rfl⟩))
        go_ret
        exact ⟨rfl, (by repeat (first | with_reducible exact Below.refl _ _ | with_reducible apply Below.drew | with_reducible refine below_drewN ?_ _ | (with_reducible refine Below.setCell ?_ ?_ _; rotate_left; focus (first | omega | (simp <;> omega))) | (with_reducible refine Below.alloc ?_ ?_ _; rotate_left; focus (first | omega | (simp <;> omega)))))⟩
  · rw [if_pos ha]
    have ha' : (a != 0) = true := by rw [bne_iff_ne]; exact ha
    clear ha
    go_enter Tryz.func29, Tryz.ntmps29
    go_wp2_with (first | (go_at_call 16; refine (K1.out _ _ (by simp [go_sem])).mono ?_; rintro e w' ⟨rfl, rfl⟩) | (go_at_call 40; refine (K2.out _ _ (by simp [go_sem])).mono ?_; rintro e w' ⟨rfl, rfl⟩))
    go_ret
    exact ⟨rfl, (by repeat (first | with_reducible exact Below.refl _ _ | with_reducible apply Below.drew | with_reducible refine below_drewN ?_ _ | (with_reducible refine Below.setCell ?_ ?_ _; rotate_left; focus (first | omega | (simp <;> omega))) | (with_reducible refine Below.alloc ?_ ?_ _; rotate_left; focus (first | omega | (simp <;> omega)))))⟩

def shareE2 (t m : Nat) : Int := if htE [t] ≠ 0 then htE [t] else if lss t 0 = true then 3 else if gtr t m = true then 3 else 0
theorem refshare_any (t m : Nat) (ht : t < 4294967296) (w : World) : Calls Tryz.prog 54 #[.float .f32 t, .float .f32 m] w fun e w' => e = .returned (.int .i64 (shareE2 t m)) ∧ Below w.heap.size w w' := by
  have K1 := Lib.hid (fun W g h => refheight_one W g t ht h)
  clear ht
  unfold shareE2
  generalize htE [t] = a at *
  by_cases ha : a = 0
  · rw [ha] at K1
    rw [if_neg (by omega)]
    clear ha
    cases h1 : lss t 0 with
    | true =>
      change (FloatKind.f32.format.order t 0 == some .lt) = true at h1
      rw [if_pos rfl]
      go_enter Tryz.func54, Tryz.ntmps54
      go_wp2_with (go_at_call 49; refine (K1.out _ _ (by simp [go_sem])).mono ?_; rintro e w' ⟨rfl, rfl⟩)
      go_ret
      exact ⟨rfl, (by repeat (first | with_reducible exact Below.refl _ _ | with_reducible apply Below.drew | with_reducible refine below_drewN ?_ _ | (with_reducible refine Below.setCell ?_ ?_ _; rotate_left; focus (first | omega | (simp <;> omega))) | (with_reducible refine Below.alloc ?_ ?_ _; rotate_left; focus (first | omega | (simp <;> omega)))))⟩
    | false =>
      change (FloatKind.f32.format.order t 0 == some .lt) = false at h1
      rw [if_neg (by decide)]
      cases h3 : gtr t m with
      | true =>
        change (FloatKind.f32.format.order t m == some .gt) = true at h3
        rw [if_pos rfl]
        go_enter Tryz.func54, Tryz.ntmps54
        go_wp2_with (go_at_call 49; refine (K1.out _ _ (by simp [go_sem])).mono ?_; rintro e w' ⟨rfl, rfl⟩)
        go_ret
        exact ⟨rfl, (by repeat (first | with_reducible exact Below.refl _ _ | with_reducible apply Below.drew | with_reducible refine below_drewN ?_ _ | (with_reducible refine Below.setCell ?_ ?_ _; rotate_left; focus (first | omega | (simp <;> omega))) | (with_reducible refine Below.alloc ?_ ?_ _; rotate_left; focus (first | omega | (simp <;> omega)))))⟩
      | false =>
        change (FloatKind.f32.format.order t m == some .gt) = false at h3
        rw [if_neg (by decide)]
        go_enter Tryz.func54, Tryz.ntmps54
        go_wp2_with (go_at_call 49; refine (K1.out _ _ (by simp [go_sem])).mono ?_; rintro e w' ⟨rfl, rfl⟩)
        go_ret
        exact ⟨rfl, (by repeat (first | with_reducible exact Below.refl _ _ | with_reducible apply Below.drew | with_reducible refine below_drewN ?_ _ | (with_reducible refine Below.setCell ?_ ?_ _; rotate_left; focus (first | omega | (simp <;> omega))) | (with_reducible refine Below.alloc ?_ ?_ _; rotate_left; focus (first | omega | (simp <;> omega)))))⟩
  · rw [if_pos ha]
    have ha' : (a != 0) = true := by rw [bne_iff_ne]; exact ha
    clear ha
    go_enter Tryz.func54, Tryz.ntmps54
    go_wp2_with (go_at_call 49; refine (K1.out _ _ (by simp [go_sem])).mono ?_; rintro e w' ⟨rfl, rfl⟩)
    go_ret
    exact ⟨rfl, (by repeat (first | with_reducible exact Below.refl _ _ | with_reducible apply Below.drew | with_reducible refine below_drewN ?_ _ | (with_reducible refine Below.setCell ?_ ?_ _; rotate_left; focus (first | omega | (simp <;> omega))) | (with_reducible refine Below.alloc ?_ ?_ _; rotate_left; focus (first | omega | (simp <;> omega)))))⟩

theorem wearE_share (T R : Nat) (n : Int) : wearE T R n = if shareE2 T 1233125376 ≠ 0 then shareE2 T 1233125376 else if shareE2 R 1040187392 ≠ 0 then shareE2 R 1040187392 else if n < 0 then 3 else if 64 < n then 3 else 0 := by
  have hT : htE [T] = 0 → gtr T 1233125376 = false := by
    intro h
    have ht : Ht T := htE_one h
    rw [gtr_V ht.fin Ieee.Format.const_20.1, Ieee.Format.const_20.2.1]
    have := ht.V.2
    simp; grind
  have hR : finE [R] = 0 → htE [R] ≠ 0 → htE [R] = 3 ∧ (lss R 0 = true ∨ gtr R 1040187392 = true) := by
    intro hf h
    have f1 : fin Ieee.single R := finE_one hf
    have a1 : allFin [R] = true := by unfold allFin; simp [f1]
    have n1 : ¬ Ht R := fun hc => h (Ieee.Format.htE_of_ht (Ieee.Format.allHt_iff.2 (by simpa using hc)))
    have h3 : htE [R] = 3 := Ieee.Format.htE_far a1 (by cases hh : allHt [R]; rfl; exact absurd (Ieee.Format.allHt_iff.1 hh R (by simp)) n1)
    refine ⟨h3, ?_⟩
    rw [lss_V f1 Ieee.Format.const_0.1, gtr_V f1 Ieee.Format.const_eighth.1, Ieee.Format.const_eighth.2.1, Ieee.Format.const_0.2.1]
    by_cases c1 : Ieee.single.V R < 0
    · left; simpa using c1
    · right
      simp only [decide_eq_true_eq]
      apply Classical.byContradiction
      intro c2
      apply n1
      have m1 := Ieee.P2_mono (show (-3 : Int) ≤ 20 by omega)
      have m2 := Ieee.P2_pos 20
      exact Ieee.Format.Ht.of ⟨by grind, by grind⟩
  have hR2 : finE [R] ≠ 0 → htE [R] = finE [R] := by
    intro hf
    have a1 : allFin [R] = false := by
      cases h : allFin [R]
      · rfl
      · exact absurd (Ieee.Format.finE_ok h) hf
    rw [Ieee.Format.htE_bad a1, Ieee.Format.finE_bad a1]
  have hR3 : finE [R] ≠ 0 → htE [R] ≠ 0 := fun h => by rw [hR2 h]; exact h
  unfold wearE shareE2
  by_cases h1 : htE [T] = 0
  · have := hT h1
    simp only [h1, this]
    by_cases h2 : finE [R] = 0
    · by_cases h3 : htE [R] = 0
      · simp only [h2, h3]
        cases lss T 0 <;> cases lss R 0 <;> cases gtr R 1040187392 <;> simp
      · obtain ⟨h4, h5⟩ := hR h2 h3
        simp only [h2, h4]
        cases lss T 0 <;> rcases h5 with h5 | h5 <;> simp [h5]
    · have h3 := hR2 h2
      simp only [h3]
      cases lss T 0 <;> simp [h2]
  · simp [h1]

theorem refcheck_wear (T R : Nat) (n : Int) (w : World) (hT : T < 4294967296) (hR : R < 4294967296) :
    Calls Tryz.prog 64 #[wearV T R n] w fun e w' => e = .returned (.int .i64 (wearE T R n)) ∧ Below w.heap.size w w' := by
  have KT := Lib.hid (fun w => refshare_any T 1233125376 hT w)
  have KR := Lib.hid (fun w => refshare_any R 1040187392 hR w)
  clear hT hR
  rw [wearE_share]
  generalize shareE2 T 1233125376 = a at *
  generalize shareE2 R 1040187392 = b at *
  by_cases ha : a = 0
  · rw [ha] at KT
    rw [if_neg (by omega)]
    clear ha
    by_cases hb : b = 0
    · rw [hb] at KR
      rw [if_neg (by omega)]
      clear hb
      by_cases h4 : n < 0
      · rw [if_pos h4]
        go_enter Tryz.func64, Tryz.ntmps64
        go_wp2_with fail
        refine (KT.out _).mono ?_
        rintro e w1 ⟨rfl, b1⟩
        obtain ⟨hc, hf⟩ := bcell b1
        have HB := Lib.hid b1
        have hz : w.heap.size < w1.heap.size := by have := b1.size; simp at this; omega
        clear b1
        go_wp2_with fail
        refine (KR.out _).mono ?_
        rintro e w2 ⟨rfl, b2⟩
        obtain ⟨hc2, hf2⟩ := bcell b2
        have HB2 := Lib.hid b2
        clear b2
        go_wp2_with fail
        go_ret
        have B0 : Below w.heap.size w (w.alloc (.cells #[.float .f32 T, .float .f32 R, .int .i64 n] 68)) := (by repeat (first | with_reducible exact Below.refl _ _ | with_reducible apply Below.drew | with_reducible refine below_drewN ?_ _ | (with_reducible refine Below.setCell ?_ ?_ _; rotate_left; focus (first | omega | (simp <;> omega))) | (with_reducible refine Below.alloc ?_ ?_ _; rotate_left; focus (first | omega | (simp <;> omega)))))
        exact ⟨rfl, (B0.trans (HB.out.mono (by simp))).trans (HB2.out.mono (by omega))⟩
      · rw [if_neg h4]
        by_cases h5 : 64 < n
        · rw [if_pos h5]
          go_enter Tryz.func64, Tryz.ntmps64
          go_wp2_with fail
          refine (KT.out _).mono ?_
          rintro e w1 ⟨rfl, b1⟩
          obtain ⟨hc, hf⟩ := bcell b1
          have HB := Lib.hid b1
          have hz : w.heap.size < w1.heap.size := by have := b1.size; simp at this; omega
          clear b1
          go_wp2_with fail
          refine (KR.out _).mono ?_
          rintro e w2 ⟨rfl, b2⟩
          obtain ⟨hc2, hf2⟩ := bcell b2
          have HB2 := Lib.hid b2
          clear b2
          go_wp2_with fail
          go_ret
          have B0 : Below w.heap.size w (w.alloc (.cells #[.float .f32 T, .float .f32 R, .int .i64 n] 68)) := (by repeat (first | with_reducible exact Below.refl _ _ | with_reducible apply Below.drew | with_reducible refine below_drewN ?_ _ | (with_reducible refine Below.setCell ?_ ?_ _; rotate_left; focus (first | omega | (simp <;> omega))) | (with_reducible refine Below.alloc ?_ ?_ _; rotate_left; focus (first | omega | (simp <;> omega)))))
          exact ⟨rfl, (B0.trans (HB.out.mono (by simp))).trans (HB2.out.mono (by omega))⟩
        · rw [if_neg h5]
          go_enter Tryz.func64, Tryz.ntmps64
          go_wp2_with fail
          refine (KT.out _).mono ?_
          rintro e w1 ⟨rfl, b1⟩
          obtain ⟨hc, hf⟩ := bcell b1
          have HB := Lib.hid b1
          have hz : w.heap.size < w1.heap.size := by have := b1.size; simp at this; omega
          clear b1
          go_wp2_with fail
          refine (KR.out _).mono ?_
          rintro e w2 ⟨rfl, b2⟩
          obtain ⟨hc2, hf2⟩ := bcell b2
          have HB2 := Lib.hid b2
          clear b2
          go_wp2_with fail
          go_ret
          have B0 : Below w.heap.size w (w.alloc (.cells #[.float .f32 T, .float .f32 R, .int .i64 n] 68)) := (by repeat (first | with_reducible exact Below.refl _ _ | with_reducible apply Below.drew | with_reducible refine below_drewN ?_ _ | (with_reducible refine Below.setCell ?_ ?_ _; rotate_left; focus (first | omega | (simp <;> omega))) | (with_reducible refine Below.alloc ?_ ?_ _; rotate_left; focus (first | omega | (simp <;> omega)))))
          exact ⟨rfl, (B0.trans (HB.out.mono (by simp))).trans (HB2.out.mono (by omega))⟩
    · rw [if_pos hb]
      have hb' : (b != 0) = true := by rw [bne_iff_ne]; exact hb
      clear hb
      go_enter Tryz.func64, Tryz.ntmps64
      go_wp2_with fail
      refine (KT.out _).mono ?_
      rintro e w1 ⟨rfl, b1⟩
      obtain ⟨hc, hf⟩ := bcell b1
      have HB := Lib.hid b1
      have hz : w.heap.size < w1.heap.size := by have := b1.size; simp at this; omega
      clear b1
      go_wp2_with fail
      refine (KR.out _).mono ?_
      rintro e w2 ⟨rfl, b2⟩
      obtain ⟨hc2, hf2⟩ := bcell b2
      have HB2 := Lib.hid b2
      clear b2
      go_wp2_with fail
      go_ret
      have B0 : Below w.heap.size w (w.alloc (.cells #[.float .f32 T, .float .f32 R, .int .i64 n] 68)) := (by repeat (first | with_reducible exact Below.refl _ _ | with_reducible apply Below.drew | with_reducible refine below_drewN ?_ _ | (with_reducible refine Below.setCell ?_ ?_ _; rotate_left; focus (first | omega | (simp <;> omega))) | (with_reducible refine Below.alloc ?_ ?_ _; rotate_left; focus (first | omega | (simp <;> omega)))))
      exact ⟨rfl, (B0.trans (HB.out.mono (by simp))).trans (HB2.out.mono (by omega))⟩
  · rw [if_pos ha]
    have ha' : (a != 0) = true := by rw [bne_iff_ne]; exact ha
    clear ha
    go_enter Tryz.func64, Tryz.ntmps64
    go_wp2_with fail
    refine (KT.out _).mono ?_
    rintro e w1 ⟨rfl, b1⟩
    obtain ⟨hc, hf⟩ := bcell b1
    have HB := Lib.hid b1
    have hz : w.heap.size < w1.heap.size := by have := b1.size; simp at this; omega
    clear b1
    go_wp2_with fail
    go_ret
    have B0 : Below w.heap.size w (w.alloc (.cells #[.float .f32 T, .float .f32 R, .int .i64 n] 68)) := (by repeat (first | with_reducible exact Below.refl _ _ | with_reducible apply Below.drew | with_reducible refine below_drewN ?_ _ | (with_reducible refine Below.setCell ?_ ?_ _; rotate_left; focus (first | omega | (simp <;> omega))) | (with_reducible refine Below.alloc ?_ ?_ _; rotate_left; focus (first | omega | (simp <;> omega)))))
    exact ⟨rfl, B0.trans (HB.out.mono (by simp))⟩
end Go.Proofs.YtimhpmccmafnpaaGreat





namespace Go.Proofs.YtimhpmccmafnpaaGreat
open Go.Shelf
open Go.ChangeShapes Go.WideShapes Go.ChangeAt Go.RowKit
open Ieee.Format (fin finE htE allFin allHt all_true all_false mulF subF addF Ht Bd smoothF smooth2 smooth_bd const_eighth const_2nd)
set_option linter.unusedVariables false

/-- the values at a cell and around it, given to a function -/
def nbr (φ : Nat → Nat → Nat → Nat → Nat → Nat) (l : List Nat) (Wn k : Nat) : Nat := φ (l.getD (k - Wn) 0) (l.getD (k + Wn) 0) (l.getD (k + 1) 0) (l.getD (k - 1) 0) (l.getD k 0)

end Go.Proofs.YtimhpmccmafnpaaGreat

namespace Go.Proofs.YtimhpmccmafnpaaGreat
open Go.Shelf
open Go.ChangeShapes Go.WideShapes Go.ChangeAt Go.RowKit
set_option linter.unusedVariables false

end Go.Proofs.YtimhpmccmafnpaaGreat

namespace Go.Proofs.YtimhpmccmafnpaaGreat
open Go.Shelf
open Go.ChangeShapes Go.WideShapes Go.ChangeAt Go.RowKit
open Ieee.Format (fin finE htE allFin allHt all_true all_false mulF subF addF Ht)
set_option linter.unusedVariables false

end Go.Proofs.YtimhpmccmafnpaaGreat

namespace Go.Proofs.YtimhpmccmafnpaaGreat
open Go.Shelf
open Go.ChangeShapes Go.WideShapes Go.ChangeAt Go.RowKit
open Ieee.Format (fin finE htE allFin allHt all_true all_false mulF subF addF Ht)
set_option linter.unusedVariables false

end Go.Proofs.YtimhpmccmafnpaaGreat

namespace Go.Proofs.YtimhpmccmafnpaaGreat
open Go.Shelf
open Go.ChangeShapes Go.WideShapes Go.ChangeAt Go.RowKit
open Ieee.Format (fin finE htE allFin allHt all_true all_false mulF subF addF Ht)
set_option linter.unusedVariables false

end Go.Proofs.YtimhpmccmafnpaaGreat


namespace Go.Proofs.YtimhpmccmafnpaaGreat
open Go.ChangeShapes Go.WideShapes Go.ChangeAt Go.RowKit
open Ieee.Format (fin finE htE allFin allHt all_true all_false mulF subF addF Ht Bd divF rootF floorF easeF mixF)
set_option linter.unusedVariables false

/-- a block that is known whole -/
def Blk (w : World) (k : Nat) (cs : Array Value) (t : TypeId) : Prop := w.heap[k]? = some (.cells cs t (0, 0))
theorem Blk.lt {w : World} {k : Nat} {cs : Array Value} {t : TypeId} (h : Blk w k cs t) : k < w.heap.size := by
  rcases Nat.lt_or_ge k w.heap.size with hlt | hge
  · exact hlt
  · unfold Blk at h; rw [Array.getElem?_eq_none hge] at h; cases h
theorem Blk.cell {w : World} {k : Nat} {cs : Array Value} {t : TypeId} (h : Blk w k cs t) (i : Nat) : w.cell? ⟨k, i, none⟩ = cs[i]? := cell_of_row w k i _ _ _ h
theorem Blk.frozen {w : World} {k : Nat} {cs : Array Value} {t : TypeId} (h : Blk w k cs t) (i : Nat) : w.frozen? ⟨k, i, none⟩ = false := frozen_of_row w k i _ _ h
theorem Blk.below {w w' : World} {B k : Nat} {cs : Array Value} {t : TypeId} (h : Blk w k cs t) (hb : Below B w w') (hk : k < B) : Blk w' k cs t := (hb.block k hk).trans h
theorem Blk.new (w : World) (cs : Array Value) (t : TypeId) : Blk (w.alloc (.cells cs t)) w.heap.size cs t := heap_alloc_new w _
theorem Blk.alloc {w : World} {k : Nat} {cs : Array Value} {t : TypeId} (h : Blk w k cs t) (o : Obj) : Blk (w.alloc o) k cs t := (Below.heap_alloc w o k h.lt).trans h
theorem Blk.drew {w : World} {k : Nat} {cs : Array Value} {t : TypeId} (h : Blk w k cs t) : Blk w.drew k cs t := h
theorem Blk.drewN {w : World} {k : Nat} {cs : Array Value} {t : TypeId} (h : Blk w k cs t) (n : Nat) : Blk (w.drewN n) k cs t := h
theorem Blk.setCell {w : World} {k : Nat} {cs : Array Value} {t : TypeId} (h : Blk w k cs t) {p : Addr} (hp : k ≠ p.block) (u : Value) : Blk (w.setCell p u) k cs t := (Below.heap_setCell w p u k hp).trans h

theorem ret_f {x y : Nat} (h : x = y) : Ending.returned (.float .f32 x) = .returned (.float .f32 y) := by rw [h]

end Go.Proofs.YtimhpmccmafnpaaGreat


namespace Go.Proofs.YtimhpmccmafnpaaGreat
open Go.ChangeShapes Go.WideShapes Go.ChangeAt Go.RowKit
open Ieee.Format (fin finE htE allFin allHt all_true all_false mulF subF addF Ht Bd divF rootF floorF easeF mixF)
set_option linter.unusedVariables false
open Ieee.Format (addF_lt)

theorem OutV.base {c X Y W H : Int} {m : List Nat} {w : World} {B B' : Nat} {x y p q : Int} {a : Option Addr} {n k : Nat} (h : OutV c X Y W H m w B x y p q a n k) (hb : B' ≤ B) : OutV c X Y W H m w B' x y p q a n k := by
  rcases h with h | ⟨h0, h1, h2, h3, h4, g, h5, h6, h7⟩
  · exact .inl h
  · exact .inr ⟨h0, h1, h2, h3, h4, g, h5, h6, h7.base hb⟩

end Go.Proofs.YtimhpmccmafnpaaGreat




namespace Go.Proofs.YtimhpmccmafnpaaGreat
open Go.ChangeShapes Go.WideShapes Go.ChangeAt Go.RowKit
open Ieee.Format (fin finE htE allFin allHt all_true all_false mulF subF addF Ht Bd divF rootF floorF easeF mixF)
set_option linter.unusedVariables false
open Ieee.Format (floor_spec whole_int frac_bd frac_zero const_40)

theorem run_floor64 (X : Nat) (s : Bool) (m : Nat) (i : Int) (hd : FloatKind.decode .f64 X = .number s m i) (w : World) : (callFunc 135 #[.float .f64 X]).run Tryz.prog w = .ok (.value (.float .f64 (FloatKind.encode .f64 (Ieee.Datum.integral .down (.number s m i))))) w := by
  rw [run_callFunc_extern Tryz.func135 (by kernel_rfl) (by kernel_rfl) (by kernel_rfl) (show _ = some (Extern.MathFloor.toIntegral "math.archFloor" .down) by kernel_rfl)]
  have e : Extern.MathFloor.toIntegral "math.archFloor" .down #[.float .f64 X] = pure (.float .f64 (FloatKind.encode .f64 (Ieee.Datum.integral .down (.number s m i)))) := by
    change (match FloatKind.f64.decode X with | .nan s t => _ | d => (pure (.float .f64 (FloatKind.encode .f64 (Ieee.Datum.integral .down d))) : Sem Value)) = _
    rw [hd]
  rw [e]; rfl
theorem mathfloor_any (X : Nat) (s : Bool) (m : Nat) (i : Int) (hd : FloatKind.decode .f64 X = .number s m i) (w : World) : Calls Tryz.prog 85 #[.float .f64 X] w fun e w' => e = .returned (.float .f64 (FloatKind.encode .f64 (Ieee.Datum.integral .down (.number s m i)))) ∧ w = w' := by
  have K := run_floor64 X s m i hd
  clear hd
  generalize FloatKind.encode .f64 (Ieee.Datum.integral .down (.number s m i)) = Z at *
  go_enter Tryz.func85, Tryz.ntmps85
  go_wp2
  go_ret
  exact ⟨rfl, rfl⟩

theorem floor_any (x : Nat) (hx : fin Ieee.single x) (hl : x < 4294967296) (w : World) : Calls Tryz.prog 45 #[.float .f32 x] w fun e w' => e = .returned (.float .f32 (floorF x)) ∧ w = w' := by
  obtain ⟨X, s, m, i, a, b, c, _⟩ := floor_spec hx hl
  have ka := fun w => run_convert_float_float (P := Tryz.prog) w 46 107 .f32 .f64 x X (by kernel_rfl) Tryz.underlying107 a
  have kc := fun w => run_convert_float_float (P := Tryz.prog) w 107 46 .f64 .f32 _ (floorF x) (by kernel_rfl) Tryz.underlying46 c
  have KS := Lib.hid (fun w => mathfloor_any X s m i b w)
  generalize FloatKind.encode .f64 (Ieee.Datum.integral .down (.number s m i)) = Z at *
  generalize floorF x = r at *
  clear a b c hx hl
  go_enter Tryz.func45, Tryz.ntmps45
  go_wp2_with fail
  refine (KS.out _).mono ?_
  rintro e w' ⟨rfl, rfl⟩
  go_wp2_with fail
  go_ret
  exact ⟨rfl, rfl⟩
theorem reffloor_any (x : Nat) (hx : fin Ieee.single x) (hl : x < 4294967296) (w : World) : Calls Tryz.prog 66 #[.float .f32 x] w fun e w' => e = .returned (.float .f32 (floorF x)) ∧ w = w' := by
  obtain ⟨X, s, m, i, a, b, c, _⟩ := floor_spec hx hl
  have ka := fun w => run_convert_float_float (P := Tryz.prog) w 46 107 .f32 .f64 x X (by kernel_rfl) Tryz.underlying107 a
  have kc := fun w => run_convert_float_float (P := Tryz.prog) w 107 46 .f64 .f32 _ (floorF x) (by kernel_rfl) Tryz.underlying46 c
  have KS := Lib.hid (fun w => mathfloor_any X s m i b w)
  generalize FloatKind.encode .f64 (Ieee.Datum.integral .down (.number s m i)) = Z at *
  generalize floorF x = r at *
  clear a b c hx hl
  go_enter Tryz.func66, Tryz.ntmps66
  go_wp2_with fail
  refine (KS.out _).mono ?_
  rintro e w' ⟨rfl, rfl⟩
  go_wp2_with fail
  go_ret
  exact ⟨rfl, rfl⟩

def floorZ (x : Nat) : Int := (floatToIntVal .f32 (floorF x) .i64).getD 0
theorem floorZ_spec {x : Nat} (hx : fin Ieee.single x) (hl : x < 4294967296) (h1 : -Ieee.P2 40 ≤ Ieee.single.V x) (h2 : Ieee.single.V x ≤ Ieee.P2 40) :
    floatToIntVal .f32 (floorF x) .i64 = some (floorZ x) ∧ Ieee.single.V (floorF x) = (floorZ x : Rat) ∧ (floorZ x : Rat) ≤ Ieee.single.V x ∧ Ieee.single.V x < (floorZ x : Rat) + 1 ∧ -1099511627776 ≤ floorZ x ∧ floorZ x ≤ 1099511627776 := by
  obtain ⟨X, s, m, i, _, _, _, hf, _, z, g1, g2, g3⟩ := floor_spec hx hl
  have e40 : Ieee.P2 40 = ((1099511627776 : Int) : Rat) := Ieee.P2_nat 40
  have b1 : z ≤ 1099511627776 := by
    have : (z : Rat) ≤ ((1099511627776 : Int) : Rat) := by rw [← e40]; grind
    exact Rat.intCast_le_intCast.1 this
  have b2 : -1099511627776 < z + 1 := by
    have : ((-1099511627776 : Int) : Rat) < ((z + 1 : Int) : Rat) := by
      rw [Rat.intCast_add, show (-1099511627776 : Int) = -(1099511627776 : Int) from rfl, Rat.intCast_neg, ← e40]
      have : ((1 : Int) : Rat) = 1 := rfl
      grind
    exact Rat.intCast_lt_intCast.1 this
  have hw := whole_int hf g1 (by omega) (by omega)
  have e : floorZ x = z := by unfold floorZ; rw [hw]; rfl
  rw [e]
  exact ⟨hw, g1, g2, g3, by omega, b1⟩

end Go.Proofs.YtimhpmccmafnpaaGreat



namespace Go.Proofs.YtimhpmccmafnpaaGreat
open Go.ChangeShapes Go.WideShapes Go.ChangeAt Go.RowKit
open Ieee.Format (fin finE htE allFin allHt all_true all_false mulF subF addF Ht Bd divF rootF floorF easeF mixF)
set_option linter.unusedVariables false
open Ieee.Format (const_0 const_1 const_m24 frac_bd floor_spec add_nonneg sub_nonneg div_bound div_nonneg)

def sel2 (soft d : Nat) : Nat := if lss d soft = true then subF 1065353216 (easeF (divF d soft)) else 0
def selF (lo hi soft v : Nat) : Nat := if lss v lo = true then sel2 soft (subF lo v) else if gtr v hi = true then sel2 soft (subF v hi) else 1065353216

/-- what the walk of a selection needs -/
structure SelOk (soft D : Nat) : Prop where
  d : fin Ieee.single D
  s : fin Ieee.single soft
  pos : lss D soft = true → 0 < Ieee.single.V soft
  sh : lss D soft = true → Share (divF D soft)
  e : lss D soft = true → fin Ieee.single (easeF (divF D soft))
  r : lss D soft = true → fin Ieee.single (subF 1065353216 (easeF (divF D soft)))
  ht : Ht (sel2 soft D)
theorem sel_ok {soft d : Nat} (hd : fin Ieee.single d) (d0 : 0 ≤ Ieee.single.V d) (hs : fin Ieee.single soft) : SelOk soft d := by
  have key : lss d soft = true → 0 < Ieee.single.V soft ∧ Share (divF d soft) ∧ fin Ieee.single (easeF (divF d soft)) ∧ fin Ieee.single (subF 1065353216 (easeF (divF d soft))) ∧ Ht (subF 1065353216 (easeF (divF d soft))) := by
    intro h
    rw [lss_V hd hs] at h
    have h := of_decide_eq_true h
    have p : 0 < Ieee.single.V soft := by grind
    have m1 : Ieee.single.V 1065353216 * Ieee.single.V soft = Ieee.single.V soft := by rw [const_1.2.1, Rat.one_mul]
    obtain ⟨q1, q2, q3⟩ := div_bound hd hs p const_1.1 const_1.2.2 (by rw [m1]; grind) (by rw [m1]; grind)
    have q4 := div_nonneg hd hs p q1 d0
    rw [const_1.2.1] at q2
    obtain ⟨_, _, _, e1, e2, e3⟩ := Ieee.Format.ease_ok q1 q4 q2
    have hr := (Ieee.Format.subF_spec const_1.1 e1).2
    have b := hr.bd (k := 0) (by omega) (by rw [const_1.2.1]; show _ ≤ Ieee.P2 0; rw [Ieee.P2_zero]; grind) (by rw [const_1.2.1]; show -Ieee.P2 0 ≤ _; rw [Ieee.P2_zero]; grind)
    have hm := Ieee.P2_mono (show (0 : Int) ≤ 20 by omega)
    have b2 := b.2
    exact ⟨p, ⟨q1, q4, q2⟩, e1, b.1, Ieee.Format.Ht.of ⟨by have := b2.1; simp only [Int.cast_ofNat_Int] at this; grind, by have := b2.2; simp only [Int.cast_ofNat_Int] at this; grind⟩⟩
  refine ⟨hd, hs, fun h => (key h).1, fun h => (key h).2.1, fun h => (key h).2.2.1, fun h => (key h).2.2.2.1, ?_⟩
  unfold sel2
  split
  · rename_i h; exact (key h).2.2.2.2
  · decide
theorem sel_lo {lo hi v : Nat} (soft : Nat) (hlo : Ht lo) (hv : Ht v) (hs : Ht soft) (h : lss v lo = true) : SelOk soft (subF lo v) := by
  have b := (Ieee.Format.Ht.bd hlo).sub (Ieee.Format.Ht.bd hv) (by omega)
  rw [lss_V hv.fin hlo.fin] at h
  have h := of_decide_eq_true h
  exact sel_ok b.1 (sub_nonneg hlo.fin hv.fin b.1 (by grind)) hs.fin
theorem sel_hi {lo hi v : Nat} (soft : Nat) (hhi : Ht hi) (hv : Ht v) (hs : Ht soft) (h : gtr v hi = true) : SelOk soft (subF v hi) := by
  have b := (Ieee.Format.Ht.bd hv).sub (Ieee.Format.Ht.bd hhi) (by omega)
  rw [gtr_V hv.fin hhi.fin] at h
  have h := of_decide_eq_true h
  exact sel_ok b.1 (sub_nonneg hv.fin hhi.fin b.1 (by grind)) hs.fin
theorem selF_lt (lo hi soft v : Nat) : selF lo hi soft v < 4294967296 := by
  have h : ∀ d, sel2 soft d < 4294967296 := by
    intro d; unfold sel2; split
    · exact Ieee.Format.subF_lt _ _
    · decide
  unfold selF
  split
  · exact h _
  · split
    · exact h _
    · decide

/-- terraces -/
def ter1 (step v : Nat) : Nat := divF v step
def ter2 (step v : Nat) : Nat := floorF (ter1 step v)
def ter3 (step v : Nat) : Nat := subF (ter1 step v) (ter2 step v)
def ter4 (step sharp v : Nat) : Nat := divF (subF (ter3 step v) sharp) (subF 1065353216 sharp)
def terF (step sharp v : Nat) : Nat := if lss (ter3 step v) sharp = true then mulF (ter2 step v) step else mulF (addF (ter2 step v) (ter4 step sharp v)) step
structure TerOk (step sharp : Nat) : Prop where
  st : Bd 10 step
  st1 : Ieee.P2 (-10) ≤ Ieee.single.V step
  sh : fin Ieee.single sharp
  sh0 : 0 ≤ Ieee.single.V sharp
  sh1 : Ieee.single.V sharp < 1
theorem sharp_gap {s : Nat} (hs : fin Ieee.single s) (h0 : 0 ≤ Ieee.single.V s) (h1 : Ieee.single.V s < 1) : Ieee.single.V s ≤ 1 - Ieee.P2 (-24) := by
  have e : Ieee.single.V s = Ieee.single.rv (Ieee.single.rung s) ∨ Ieee.single.V s = 0 := by
    unfold Ieee.Format.V at *
    have n := Ieee.single.rv_nonneg (Ieee.single.rung s)
    cases hh : Ieee.single.sgn s
    · left; simp [Ieee.sg]
    · right; rw [hh] at h0; simp only [Ieee.sg, if_true] at h0 ⊢; grind
  have p := Ieee.P2_lt (show (-24 : Int) < 0 by omega)
  rw [Ieee.P2_zero] at p
  rcases e with e | e
  · have c1 : Ieee.single.rv 1065353216 = 1 := by
      have := const_1.2.1
      rw [Ieee.Format.V_pos_word const_1.2.2] at this
      exact this
    rw [e, ← c1] at h1
    have hr := Ieee.single.rv_lt_iff.1 h1
    have hm := Ieee.single.rv_mono (show Ieee.single.rung s ≤ 1065353215 by omega)
    have c2 := Ieee.single.rv_succ 1065353215
    rw [show 1065353215 + 1 = 1065353216 from rfl, c1, show Ieee.single.rplace 1065353215 = -24 from by decide] at c2
    rw [e]; grind
  · rw [e]; grind
theorem ter_bd {step sharp v : Nat} (h : TerOk step sharp) (hv : Bd 20 v) :
    Bd 30 (ter1 step v) ∧ Bd 31 (ter2 step v) ∧ Bd 0 (ter3 step v) ∧ Bd 41 (mulF (ter2 step v) step) ∧ Bd 1 (subF (ter3 step v) sharp) ∧ fin Ieee.single (subF 1065353216 sharp) ∧ Ieee.single.V (subF 1065353216 sharp) ≠ 0 ∧ Bd 25 (ter4 step sharp v) ∧ Bd 32 (addF (ter2 step v) (ter4 step sharp v)) ∧ Bd 42 (mulF (addF (ter2 step v) (ter4 step sharp v)) step) ∧ ter1 step v < 4294967296 := by
  have a1 : Bd 30 (ter1 step v) := Ieee.Format.Bd.div (j := 10) hv h.st.1 h.st1 (by omega)
  have l1 : ter1 step v < 4294967296 := Ieee.Format.divF_lt _ _
  have a2 : Bd 31 (ter2 step v) := by
    obtain ⟨X, s, m, i, _, _, _, hf, _, z, g1, g2, g3⟩ := floor_spec a1.1 l1
    refine ⟨hf, ?_⟩
    rw [show ter2 step v = floorF (ter1 step v) from rfl, g1]
    have b := a1.2
    have p30 := Ieee.P2_succ 30
    have p0 := Ieee.P2_mono (show (0 : Int) ≤ 30 by omega)
    rw [Ieee.P2_zero] at p0
    simp only [Int.cast_ofNat_Int] at b ⊢
    rw [show (31 : Int) = 30 + 1 from rfl, p30]
    constructor <;> grind
  obtain ⟨a3, _⟩ := frac_bd a1.1 l1
  have a4 := a2.mul h.st (by omega)
  have p0 : Bd 0 sharp := ⟨h.sh, by
    have := h.sh0; have := h.sh1
    show -Ieee.P2 0 ≤ _ ∧ _ ≤ Ieee.P2 0
    rw [Ieee.P2_zero]; constructor <;> grind⟩
  have a5 := Ieee.Format.Bd.sub (k := 0) a3 p0 (by omega)
  have o0 : Bd 0 1065353216 := Ieee.Format.one_Bd 0
  have a6 := o0.sub p0 (by omega)
  have gap := sharp_gap h.sh h.sh0 h.sh1
  have pp := Ieee.P2_pos (-24)
  have a7 : Ieee.P2 (-24) ≤ Ieee.single.V (subF 1065353216 sharp) := by
    have := (Ieee.Format.subF_spec const_1.1 h.sh).2.ge_const (c := 864026624) a6.1 const_m24.2.2 (by rw [const_m24.2.1]; exact pp) (by rw [const_m24.2.1, const_1.2.1]; grind)
    rw [const_m24.2.1] at this; exact this
  have a8 : Bd 25 (ter4 step sharp v) := Ieee.Format.Bd.div (j := 24) a5 a6.1 a7 (by omega)
  have a9 := a2.add (a8.mono (show 25 ≤ 31 by omega)) (by omega)
  exact ⟨a1, a2, a3, a4, a5, a6.1, by intro e; rw [e] at a7; grind, a8, a9, a9.mul h.st (by omega), l1⟩
theorem terF_lt (step sharp v : Nat) : terF step sharp v < 4294967296 := by
  unfold terF; split <;> exact Ieee.Format.mulF_lt _ _
end Go.Proofs.YtimhpmccmafnpaaGreat




namespace Go.Proofs.YtimhpmccmafnpaaGreat
open Go.ChangeShapes Go.WideShapes Go.ChangeAt Go.RowKit
open Ieee.Format (fin finE htE allFin allHt all_true all_false mulF subF addF Ht Bd divF rootF floorF easeF mixF)
set_option linter.unusedVariables false

/-! ### a function that counts its calls -/
theorem But.setq {B : Nat} {q : Nat → Prop} {w : World} {p : Addr} (u : Value) (h : q p.block) : But B q w (w.setCell p u) := by
  refine ⟨(Below.setCell (Below.refl 0 w) (Nat.zero_le _) u).os, (Below.setCell (Below.refl 0 w) (Nat.zero_le _) u).tape, (Below.setCell (Below.refl 0 w) (Nat.zero_le _) u).output, (Below.setCell (Below.refl 0 w) (Nat.zero_le _) u).size, ?_⟩
  intro k _ hk
  exact Below.heap_setCell w p u k (fun e => hk (e ▸ h))
theorem But.lowp {B p : Nat} {w w' : World} (h : But B (fun k => k = p) w w') (hp : p ≤ B) : Below p w w' := by
  refine ⟨h.os, h.tape, h.output, h.size, fun k hk => ?_⟩
  exact h.block k (by omega) (by omega)
theorem Blk.but {w w' : World} {B p k : Nat} {cs : Array Value} {t : TypeId} (h : Blk w k cs t) (hb : But B (fun j => j = p) w w') (hk : k < B) (hp : k ≠ p) : Blk w' k cs t := (hb.block k hk hp).trans h
theorem Fld.but {w w' : World} {B p k : Nat} {X Y W H : Int} {v : Value} (h : Fld w k X Y W H v) (hb : But B (fun j => j = p) w w') (hk : k < B) (hp : k ≠ p) : Fld w' k X Y W H v := (hb.block k hk hp).trans h
theorem SRow.but {w w' : World} {B p b o : Nat} {l : List Nat} (h : SRow w (some ⟨b, o, none⟩) l) (hb : But B (fun j => j = p) w w') (hk : b < B) (hp : b ≠ p) : SRow w' (some ⟨b, o, none⟩) l := by
  refine ⟨h.1, ?_⟩
  rcases h.2 with h0 | ⟨b', o', e, h1⟩
  · exact .inl h0
  · simp only [Option.some.injEq, Addr.mk.injEq] at e
    obtain ⟨rfl, rfl, _⟩ := e
    exact .inr ⟨b, o, rfl, fun i hi => by rw [hb.cell hk hp]; exact h1 i hi⟩

abbrev CntAt (w : World) (p : Nat) (c : Int) : Prop := Blk w p #[.int .i64 c] 3
/-- what Make gives whose function counts -/
def MakeCP (p : Nat) (X Y W H : Int) (m : List Nat) (w : World) (e : Ending) (w' : World) : Prop :=
  (∃ g cap, e = .returned (fldV X Y W H (some ⟨g, 0, none⟩) m.length cap) ∧ OwnF w' w.heap.size g cap m) ∧ Below p w w'
theorem make_cnt (gn : Nat) (caps : Array Value) (p : Nat) (ψ : Int → Int → Nat) (X Y : Int) (Wn Hn : Nat) (w : World) (h1 : 1 ≤ Wn) (h2 : Wn ≤ 512) (h3 : 1 ≤ Hn) (h4 : Hn ≤ 512)
    (h5 : -8388608 ≤ X) (h6 : X ≤ 8388608) (h7 : -8388608 ≤ Y) (h8 : Y ≤ 8388608)
    (eg : ∀ args w, (callFunc gn args).run Tryz.prog w = .ok (.enter gn args) w) (hp : CntAt w p (-1))
    (hψ : ∀ x y, ψ x y < 4294967296)
    (hf : ∀ i j k : Nat, i < Wn → j < Hn → k = j * Wn + i → ∀ W', But w.heap.size (fun k => k = p) w W' → CntAt W' p ((k : Int) - 1) → Calls Tryz.prog gn (#[.int .i64 (X + (i : Int)), .int .i64 (Y + (j : Int))] ++ caps) W' fun e w' => e = .returned (.float .f32 (ψ (X + (i : Int)) (Y + (j : Int)))) ∧ But W'.heap.size (fun k => k = p) W' w' ∧ CntAt w' p (k : Int)) :
    Calls Tryz.prog 69 #[reg X Y Wn Hn, .func (.func gn) #[] caps] w fun e w' => MakeCP p X Y Wn Hn (madeL ψ X Y Wn (Hn * Wn)) w e w' := by
  have hpl := hp.lt
  refine (make_st gn caps (fun k => k = p) (fun n W => CntAt W p ((n : Int) - 1)) ψ X Y Wn Hn w h1 h2 h3 h4 h5 h6 h7 h8 eg (fun k hk => by omega) (by show CntAt w p (((0 : Nat) : Int) - 1); rw [show (((0 : Nat) : Int) - 1) = -1 by decide]; exact hp) (fun n W W' hs h hb => h.below hb hpl) (fun x y _ _ _ _ => hψ x y) ?_).mono ?_
  · intro i j hi hj W' hb hJ
    refine (hf i j _ hi hj rfl W' hb hJ).mono ?_
    rintro e w' ⟨he, h9, h10⟩
    refine ⟨he, h9, ?_⟩
    rw [show ((j * Wn + i + 1 : Nat) : Int) - 1 = ((j * Wn + i : Nat) : Int) by omega]
    exact h10
  · rintro e w' ⟨h9, h10, _⟩
    exact ⟨h9, h10.lowp (by omega)⟩

/-- the number of a cell by its row and column -/
theorem cell_ij {X Y : Int} {Wn : Nat} {i j k : Nat} (h : k = j * Wn + i) : (cellNo X Y Wn (X + (i : Int)) (Y + (j : Int))).toNat = k := by
  unfold cellNo
  rw [show Y + (j : Int) - Y = (j : Int) by omega, ← Int.natCast_mul]
  omega
theorem cell_lt {Wn Hn i j k : Nat} (hi : i < Wn) (hj : j < Hn) (h : k = j * Wn + i) : k < Hn * Wn := by
  have := Nat.mul_le_mul_right Wn (show j + 1 ≤ Hn from hj)
  rw [Nat.add_mul, Nat.one_mul] at this
  omega

/-! ### Ease of a share -/
theorem shareE_of {t : Nat} (h : Share t) : shareE t = 0 := by
  refine shareE_ok h.1 ?_
  have a : lss t 0 = false := by
    have : lss t 0 = decide (Ieee.single.V t < Ieee.single.V 0) := Ieee.single.order_lt h.1 Ieee.Format.const_0.1
    rw [this, Ieee.Format.const_0.2.1]; have := h.2.1; simp; grind
  have b : gtr t 1065353216 = false := by
    have : gtr t 1065353216 = decide (Ieee.single.V 1065353216 < Ieee.single.V t) := Ieee.single.order_gt h.1 Ieee.Format.const_1.1
    rw [this, Ieee.Format.const_1.2.1]; have := h.2.2; simp; grind
  rw [a, b]; rfl
theorem shapeease_any (t : Nat) (ht : t < 4294967296) (h : Share t) (w : World) : Calls Tryz.prog 144 #[.float .f32 t] w fun e w' => e = .returned (.float .f32 (easeF t)) ∧ Below w.heap.size w w' := by
  have K := Lib.hid (fun w => Ease_yes t ht (shareE_of h) h w)
  clear ht h
  go_enter Tryz.func144, Tryz.ntmps144
  go_wp2_with fail
  refine (K.out _).mono ?_
  rintro e w1 ⟨rfl, b1⟩
  have HB := Lib.hid b1
  clear b1
  go_wp2_with fail
  go_ret
  exact ⟨rfl, HB.out⟩
end Go.Proofs.YtimhpmccmafnpaaGreat



namespace Go.Proofs.YtimhpmccmafnpaaGreat
open Go.ChangeShapes Go.WideShapes Go.ChangeAt Go.RowKit
open Ieee.Format (fin finE htE allFin allHt all_true all_false mulF subF addF Ht Bd divF rootF floorF easeF mixF)
set_option linter.unusedVariables false
open Ieee.Format (negF gradF hypF slopeF lenF curve1 curveF nxF nyF nzF)

theorem run_neg (P : Program) (x : Nat) (w : World) : (Op.unary .neg (.float .f32 x)).run P w = .ok (.float .f32 (negF x)) w := by
  simp [Op.unary, Op.negFloat, negF, FloatKind.format, Ieee.single]

theorem run_sqrt (X Z : Nat) (h : Ieee.double.sqrt X = some Z) (w : World) : (callFunc 198 #[.float .f64 X]).run Tryz.prog w = .ok (.value (.float .f64 Z)) w := by
  rw [run_callFunc_extern Tryz.func198 (by kernel_rfl) (by kernel_rfl) (by kernel_rfl) (show _ = some Extern.MathSqrt.sqrt by kernel_rfl)]
  have e : Extern.MathSqrt.sqrt #[.float .f64 X] = pure (.float .f64 Z) := by
    change (match Ieee.double.sqrt X with | some r => (pure (.float .f64 r) : Sem Value) | none => _) = _
    rw [h]
  rw [e]; rfl

theorem mathsqrt_any (X Z : Nat) (h : Ieee.double.sqrt X = some Z) (w : World) : Calls Tryz.prog 184 #[.float .f64 X] w fun e w' => e = .returned (.float .f64 Z) ∧ w = w' := by
  have K := run_sqrt X Z h
  clear h
  go_enter Tryz.func184, Tryz.ntmps184
  go_wp2
  go_ret
  exact ⟨rfl, rfl⟩

theorem root_any (x : Nat) (hx : fin Ieee.single x) (h0 : 0 ≤ Ieee.single.V x) (w : World) : Calls Tryz.prog 146 #[.float .f32 x] w fun e w' => e = .returned (.float .f32 (rootF x)) ∧ w = w' := by
  obtain ⟨X, Z, a, b, c, _⟩ := Ieee.Format.root_spec hx h0
  have ka := fun w => run_convert_float_float (P := Tryz.prog) w 46 107 .f32 .f64 x X (by kernel_rfl) Tryz.underlying107 a
  have kc := fun w => run_convert_float_float (P := Tryz.prog) w 107 46 .f64 .f32 Z (rootF x) (by kernel_rfl) Tryz.underlying46 c
  have KS := Lib.hid (fun w => mathsqrt_any X Z b w)
  generalize rootF x = r at *
  clear a b c hx h0
  go_enter Tryz.func146, Tryz.ntmps146
  go_wp2_with fail
  refine (KS.out _).mono ?_
  rintro e w' ⟨rfl, rfl⟩
  go_wp2_with fail
  go_ret
  exact ⟨rfl, rfl⟩
theorem one_ne {y : Nat} (h : 1 ≤ Ieee.single.V y) : Ieee.single.V y ≠ 0 := by intro e; rw [e] at h; exact absurd h (by decide)

/-! ### the region without a rim -/
theorem inner_world (w : World) (X Y W H : Int) (v : Value) : ∀ W0, W0 = (w.alloc (.cells #[.int .i64 X, .int .i64 Y, .int .i64 W, .int .i64 H, v] 78)).alloc (.cells #[.int .i64 0, .int .i64 0, .int .i64 0, .int .i64 0] 33) →
    Fld W0 w.heap.size X Y W H v ∧ Reg W0 (w.heap.size + 1) 0 0 0 0 ∧ Below w.heap.size w W0 := by
  rintro _ rfl
  refine ⟨(Fld.new w X Y W H v).alloc _, ?_, (by repeat (first | with_reducible exact Below.refl _ _ | with_reducible apply Below.drew | with_reducible refine below_drewN ?_ _ | (with_reducible refine Below.setCell ?_ ?_ _; rotate_left; focus (first | omega | (simp <;> omega))) | (with_reducible refine Below.alloc ?_ ?_ _; rotate_left; focus (first | omega | (simp <;> omega)))))⟩
  have := Reg.new (w.alloc (.cells #[.int .i64 X, .int .i64 Y, .int .i64 W, .int .i64 H, v] 78)) 0 0 0 0
  simpa using this

theorem inner_ok (X Y : Int) (Wn Hn : Nat) (b o c : Nat) (l : List Nat) (w : World) (hl : SRow w (some ⟨b, o, none⟩) l) (hr : Right X Y Wn Hn l) (hw : 3 ≤ Wn) (hh : 3 ≤ Hn) :
    Calls Tryz.prog 161 #[fldV X Y Wn Hn (some ⟨b, o, none⟩) l.length c] w fun e w' => e = .returned (.tuple #[reg (X + 1) (Y + 1) ((Wn - 2 : Nat) : Int) ((Hn - 2 : Nat) : Int), .int .i64 0]) ∧ Below w.heap.size w w' := by
  have K := Lib.hid (fun w h => check_field X Y Wn Hn (some ⟨b, o, none⟩) c l w h)
  rw [hr.chk] at K
  have HL := Lib.hid hl
  have g1 := hr.w2; have g2 := hr.h2; have g3 := hr.x1; have g4 := hr.x2; have g5 := hr.y1; have g6 := hr.y2
  have KS := Lib.hid (fun w => smaller_ok X Y Wn Hn 1 w (by omega) (by omega) (by omega) (by omega) (by omega) (by omega) (by omega) (by omega) (by omega) (by omega))
  rw [show (Wn : Int) - 2 * 1 = ((Wn - 2 : Nat) : Int) from by omega, show (Hn : Int) - 2 * 1 = ((Hn - 2 : Nat) : Int) from by omega] at KS
  clear hl hr g1 g2 g3 g4 g5 g6 hw hh
  go_enter Tryz.func161, Tryz.ntmps161
  go_wp2_with fail
  generalize hW0 : (w.alloc (.cells #[.int .i64 X, .int .i64 Y, .int .i64 Wn, .int .i64 Hn, .slice (some ⟨b, o, none⟩) l.length c] 78)).alloc (.cells #[.int .i64 0, .int .i64 0, .int .i64 0, .int .i64 0] 33) = W0 at *
  obtain ⟨E0, F0, B0⟩ := inner_world w X Y Wn Hn (.slice (some ⟨b, o, none⟩) l.length c) W0 hW0.symm
  clear hW0
  refine (K.out _ (HL.out.below B0)).mono ?_
  rintro e w1 ⟨rfl, b1⟩
  have E1 := E0.below b1 E0.lt
  have F1 := F0.below b1 F0.lt
  have B1 := Lib.hid (B0.trans (b1.mono B0.size))
  clear b1 B0 F0 E0 K HL
  obtain ⟨c0, c1, c2, c3, c4⟩ := E1.cells
  have l1 := F1.lt
  have HF1 := Lib.hid F1
  clear F1 E1
  go_wp2_with fail
  refine (KS.out _).mono ?_
  rintro e w2 ⟨rfl, b2⟩
  have F2 := HF1.out.below b2 HF1.out.lt
  have HB2 := Lib.hid (B1.out.trans (b2.mono B1.out.size))
  have l2 := F2.lt
  clear b2 c0 c1 c2 c3 c4 B1 HF1 KS
  obtain ⟨d0, d1, d2, d3⟩ := F2.cells
  have q0 : w2.frozen? ⟨w.heap.size + 1, 0, none⟩ = false := frozen_of_row w2 _ 0 _ _ F2
  have q1 : w2.frozen? ⟨w.heap.size + 1, 1, none⟩ = false := frozen_of_row w2 _ 1 _ _ F2
  have q2 : w2.frozen? ⟨w.heap.size + 1, 2, none⟩ = false := frozen_of_row w2 _ 2 _ _ F2
  have q3 : w2.frozen? ⟨w.heap.size + 1, 3, none⟩ = false := frozen_of_row w2 _ 3 _ _ F2
  clear F2
  go_wp2_with fail
  have B3 := HB2.out
  exact bodyPost_ret (v := .tuple #[reg (X + 1) (Y + 1) ((Wn - 2 : Nat) : Int) ((Hn - 2 : Nat) : Int), .int .i64 0]) (by simp [results, Tryz.results161, go_sem, *]) rfl ⟨rfl, (by have hszz := B3.size; repeat (first | with_reducible exact B3 | with_reducible apply Below.drew | with_reducible refine below_drewN ?_ _ | (with_reducible refine Below.setCell ?_ ?_ _; rotate_left; focus (first | omega | (simp <;> omega))) | (with_reducible refine Below.alloc ?_ ?_ _; rotate_left; focus (first | omega | (simp <;> omega)))))⟩
/-- what an operation gives, its memory from the block 'B' on -/
def OpB (c : Int) (X Y W H : Int) (m : List Nat) (B : Nat) (w : World) (e : Ending) (w' : World) : Prop :=
  (∃ x y p q a n k, e = .returned (.tuple #[fldV x y p q a n k, .int .i64 c]) ∧ OutV c X Y W H m w' B x y p q a n k) ∧ Below w.heap.size w w'
def resC (m : List Nat) : Int := if allHt m = true then 0 else 3
theorem result_any (X Y W H : Int) (g cap B : Nat) (m : List Nat) (w : World) (ho : OwnF w B g cap m) (hm : m.length ≤ 1099511627776) :
    Calls Tryz.prog 94 #[fldV X Y W H (some ⟨g, 0, none⟩) m.length cap] w fun e w' => OpB (resC m) X Y W H m B w e w' := by
  unfold resC
  cases h : allHt m with
  | true =>
    rw [if_pos rfl]
    have hh := Ieee.Format.allHt_iff.1 h
    refine (result_ok X Y W H g 0 cap m w (ho.row hm) (fun j hj => ?_)).mono ?_
    · rw [List.getD_eq_getElem?_getD, List.getElem?_eq_getElem hj]; exact hh _ (List.getElem_mem hj)
    · rintro e w' ⟨rfl, b⟩
      exact ⟨⟨_, _, _, _, _, _, _, rfl, .inr ⟨rfl, rfl, rfl, rfl, rfl, g, rfl, rfl, ho.below b ho.lt.2⟩⟩, b⟩
  | false =>
    rw [if_neg (by decide)]
    refine (result_no X Y W H g 0 cap m w (ho.row hm) h).mono ?_
    rintro e w' ⟨rfl, b⟩
    exact ⟨⟨_, _, _, _, _, _, _, rfl, .inl ⟨by decide, rfl, rfl, rfl, rfl, rfl, rfl, rfl⟩⟩, b⟩
end Go.Proofs.YtimhpmccmafnpaaGreat



namespace Go.Proofs.YtimhpmccmafnpaaGreat
open Go.ChangeShapes Go.WideShapes Go.ChangeAt Go.RowKit
open Ieee.Format (fin finE htE allFin allHt all_true all_false mulF subF addF Ht Bd divF rootF floorF easeF mixF)
set_option linter.unusedVariables false
open Ieee.Format (const_0 const_1)

theorem select_any (lo hi soft v : Nat) (w : World) (hlo : Ht lo) (hhi : Ht hi) (hs : Ht soft) (hv : Ht v) :
    Calls Tryz.prog 110 #[.float .f32 v, .float .f32 lo, .float .f32 hi, .float .f32 soft] w fun e w' => e = .returned (.float .f32 (selF lo hi soft v)) ∧ Below w.heap.size w w' := by
  unfold selF
  cases h1 : lss v lo with
  | true =>
    rw [if_pos rfl]
    have hS := sel_lo (hi := hi) soft hlo hv hs h1
    have k1 := fun w' => run_float_arith (P := Tryz.prog) w' .sub 46 .f32 lo v (subF lo v) (Ieee.Format.bits_sub hlo.fin hv.fin)
    change (FloatKind.f32.format.order v lo == some .lt) = true at h1
    unfold sel2
    cases hd : lss (subF lo v) soft with
    | true =>
      rw [if_pos rfl]
      have k2 := fun w' => run_float_arith (P := Tryz.prog) w' .quo 46 .f32 (subF lo v) soft (divF (subF lo v) soft) (Ieee.Format.bits_div hS.d hS.s (by have := hS.pos hd; grind))
      have KE := Lib.hid (fun w => shapeease_any (divF (subF lo v) soft) (Ieee.Format.divF_lt _ _) (hS.sh hd) w)
      have k3 := fun w' => run_float_arith (P := Tryz.prog) w' .sub 46 .f32 1065353216 (easeF (divF (subF lo v) soft)) (subF 1065353216 (easeF (divF (subF lo v) soft))) (Ieee.Format.bits_sub const_1.1 (hS.e hd))
      change (FloatKind.f32.format.order (subF lo v) soft == some .lt) = true at hd
      clear hS hlo hhi hs hv
      generalize subF 1065353216 (easeF (divF (subF lo v) soft)) = z at *
      generalize easeF (divF (subF lo v) soft) = y at *
      generalize divF (subF lo v) soft = t at *
      generalize (subF lo v) = d at *
      go_enter Tryz.func110, Tryz.ntmps110
      go_wp2_with fail
      refine (KE.out _).mono ?_
      rintro e w1 ⟨rfl, b1⟩
      have HB := Lib.hid b1
      clear b1
      go_wp2_with fail
      go_ret
      exact ⟨rfl, HB.out⟩
    | false =>
      rw [if_neg (by decide)]
      change (FloatKind.f32.format.order (subF lo v) soft == some .lt) = false at hd
      clear hS hlo hhi hs hv
      generalize subF lo v = d at *
      go_enter Tryz.func110, Tryz.ntmps110
      go_wp2
      go_ret
      exact ⟨rfl, Below.refl _ _⟩
  | false =>
    rw [if_neg (by decide)]
    cases h2 : gtr v hi with
    | true =>
      rw [if_pos rfl]
      have hS := sel_hi (lo := lo) soft hhi hv hs h2
      have k1 := fun w' => run_float_arith (P := Tryz.prog) w' .sub 46 .f32 v hi (subF v hi) (Ieee.Format.bits_sub hv.fin hhi.fin)
      change (FloatKind.f32.format.order v lo == some .lt) = false at h1
      change (FloatKind.f32.format.order v hi == some .gt) = true at h2
      unfold sel2
      cases hd : lss (subF v hi) soft with
      | true =>
        rw [if_pos rfl]
        have k2 := fun w' => run_float_arith (P := Tryz.prog) w' .quo 46 .f32 (subF v hi) soft (divF (subF v hi) soft) (Ieee.Format.bits_div hS.d hS.s (by have := hS.pos hd; grind))
        have KE := Lib.hid (fun w => shapeease_any (divF (subF v hi) soft) (Ieee.Format.divF_lt _ _) (hS.sh hd) w)
        have k3 := fun w' => run_float_arith (P := Tryz.prog) w' .sub 46 .f32 1065353216 (easeF (divF (subF v hi) soft)) (subF 1065353216 (easeF (divF (subF v hi) soft))) (Ieee.Format.bits_sub const_1.1 (hS.e hd))
        change (FloatKind.f32.format.order (subF v hi) soft == some .lt) = true at hd
        clear hS hlo hhi hs hv
        generalize subF 1065353216 (easeF (divF (subF v hi) soft)) = z at *
        generalize easeF (divF (subF v hi) soft) = y at *
        generalize divF (subF v hi) soft = t at *
        generalize (subF v hi) = d at *
        go_enter Tryz.func110, Tryz.ntmps110
        go_wp2_with fail
        refine (KE.out _).mono ?_
        rintro e w1 ⟨rfl, b1⟩
        have HB := Lib.hid b1
        clear b1
        go_wp2_with fail
        go_ret
        exact ⟨rfl, HB.out⟩
      | false =>
        rw [if_neg (by decide)]
        change (FloatKind.f32.format.order (subF v hi) soft == some .lt) = false at hd
        clear hS hlo hhi hs hv
        generalize subF v hi = d at *
        go_enter Tryz.func110, Tryz.ntmps110
        go_wp2
        go_ret
        exact ⟨rfl, Below.refl _ _⟩
    | false =>
      rw [if_neg (by decide)]
      change (FloatKind.f32.format.order v lo == some .lt) = false at h1
      change (FloatKind.f32.format.order v hi == some .gt) = false at h2
      go_enter Tryz.func110, Tryz.ntmps110
      go_wp2
      go_ret
      exact ⟨rfl, Below.refl _ _⟩

end Go.Proofs.YtimhpmccmafnpaaGreat


namespace Go.Proofs.YtimhpmccmafnpaaGreat
open Go.ChangeShapes Go.WideShapes Go.ChangeAt Go.RowKit
open Ieee.Format (fin finE htE allFin allHt all_true all_false mulF subF addF Ht Bd divF rootF floorF easeF mixF)
set_option linter.unusedVariables false
open Ieee.Format (const_40 frac_bd frac_zero conv_exact)

theorem Right.bd' {X Y : Int} {Wn Hn : Nat} {l : List Nat} (h : Right X Y Wn Hn l) (i : Nat) : Bd 20 (l.getD i 0) := Ieee.Format.Ht.bd (h.getD i)
end Go.Proofs.YtimhpmccmafnpaaGreat


namespace Go.Proofs.YtimhpmccmafnpaaGreat
open Go.ChangeShapes Go.WideShapes Go.ChangeAt Go.RowKit
open Ieee.Format (fin finE htE allFin allHt all_true all_false mulF subF addF Ht Bd divF rootF floorF easeF mixF)
set_option linter.unusedVariables false
open Ieee.Format (const_40 frac_bd frac_zero conv_exact)

abbrev mag (x : Nat) : Nat := x % 2147483648
theorem mag_parts (x : Nat) : Ieee.single.rung (mag x) = Ieee.single.rung x ∧ Ieee.single.sgn (mag x) = false := by
  constructor
  · rw [Ieee.Format.rung_lit, Ieee.Format.rung_lit]; show x % 2147483648 % 2147483648 = _; rw [Nat.mod_mod]
  · rw [Ieee.Format.sgn_lit]
    have : mag x / 2147483648 = 0 := Nat.div_eq_of_lt (Nat.mod_lt _ (by decide))
    rw [this]; rfl
theorem mag_fin {x : Nat} (h : fin Ieee.single x) : fin Ieee.single (mag x) := by unfold fin at *; rw [(mag_parts x).1]; exact h
end Go.Proofs.YtimhpmccmafnpaaGreat
