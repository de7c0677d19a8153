import Derived.Test.YtnfebeebjelgbaaBrushF
import Derived.BigQuiet
namespace Go.Proofs.Ytnfebeebjelgbaa
open Go.ChangeShapes Go.WideShapes Go.ChangeAt Go.RowKit
open Ieee.Format (fin finE htE allFin allHt all_true all_false mulF subF addF Ht Bd divF rootF floorF easeF mixF)
set_option linter.unusedVariables false
open Ieee.Format (const_1)

abbrev brushV (k X Y R : Int) (H : Nat) : Value := .agg #[.int .i64 k, .int .i64 X, .int .i64 Y, .int .i64 R, .float .f32 H]
def placeE (X Y : Int) : Int := if X < -4194304 then 5 else if 4194304 < X then 5 else if Y < -4194304 then 5 else if 4194304 < Y then 5 else 0
def brushE (k X Y R : Int) (H : Nat) : Int := if k < 1 then 1 else if 3 < k then 1 else if placeE X Y ≠ 0 then 5 else if R < 1 then 3 else if 256 < R then 3 else htE [H]
theorem placeE_zero {X Y : Int} (h : placeE X Y = 0) : -4194304 ≤ X ∧ X ≤ 4194304 ∧ -4194304 ≤ Y ∧ Y ≤ 4194304 := by
  unfold placeE at h
  repeat (split at h; omega)
  omega
theorem placeE_of {X Y : Int} (h : -4194304 ≤ X ∧ X ≤ 4194304 ∧ -4194304 ≤ Y ∧ Y ≤ 4194304) : placeE X Y = 0 := by
  unfold placeE
  rw [if_neg (by omega), if_neg (by omega), if_neg (by omega), if_neg (by omega)]
theorem placeE_bad {X Y : Int} (h : ¬ (-4194304 ≤ X ∧ X ≤ 4194304 ∧ -4194304 ≤ Y ∧ Y ≤ 4194304)) : placeE X Y = 5 := by
  unfold placeE
  repeat (split; rfl)
  omega
theorem brush_zero {k X Y R : Int} {H : Nat} (h : brushE k X Y R H = 0) : 1 ≤ k ∧ k ≤ 3 ∧ (-4194304 ≤ X ∧ X ≤ 4194304 ∧ -4194304 ≤ Y ∧ Y ≤ 4194304) ∧ 1 ≤ R ∧ R ≤ 256 ∧ htE [H] = 0 := by
  unfold brushE at h
  by_cases h1 : k < 1
  · rw [if_pos h1] at h; omega
  · rw [if_neg h1] at h
    by_cases h2 : 3 < k
    · rw [if_pos h2] at h; omega
    · rw [if_neg h2] at h
      by_cases h3 : placeE X Y = 0
      · rw [if_neg (by omega)] at h
        by_cases h4 : R < 1
        · rw [if_pos h4] at h; omega
        · rw [if_neg h4] at h
          by_cases h5 : 256 < R
          · rw [if_pos h5] at h; omega
          · rw [if_neg h5] at h
            exact ⟨by omega, by omega, placeE_zero h3, by omega, by omega, h⟩
      · rw [if_pos h3] at h; omega

theorem checkplace_any (X Y : Int) (w : World) : Calls Try.prog 89 #[.int .i64 X, .int .i64 Y] w fun e w' => e = .returned (.int .i64 (placeE X Y)) ∧ w = w' := by
  unfold placeE
  by_cases h1 : X < -4194304
  · rw [if_pos h1]
    go_enter Try.func89, Try.ntmps89
    go_wp2
    go_ret
    exact ⟨rfl, rfl⟩
  · rw [if_neg h1]
    by_cases h2 : 4194304 < X
    · rw [if_pos h2]
      go_enter Try.func89, Try.ntmps89
      go_wp2
      go_ret
      exact ⟨rfl, rfl⟩
    · rw [if_neg h2]
      by_cases h3 : Y < -4194304
      · rw [if_pos h3]
        go_enter Try.func89, Try.ntmps89
        go_wp2
        go_ret
        exact ⟨rfl, rfl⟩
      · rw [if_neg h3]
        by_cases h4 : 4194304 < Y
        · rw [if_pos h4]
          go_enter Try.func89, Try.ntmps89
          go_wp2
          go_ret
          exact ⟨rfl, rfl⟩
        · rw [if_neg h4]
          go_enter Try.func89, Try.ntmps89
          go_wp2
          go_ret
          exact ⟨rfl, rfl⟩

theorem check_brush (k X Y R : Int) (H : Nat) (w : World) (hH : H < 4294967296) :
    Calls Try.prog 59 #[brushV k X Y R H] w fun e w' => e = .returned (.int .i64 (brushE k X Y R H)) ∧ Below w.heap.size w w' := by
  have K1 := Lib.hid (fun W g h => heights_one W g H hH h)
  have KP := Lib.hid (fun W => checkplace_any X Y W)
  clear hH
  unfold brushE
  generalize htE [H] = a at *
  generalize placeE X Y = b at *
  by_cases h1 : k < 1
  · rw [if_pos h1]
    go_enter Try.func59, Try.ntmps59
    go_wp2_with (first | (go_at_call 89; refine (KP.out _).mono ?_; rintro e w' ⟨rfl, rfl⟩) | (go_at_call 93; refine (K1.out _ _ (by simp [go_sem])).mono ?_; rintro e w' ⟨rfl, rfl⟩))
    go_ret
    exact ⟨rfl, (by repeat (first | with_reducible exact Below.refl _ _ | with_reducible apply Below.drew | with_reducible refine below_drewN ?_ _ | (with_reducible refine Below.setCell ?_ ?_ _; rotate_left; focus (first | omega | (simp <;> omega))) | (with_reducible refine Below.alloc ?_ ?_ _; rotate_left; focus (first | omega | (simp <;> omega)))))⟩
  · rw [if_neg h1]
    by_cases h2 : 3 < k
    · rw [if_pos h2]
      go_enter Try.func59, Try.ntmps59
      go_wp2_with (first | (go_at_call 89; refine (KP.out _).mono ?_; rintro e w' ⟨rfl, rfl⟩) | (go_at_call 93; refine (K1.out _ _ (by simp [go_sem])).mono ?_; rintro e w' ⟨rfl, rfl⟩))
      go_ret
      exact ⟨rfl, (by repeat (first | with_reducible exact Below.refl _ _ | with_reducible apply Below.drew | with_reducible refine below_drewN ?_ _ | (with_reducible refine Below.setCell ?_ ?_ _; rotate_left; focus (first | omega | (simp <;> omega))) | (with_reducible refine Below.alloc ?_ ?_ _; rotate_left; focus (first | omega | (simp <;> omega)))))⟩
    · rw [if_neg h2]
      by_cases h3 : b = 0
      · rw [h3] at KP
        rw [if_neg (by omega)]
        clear h3
        by_cases h4 : R < 1
        · rw [if_pos h4]
          go_enter Try.func59, Try.ntmps59
          go_wp2_with (first | (go_at_call 89; refine (KP.out _).mono ?_; rintro e w' ⟨rfl, rfl⟩) | (go_at_call 93; refine (K1.out _ _ (by simp [go_sem])).mono ?_; rintro e w' ⟨rfl, rfl⟩))
          go_ret
          exact ⟨rfl, (by repeat (first | with_reducible exact Below.refl _ _ | with_reducible apply Below.drew | with_reducible refine below_drewN ?_ _ | (with_reducible refine Below.setCell ?_ ?_ _; rotate_left; focus (first | omega | (simp <;> omega))) | (with_reducible refine Below.alloc ?_ ?_ _; rotate_left; focus (first | omega | (simp <;> omega)))))⟩
        · rw [if_neg h4]
          by_cases h5 : 256 < R
          · rw [if_pos h5]
            go_enter Try.func59, Try.ntmps59
            go_wp2_with (first | (go_at_call 89; refine (KP.out _).mono ?_; rintro e w' ⟨rfl, rfl⟩) | (go_at_call 93; refine (K1.out _ _ (by simp [go_sem])).mono ?_; rintro e w' ⟨rfl, rfl⟩))
            go_ret
            exact ⟨rfl, (by repeat (first | with_reducible exact Below.refl _ _ | with_reducible apply Below.drew | with_reducible refine below_drewN ?_ _ | (with_reducible refine Below.setCell ?_ ?_ _; rotate_left; focus (first | omega | (simp <;> omega))) | (with_reducible refine Below.alloc ?_ ?_ _; rotate_left; focus (first | omega | (simp <;> omega)))))⟩
          · rw [if_neg h5]
            go_enter Try.func59, Try.ntmps59
            go_wp2_with (first | (go_at_call 89; refine (KP.out _).mono ?_; rintro e w' ⟨rfl, rfl⟩) | (go_at_call 93; refine (K1.out _ _ (by simp [go_sem])).mono ?_; rintro e w' ⟨rfl, rfl⟩))
            go_ret
            exact ⟨rfl, (by repeat (first | with_reducible exact Below.refl _ _ | with_reducible apply Below.drew | with_reducible refine below_drewN ?_ _ | (with_reducible refine Below.setCell ?_ ?_ _; rotate_left; focus (first | omega | (simp <;> omega))) | (with_reducible refine Below.alloc ?_ ?_ _; rotate_left; focus (first | omega | (simp <;> omega)))))⟩
      · rw [if_pos h3]
        have hb' : (b != 0) = true := by rw [bne_iff_ne]; exact h3
        clear h3
        go_enter Try.func59, Try.ntmps59
        go_wp2_with (first | (go_at_call 89; refine (KP.out _).mono ?_; rintro e w' ⟨rfl, rfl⟩) | (go_at_call 93; refine (K1.out _ _ (by simp [go_sem])).mono ?_; rintro e w' ⟨rfl, rfl⟩))
        go_ret
        exact ⟨rfl, (by repeat (first | with_reducible exact Below.refl _ _ | with_reducible apply Below.drew | with_reducible refine below_drewN ?_ _ | (with_reducible refine Below.setCell ?_ ?_ _; rotate_left; focus (first | omega | (simp <;> omega))) | (with_reducible refine Below.alloc ?_ ?_ _; rotate_left; focus (first | omega | (simp <;> omega)))))⟩

set_option maxHeartbeats 1000000 in
theorem refcheck_brush (k X Y R : Int) (H : Nat) (w : World) (hH : H < 4294967296) :
    Calls Try.prog 58 #[brushV k X Y R H] w fun e w' => e = .returned (.int .i64 (brushE k X Y R H)) ∧ Below w.heap.size w w' := by
  have K1 := Lib.hid (fun W g h => refheight_one W g H hH h)
  clear hH
  unfold brushE placeE
  generalize htE [H] = a at *
  by_cases h1 : k < 1
  · rw [if_pos h1]
    go_enter Try.func58, Try.ntmps58
    go_wp2_with (go_at_call 24; refine (K1.out _ _ (by simp [go_sem])).mono ?_; rintro e w' ⟨rfl, rfl⟩)
    go_ret
    exact ⟨rfl, (by repeat (first | with_reducible exact Below.refl _ _ | with_reducible apply Below.drew | with_reducible refine below_drewN ?_ _ | (with_reducible refine Below.setCell ?_ ?_ _; rotate_left; focus (first | omega | (simp <;> omega))) | (with_reducible refine Below.alloc ?_ ?_ _; rotate_left; focus (first | omega | (simp <;> omega)))))⟩
  · rw [if_neg h1]
    by_cases h2 : 3 < k
    · rw [if_pos h2]
      go_enter Try.func58, Try.ntmps58
      go_wp2_with (go_at_call 24; refine (K1.out _ _ (by simp [go_sem])).mono ?_; rintro e w' ⟨rfl, rfl⟩)
      go_ret
      exact ⟨rfl, (by repeat (first | with_reducible exact Below.refl _ _ | with_reducible apply Below.drew | with_reducible refine below_drewN ?_ _ | (with_reducible refine Below.setCell ?_ ?_ _; rotate_left; focus (first | omega | (simp <;> omega))) | (with_reducible refine Below.alloc ?_ ?_ _; rotate_left; focus (first | omega | (simp <;> omega)))))⟩
    · rw [if_neg h2]
      by_cases p1 : X < -4194304
      · rw [if_pos p1, if_pos (by decide)]
        go_enter Try.func58, Try.ntmps58
        go_wp2_with (go_at_call 24; refine (K1.out _ _ (by simp [go_sem])).mono ?_; rintro e w' ⟨rfl, rfl⟩)
        go_ret
        exact ⟨rfl, (by repeat (first | with_reducible exact Below.refl _ _ | with_reducible apply Below.drew | with_reducible refine below_drewN ?_ _ | (with_reducible refine Below.setCell ?_ ?_ _; rotate_left; focus (first | omega | (simp <;> omega))) | (with_reducible refine Below.alloc ?_ ?_ _; rotate_left; focus (first | omega | (simp <;> omega)))))⟩
      · rw [if_neg p1]
        by_cases p2 : 4194304 < X
        · rw [if_pos p2, if_pos (by decide)]
          go_enter Try.func58, Try.ntmps58
          go_wp2_with (go_at_call 24; refine (K1.out _ _ (by simp [go_sem])).mono ?_; rintro e w' ⟨rfl, rfl⟩)
          go_ret
          exact ⟨rfl, (by repeat (first | with_reducible exact Below.refl _ _ | with_reducible apply Below.drew | with_reducible refine below_drewN ?_ _ | (with_reducible refine Below.setCell ?_ ?_ _; rotate_left; focus (first | omega | (simp <;> omega))) | (with_reducible refine Below.alloc ?_ ?_ _; rotate_left; focus (first | omega | (simp <;> omega)))))⟩
        · rw [if_neg p2]
          by_cases p3 : Y < -4194304
          · rw [if_pos p3, if_pos (by decide)]
            go_enter Try.func58, Try.ntmps58
            go_wp2_with (go_at_call 24; refine (K1.out _ _ (by simp [go_sem])).mono ?_; rintro e w' ⟨rfl, rfl⟩)
            go_ret
            exact ⟨rfl, (by repeat (first | with_reducible exact Below.refl _ _ | with_reducible apply Below.drew | with_reducible refine below_drewN ?_ _ | (with_reducible refine Below.setCell ?_ ?_ _; rotate_left; focus (first | omega | (simp <;> omega))) | (with_reducible refine Below.alloc ?_ ?_ _; rotate_left; focus (first | omega | (simp <;> omega)))))⟩
          · rw [if_neg p3]
            by_cases p4 : 4194304 < Y
            · rw [if_pos p4, if_pos (by decide)]
              go_enter Try.func58, Try.ntmps58
              go_wp2_with (go_at_call 24; refine (K1.out _ _ (by simp [go_sem])).mono ?_; rintro e w' ⟨rfl, rfl⟩)
              go_ret
              exact ⟨rfl, (by repeat (first | with_reducible exact Below.refl _ _ | with_reducible apply Below.drew | with_reducible refine below_drewN ?_ _ | (with_reducible refine Below.setCell ?_ ?_ _; rotate_left; focus (first | omega | (simp <;> omega))) | (with_reducible refine Below.alloc ?_ ?_ _; rotate_left; focus (first | omega | (simp <;> omega)))))⟩
            · rw [if_neg p4, if_neg (by decide)]
              by_cases h4 : R < 1
              · rw [if_pos h4]
                go_enter Try.func58, Try.ntmps58
                go_wp2_with (go_at_call 24; refine (K1.out _ _ (by simp [go_sem])).mono ?_; rintro e w' ⟨rfl, rfl⟩)
                go_ret
                exact ⟨rfl, (by repeat (first | with_reducible exact Below.refl _ _ | with_reducible apply Below.drew | with_reducible refine below_drewN ?_ _ | (with_reducible refine Below.setCell ?_ ?_ _; rotate_left; focus (first | omega | (simp <;> omega))) | (with_reducible refine Below.alloc ?_ ?_ _; rotate_left; focus (first | omega | (simp <;> omega)))))⟩
              · rw [if_neg h4]
                by_cases h5 : 256 < R
                · rw [if_pos h5]
                  go_enter Try.func58, Try.ntmps58
                  go_wp2_with (go_at_call 24; refine (K1.out _ _ (by simp [go_sem])).mono ?_; rintro e w' ⟨rfl, rfl⟩)
                  go_ret
                  exact ⟨rfl, (by repeat (first | with_reducible exact Below.refl _ _ | with_reducible apply Below.drew | with_reducible refine below_drewN ?_ _ | (with_reducible refine Below.setCell ?_ ?_ _; rotate_left; focus (first | omega | (simp <;> omega))) | (with_reducible refine Below.alloc ?_ ?_ _; rotate_left; focus (first | omega | (simp <;> omega)))))⟩
                · rw [if_neg h5]
                  go_enter Try.func58, Try.ntmps58
                  go_wp2_with (go_at_call 24; refine (K1.out _ _ (by simp [go_sem])).mono ?_; rintro e w' ⟨rfl, rfl⟩)
                  go_ret
                  exact ⟨rfl, (by repeat (first | with_reducible exact Below.refl _ _ | with_reducible apply Below.drew | with_reducible refine below_drewN ?_ _ | (with_reducible refine Below.setCell ?_ ?_ _; rotate_left; focus (first | omega | (simp <;> omega))) | (with_reducible refine Below.alloc ?_ ?_ _; rotate_left; focus (first | omega | (simp <;> omega)))))⟩
end Go.Proofs.Ytnfebeebjelgbaa
