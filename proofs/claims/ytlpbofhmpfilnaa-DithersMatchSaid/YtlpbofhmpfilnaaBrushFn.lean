import Derived.Test.YtlpbofhmpfilnaaBrushF
import Derived.BigQuiet
namespace Go.Proofs.Ytlpbofhmpfilnaa
open Go.ChangeShapes Go.WideShapes Go.ChangeAt Go.RowKit
open Ieee.Format (fin finE htE allFin allHt all_true all_false mulF subF addF Ht Bd divF rootF floorF easeF mixF)
set_option linter.unusedVariables false
open Ieee.Format (const_1)

abbrev brushV (k X Y R : Int) (H : Nat) : Value := .agg #[.int .i64 k, .int .i64 X, .int .i64 Y, .int .i64 R, .float .f32 H]
def placeE (X Y : Int) : Int := if X < -4194304 then 5 else if 4194304 < X then 5 else if Y < -4194304 then 5 else if 4194304 < Y then 5 else 0
def brushE (k X Y R : Int) (H : Nat) : Int := if k < 1 then 1 else if 3 < k then 1 else if placeE X Y ≠ 0 then 5 else if R < 1 then 3 else if 256 < R then 3 else htE [H]
theorem placeE_zero {X Y : Int} (h : placeE X Y = 0) : -4194304 ≤ X ∧ X ≤ 4194304 ∧ -4194304 ≤ Y ∧ Y ≤ 4194304 := by
  unfold placeE at h
  repeat (split at h; omega)
  omega
theorem placeE_of {X Y : Int} (h : -4194304 ≤ X ∧ X ≤ 4194304 ∧ -4194304 ≤ Y ∧ Y ≤ 4194304) : placeE X Y = 0 := by
  unfold placeE
  rw [if_neg (by omega), if_neg (by omega), if_neg (by omega), if_neg (by omega)]
theorem placeE_bad {X Y : Int} (h : ¬ (-4194304 ≤ X ∧ X ≤ 4194304 ∧ -4194304 ≤ Y ∧ Y ≤ 4194304)) : placeE X Y = 5 := by
  unfold placeE
  repeat (split; rfl)
  omega
theorem brush_zero {k X Y R : Int} {H : Nat} (h : brushE k X Y R H = 0) : 1 ≤ k ∧ k ≤ 3 ∧ (-4194304 ≤ X ∧ X ≤ 4194304 ∧ -4194304 ≤ Y ∧ Y ≤ 4194304) ∧ 1 ≤ R ∧ R ≤ 256 ∧ htE [H] = 0 := by
  unfold brushE at h
  by_cases h1 : k < 1
  · rw [if_pos h1] at h; omega
  · rw [if_neg h1] at h
    by_cases h2 : 3 < k
    · rw [if_pos h2] at h; omega
    · rw [if_neg h2] at h
      by_cases h3 : placeE X Y = 0
      · rw [if_neg (by omega)] at h
        by_cases h4 : R < 1
        · rw [if_pos h4] at h; omega
        · rw [if_neg h4] at h
          by_cases h5 : 256 < R
          · rw [if_pos h5] at h; omega
          · rw [if_neg h5] at h
            exact ⟨by omega, by omega, placeE_zero h3, by omega, by omega, h⟩
      · rw [if_pos h3] at h; omega

theorem checkplace_any (X Y : Int) (w : World) : Calls Try.prog 66 #[.int .i64 X, .int .i64 Y] w fun e w' => e = .returned (.int .i64 (placeE X Y)) ∧ w = w' := by
  unfold placeE
  by_cases h1 : X < -4194304
  · rw [if_pos h1]
    go_enter Try.func66, Try.ntmps66
    go_wp2
    go_ret
    exact ⟨rfl, rfl⟩
  · rw [if_neg h1]
    by_cases h2 : 4194304 < X
    · rw [if_pos h2]
      go_enter Try.func66, Try.ntmps66
      go_wp2
      go_ret
      exact ⟨rfl, rfl⟩
    · rw [if_neg h2]
      by_cases h3 : Y < -4194304
      · rw [if_pos h3]
        go_enter Try.func66, Try.ntmps66
        go_wp2
        go_ret
        exact ⟨rfl, rfl⟩
      · rw [if_neg h3]
        by_cases h4 : 4194304 < Y
        · rw [if_pos h4]
          go_enter Try.func66, Try.ntmps66
          go_wp2
          go_ret
          exact ⟨rfl, rfl⟩
        · rw [if_neg h4]
          go_enter Try.func66, Try.ntmps66
          go_wp2
          go_ret
          exact ⟨rfl, rfl⟩

end Go.Proofs.Ytlpbofhmpfilnaa
