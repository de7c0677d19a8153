import Derived.Test.YtgeeaegnohdejaaRefResFn
namespace Go.Proofs.Ytgeeaegnohdejaa
open Go.Shelf
open Go.ChangeShapes Go.WideShapes Go.ChangeAt Go.RowKit
open Ieee.Format (fin finE htE allFin allHt all_true all_false mulF subF addF Ht Bd mixF mix_bd shareF share_facts)
set_option linter.unusedVariables false

/-- the places of a region, row by row -/
def placesL {α : Type} (ρ : Int → Int → α) (X Y : Int) (W n : Nat) : List α := (List.range n).map fun k => ρ (X + ((k % W : Nat) : Int)) (Y + ((k / W : Nat) : Int))
theorem placesL_succ {α : Type} (ρ : Int → Int → α) (X Y : Int) (W i j : Nat) (hi : i < W) : placesL ρ X Y W (j * W + i + 1) = placesL ρ X Y W (j * W + i) ++ [ρ (X + (i : Int)) (Y + (j : Int))] := by
  have h1 : (j * W + i) % W = i := by rw [Nat.mul_comm, Nat.mul_add_mod, Nat.mod_eq_of_lt hi]
  have h2 : (j * W + i) / W = j := by rw [Nat.mul_comm, Nat.mul_add_div (by omega), Nat.div_eq_of_lt hi]; rfl
  unfold placesL
  rw [List.range_succ, List.map_append, List.map_singleton, h1, h2]

/-- the values of Resample -/
def resL (X Y : Int) (Wn Hn : Nat) (l : List Nat) (num den : Nat) (A B : Int) (P Q : Nat) : List (Option Nat) := placesL (resV X Y Wn Hn l num den) A B P (Q * P)
def resC (L : List (Option Nat)) : Int := if L.all (fun r => r.isSome) = true then (if allHt (L.map fun r => r.getD 0) = true then 0 else 3) else 5
theorem resL_map (X Y : Int) (Wn Hn : Nat) (l : List Nat) (num den : Nat) (A B : Int) (P Q : Nat) (φ : Option Nat → Nat) : madeL (fun x y => φ (resV X Y Wn Hn l num den x y)) A B P (Q * P) = (resL X Y Wn Hn l num den A B P Q).map φ := by
  unfold madeL resL placesL
  rw [List.map_map]; rfl
theorem resV_lt {X Y : Int} {Wn Hn : Nat} {l : List Nat} {num den : Nat} (hl : ∀ x ∈ l, x < 4294967296) (x y : Int) : (resV X Y Wn Hn l num den x y).getD 0 < 4294967296 := by
  unfold resV
  generalize x * (num : Int) / den = i
  generalize y * (num : Int) / den = j
  generalize shareF _ _ = s
  generalize shareF _ _ = t
  unfold bilV
  split
  · decide
  · rename_i p hp
    split
    · exact rowV_lt hl hp
    · split
      · decide
      · exact Ieee.Format.mixF_lt _ _ _
/-- the reference's codes -/
theorem codes (L : List (Option Nat)) : (L.any (fun r => decide (bilC r = 5)) = true → resC L = 5) ∧ (L.any (fun r => decide (bilC r = 5)) = false → L.any (fun r => decide (bilC r = 3)) = true → resC L = 3) ∧
    (L.any (fun r => decide (bilC r = 5)) = false → L.any (fun r => decide (bilC r = 3)) = false → resC L = 0 ∧ L.map resF = L.map (fun r => r.getD 0)) ∧ outE (L.map resF) = 0 := by
  have hc : ∀ r : Option Nat, (bilC r = 5 ↔ r = none) ∧ (∀ v, r = some v → (bilC r = 0 ↔ Ht v) ∧ (bilC r = 3 ↔ ¬ Ht v)) := by
    intro r
    cases r with
    | none => simp [bilC]
    | some v =>
      have h1 : bilC (some v) = if htE [v] = 0 then 0 else 3 := rfl
      by_cases hv : Ht v
      · have : htE [v] = 0 := Ieee.Format.htE_of_ht (Ieee.Format.allHt_iff.2 (by simpa using hv))
        rw [h1, if_pos this]; simp [hv]
      · have : htE [v] ≠ 0 := Ieee.Format.htE_ne (by
          cases hh : allHt [v]
          · rfl
          · exact absurd (Ieee.Format.allHt_iff.1 hh v (by simp)) hv)
        rw [h1, if_neg this]; simp [hv]
  have hF : ∀ r : Option Nat, Ht (resF r) := by
    intro r
    unfold resF
    split
    · rename_i h0
      cases r with
      | none => exact absurd h0 (by simp [bilC])
      | some v => exact ((hc (some v)).2 v rfl).1.1 h0
    · decide
  refine ⟨fun h => ?_, fun h1 h2 => ?_, fun h1 h2 => ?_, ?_⟩
  · obtain ⟨r, hr, h5⟩ := List.any_eq_true.1 h
    have hr0 : r = none := (hc r).1.1 (of_decide_eq_true h5)
    subst hr0
    unfold resC
    rw [if_neg]
    intro ha
    have h9 := List.all_eq_true.1 ha none hr
    cases h9
  · have a1 : L.all (fun r => r.isSome) = true := by
      rw [List.all_eq_true]; intro r hr
      have := (List.any_eq_false.1 h1) r hr
      cases r with
      | none => exact absurd (decide_eq_true ((hc none).1.2 rfl)) (by simpa using this)
      | some v => rfl
    obtain ⟨r, hr, h3⟩ := List.any_eq_true.1 h2
    unfold resC
    rw [if_pos a1, if_neg]
    intro ha
    cases r with
    | none => exact absurd (of_decide_eq_true h3) (by simp [bilC])
    | some v =>
      have := Ieee.Format.allHt_iff.1 ha v (List.mem_map.2 ⟨some v, hr, rfl⟩)
      exact ((hc (some v)).2 v rfl).2.1 (of_decide_eq_true h3) this
  · have hs : ∀ r ∈ L, ∃ v, r = some v ∧ Ht v := by
      intro r hr
      have g1 := (List.any_eq_false.1 h1) r hr
      have g2 := (List.any_eq_false.1 h2) r hr
      cases r with
      | none => exact absurd (decide_eq_true ((hc none).1.2 rfl)) (by simpa using g1)
      | some v =>
        refine ⟨v, rfl, ?_⟩
        by_cases hv : Ht v
        · exact hv
        · exact absurd (decide_eq_true (((hc (some v)).2 v rfl).2.2 hv)) (by simpa using g2)
    constructor
    · unfold resC
      rw [if_pos (List.all_eq_true.2 fun r hr => by obtain ⟨v, rfl, _⟩ := hs r hr; rfl), if_pos]
      refine Ieee.Format.allHt_iff.2 fun x hx => ?_
      obtain ⟨r, hr, rfl⟩ := List.mem_map.1 hx
      obtain ⟨v, rfl, hv⟩ := hs r hr
      exact hv
    · refine List.map_congr_left fun r hr => ?_
      obtain ⟨v, rfl, hv⟩ := hs r hr
      unfold resF
      rw [if_pos (((hc (some v)).2 v rfl).1.2 hv)]
  · unfold outE
    rw [if_pos]
    refine Ieee.Format.htE_of_ht (Ieee.Format.allHt_iff.2 fun x hx => ?_)
    obtain ⟨r, _, rfl⟩ := List.mem_map.1 hx
    exact hF r
end Go.Proofs.Ytgeeaegnohdejaa
