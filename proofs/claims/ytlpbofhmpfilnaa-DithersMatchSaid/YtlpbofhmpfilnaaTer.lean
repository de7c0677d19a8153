import Derived.Test.YtlpbofhmpfilnaaRefSel
import Derived.Deep.RegionHeld3
namespace Go.Proofs.Ytlpbofhmpfilnaa
open Go.ChangeShapes Go.WideShapes Go.ChangeAt Go.RowKit
open Ieee.Format (fin finE htE allFin allHt all_true all_false mulF subF addF Ht Bd divF rootF floorF easeF mixF)
set_option linter.unusedVariables false

def gee (x y : Nat) : Bool := FloatKind.f32.format.order x y == some .gt || FloatKind.f32.format.order x y == some .eq
theorem const_k10 : fin Ieee.single 1149239296 ∧ Ieee.single.V 1149239296 = Ieee.P2 10 := by
  have := Ieee.Format.V_const false 136 8388608 (.inr (by decide)) (by decide) (by decide)
  rw [show Ieee.single.word false (136 * 8388608 + 8388608) = 1149239296 from by decide] at this
  refine ⟨this.1, ?_⟩
  rw [this.2.1, show ((136 : Nat) : Int) - 149 = -13 from rfl, show ((8388608 : Nat) : Rat) = Ieee.P2 23 from (Ieee.P2_nat 23).symm, ← Ieee.P2_add]
  simp [Ieee.sg]
theorem const_m10 : fin Ieee.single 981467136 ∧ Ieee.single.V 981467136 = Ieee.P2 (-10) := by
  have := Ieee.Format.V_const false 116 8388608 (.inr (by decide)) (by decide) (by decide)
  rw [show Ieee.single.word false (116 * 8388608 + 8388608) = 981467136 from by decide] at this
  refine ⟨this.1, ?_⟩
  rw [this.2.1, show ((116 : Nat) : Int) - 149 = -33 from rfl, show ((8388608 : Nat) : Rat) = Ieee.P2 23 from (Ieee.P2_nat 23).symm, ← Ieee.P2_add]
  simp [Ieee.sg]

def stepC (s : Nat) : Int := if lss s 981467136 = true then 3 else if gtr s 1149239296 = true then 3 else 0
def terC (s h : Nat) : Int := if htE [s, h] ≠ 0 then htE [s, h] else if stepC s ≠ 0 then 3 else if lss h 0 = true then 3 else if gee h 1065353216 = true then 3 else 0
theorem ter_zero {s h : Nat} (hz : terC s h = 0) : htE [s, h] = 0 ∧ stepC s = 0 ∧ lss h 0 = false ∧ gee h 1065353216 = false ∧ TerOk s h := by
  unfold terC at hz
  by_cases h1 : htE [s, h] = 0
  · rw [if_neg (by omega)] at hz
    have ht := Ieee.Format.allHt_iff.1 (Ieee.Format.htE_zero h1)
    have hs := ht s (by simp)
    have hh := ht h (by simp)
    by_cases h2 : stepC s = 0
    · rw [if_neg (by omega)] at hz
      cases h3 : lss h 0 with
      | true => rw [h3, if_pos rfl] at hz; omega
      | false =>
        rw [h3, if_neg (by decide)] at hz
        cases h4 : gee h 1065353216 with
        | true => rw [h4, if_pos rfl] at hz; omega
        | false =>
          refine ⟨h1, h2, rfl, rfl, ?_⟩
          have h2' := h2
          unfold stepC at h2'
          cases a1 : lss s 981467136 with
          | true => rw [a1, if_pos rfl] at h2'; omega
          | false =>
            rw [a1, if_neg (by decide)] at h2'
            cases a2 : gtr s 1149239296 with
            | true => rw [a2, if_pos rfl] at h2'; omega
            | false =>
              rw [lss_V hs.fin const_m10.1, const_m10.2] at a1
              rw [gtr_V hs.fin const_k10.1, const_k10.2] at a2
              rw [lss_V hh.fin Ieee.Format.const_0.1, Ieee.Format.const_0.2.1] at h3
              have a1 := of_decide_eq_false a1
              have a2 := of_decide_eq_false a2
              have h3 := of_decide_eq_false h3
              unfold gee at h4
              rw [Bool.or_eq_false_iff] at h4
              have g1 : (Ieee.single.order h 1065353216 == some .gt) = decide (Ieee.single.V 1065353216 < Ieee.single.V h) := Ieee.single.order_gt hh.fin Ieee.Format.const_1.1
              have g2 : (Ieee.single.order h 1065353216 == some .eq) = decide (Ieee.single.V h = Ieee.single.V 1065353216) := Ieee.single.order_eq hh.fin Ieee.Format.const_1.1
              have e1 := g1.symm.trans h4.1
              have e2 := g2.symm.trans h4.2
              rw [Ieee.Format.const_1.2.1] at e1 e2
              have e1 := of_decide_eq_false e1
              have e2 := of_decide_eq_false e2
              have p := Ieee.P2_pos (-10)
              have p2 := Ieee.P2_pos 10
              exact ⟨⟨hs.fin, by show -Ieee.P2 10 ≤ _; grind, by show _ ≤ Ieee.P2 10; grind⟩, by grind, hh.fin, by grind, by grind⟩
    · rw [if_pos h2] at hz; omega
  · rw [if_pos h1] at hz; exact absurd hz h1

theorem checkstep_any (s : Nat) (w : World) (hl : s < 4294967296) (hs : fin Ieee.single s) : Calls Try.prog 23 #[.float .f32 s] w fun e w' => e = .returned (.int .i64 (stepC s)) ∧ Below w.heap.size w w' := by
  have KF := Lib.hid (fun W g h => finites_one W g s hl h)
  rw [Ieee.Format.finE_ok (by unfold allFin; simp [hs])] at KF
  clear hl hs
  unfold stepC
  cases h1 : lss s 981467136 with
  | true =>
    rw [if_pos rfl]
    change (FloatKind.f32.format.order s 981467136 == some .lt) = true at h1
    go_enter Try.func23, Try.ntmps23
    go_wp2_with fail
    refine (KF.out _ _ (by simp [go_sem])).mono ?_
    rintro e w2 ⟨rfl, rfl⟩
    go_wp2_with fail
    go_ret
    exact ⟨rfl, (by repeat (first | with_reducible exact Below.refl _ _ | with_reducible apply Below.drew | with_reducible refine below_drewN ?_ _ | (with_reducible refine Below.setCell ?_ ?_ _; rotate_left; focus (first | omega | (simp <;> omega))) | (with_reducible refine Below.alloc ?_ ?_ _; rotate_left; focus (first | omega | (simp <;> omega)))))⟩
  | false =>
    rw [if_neg (by decide)]
    change (FloatKind.f32.format.order s 981467136 == some .lt) = false at h1
    cases h2 : gtr s 1149239296 with
    | true =>
      rw [if_pos rfl]
      change (FloatKind.f32.format.order s 1149239296 == some .gt) = true at h2
      go_enter Try.func23, Try.ntmps23
      go_wp2_with fail
      refine (KF.out _ _ (by simp [go_sem])).mono ?_
      rintro e w2 ⟨rfl, rfl⟩
      go_wp2_with fail
      go_ret
      exact ⟨rfl, (by repeat (first | with_reducible exact Below.refl _ _ | with_reducible apply Below.drew | with_reducible refine below_drewN ?_ _ | (with_reducible refine Below.setCell ?_ ?_ _; rotate_left; focus (first | omega | (simp <;> omega))) | (with_reducible refine Below.alloc ?_ ?_ _; rotate_left; focus (first | omega | (simp <;> omega)))))⟩
    | false =>
      rw [if_neg (by decide)]
      change (FloatKind.f32.format.order s 1149239296 == some .gt) = false at h2
      go_enter Try.func23, Try.ntmps23
      go_wp2_with fail
      refine (KF.out _ _ (by simp [go_sem])).mono ?_
      rintro e w2 ⟨rfl, rfl⟩
      go_wp2_with fail
      go_ret
      exact ⟨rfl, (by repeat (first | with_reducible exact Below.refl _ _ | with_reducible apply Below.drew | with_reducible refine below_drewN ?_ _ | (with_reducible refine Below.setCell ?_ ?_ _; rotate_left; focus (first | omega | (simp <;> omega))) | (with_reducible refine Below.alloc ?_ ?_ _; rotate_left; focus (first | omega | (simp <;> omega)))))⟩

end Go.Proofs.Ytlpbofhmpfilnaa
