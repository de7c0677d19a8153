import Derived.Test.YtgeeaegnohdejaaEase
namespace Go.Proofs.Ytgeeaegnohdejaa
open Go.ChangeShapes Go.WideShapes Go.ChangeAt Go.RowKit
open Ieee.Format (fin finE htE allFin allHt all_true all_false finE_ok finE_bad htE_ok htE_far htE_bad easeF ease1 ease2 ease3 mulF subF addF)
set_option linter.unusedVariables false

theorem htE_bad1 {t : Nat} (h : ¬ fin Ieee.single t) : htE [t] = 2 := htE_bad (by unfold allFin; simp [h])
theorem htE_fin1 {t : Nat} (h : fin Ieee.single t) : htE [t] = 0 ∨ htE [t] = 3 := by
  have e1 : allFin [t] = true := by unfold allFin; simp [h]
  cases hh : allHt [t]
  · exact .inr (htE_far e1 hh)
  · exact .inl (htE_ok e1 hh)
theorem htE_share {t : Nat} (h : Share t) : htE [t] = 0 := by
  have e1 : allFin [t] = true := by unfold allFin; simp [h.1]
  refine htE_ok e1 ?_
  have m : Ieee.single.rung t ≤ Ieee.single.rung 1065353216 := (Ieee.Format.V_rung_iff Ieee.Format.const_1.2.2).1 (by rw [Ieee.Format.const_1.2.1]; have := h.2.1; have := h.2.2; constructor <;> grind)
  rw [Ieee.Format.rung_lit, show Ieee.single.rung 1065353216 = 1065353216 from by decide] at m
  unfold allHt
  simp; omega

set_option maxHeartbeats 1000000 in
theorem ease_law_no (t : Nat) (ht : t < 4294967296) (hf : ¬ fin Ieee.single t) (w : World) : Calls Try.prog 6 #[.float .f32 t] w fun e w' => e = .returned (.bool true) ∧ Below w.heap.size w w' := by
  have e1 := shareE_bad hf
  have e2 := htE_bad1 hf
  have K1 := fun w => Ease_no t ht (by rw [e1]; decide) w
  rw [e1] at K1
  have H1 := Lib.hid K1
  have H2 := Lib.hid (fun w c => refheight_any (some ⟨w.heap.size, 0, none⟩) c [t] (w.alloc (.cells #[.float .f32 t] /-T-/24)) (row_one w t ht _))
  rw [e2] at H2
  clear K1 e1 e2 ht hf
  go_enter Try.func6, Try.ntmps6
  go_wp2_with fail
  refine (landed_bel _).mono ?_
  rintro e w1 ⟨rfl, b1⟩
  go_wp2_with fail
  refine (H1.out _).mono ?_
  rintro e w2 ⟨rfl, b2⟩
  have B2 : Below w.heap.size w w2 := b1.trans (b2.mono b1.size)
  clear b2 b1
  go_wp2_with fail
  refine (H2.out _ _).mono ?_
  rintro e w3 ⟨rfl, h3⟩
  have B3 : Below w.heap.size w w3 := h3 ▸ B2.alloc B2.size _
  clear h3
  go_wp2_with fail
  refine (refease_some _ _).mono ?_
  rintro e w4 ⟨r, n, rfl, h4⟩
  have B4 : Below w.heap.size w w4 := by rw [h4]; exact below_drewN B3 n
  clear h4 B3 B2
  go_wp2_with fail
  refine (one_err _ _ _ (by decide) _).mono ?_
  rintro e w5 ⟨rfl, rfl⟩
  have o1 : (FloatKind.f32.format.order 0 0 == some .gt || FloatKind.f32.format.order 0 0 == some .eq) = true := by decide
  have o2 : (FloatKind.f32.format.order 0 1065353216 == some .lt || FloatKind.f32.format.order 0 1065353216 == some .eq) = true := by decide
  go_wp2
  go_ret
  exact ⟨rfl, B4⟩

/-- finite, but no share: whatever 'Height' says, the law's error is 3 -/
theorem ease_law_far (t : Nat) (ht : t < 4294967296) (hf : fin Ieee.single t) (h2 : (lss t 0 || gtr t 1065353216) = true) (w : World) : Calls Try.prog 6 #[.float .f32 t] w fun e w' => e = .returned (.bool true) ∧ Below w.heap.size w w' := by
  have e1 := shareE_far hf h2
  have K1 := fun w => Ease_no t ht (by rw [e1]; decide) w
  rw [e1] at K1
  have H1 := Lib.hid K1
  have o1 : (FloatKind.f32.format.order 0 0 == some .gt || FloatKind.f32.format.order 0 0 == some .eq) = true := by decide
  have o2 : (FloatKind.f32.format.order 0 1065353216 == some .lt || FloatKind.f32.format.order 0 1065353216 == some .eq) = true := by decide
  have H2 := Lib.hid (fun w c => refheight_any (some ⟨w.heap.size, 0, none⟩) c [t] (w.alloc (.cells #[.float .f32 t] /-T-/24)) (row_one w t ht _))
  have hcase : htE [t] = 3 ∨ (htE [t] = 0 ∧ ((FloatKind.f32.format.order t 0 == some .lt) = true ∨ ((FloatKind.f32.format.order t 0 == some .lt) = false ∧ (FloatKind.f32.format.order t 1065353216 == some .gt) = true))) := by
    rcases htE_fin1 hf with h | h
    · right
      refine ⟨h, ?_⟩
      unfold lss gtr at h2
      cases hl : (FloatKind.f32.format.order t 0 == some .lt)
      · rw [hl] at h2; exact .inr ⟨rfl, by simpa using h2⟩
      · exact .inl rfl
    · exact .inl h
  clear K1 e1 ht hf h2
  rcases hcase with e2 | ⟨e2, hl | ⟨hl, hg⟩⟩
  all_goals
    rw [e2] at H2
    clear e2
    go_enter Try.func6, Try.ntmps6
    go_wp2_with fail
    refine (landed_bel _).mono ?_
    rintro e w1 ⟨rfl, b1⟩
    go_wp2_with fail
    refine (H1.out _).mono ?_
    rintro e w2 ⟨rfl, b2⟩
    have B2 : Below w.heap.size w w2 := b1.trans (b2.mono b1.size)
    clear b2 b1
    go_wp2_with fail
    refine (H2.out _ _).mono ?_
    rintro e w3 ⟨rfl, h3⟩
    have B3 : Below w.heap.size w w3 := h3 ▸ B2.alloc B2.size _
    clear h3
    go_wp2_with fail
    refine (refease_some _ _).mono ?_
    rintro e w4 ⟨r, n, rfl, h4⟩
    have B4 : Below w.heap.size w w4 := by rw [h4]; exact below_drewN B3 n
    clear h4 B3 B2
    go_wp2_with fail
    refine (one_err _ _ _ (by decide) _).mono ?_
    rintro e w5 ⟨rfl, rfl⟩
    go_wp2
    go_ret
    exact ⟨rfl, B4⟩

theorem ease_law_yes (t : Nat) (ht : t < 4294967296) (hf : fin Ieee.single t) (h2 : (lss t 0 || gtr t 1065353216) = false) (w : World) : Calls Try.prog 6 #[.float .f32 t] w fun e w' => e = .returned (.bool true) ∧ Below w.heap.size w w' := by
  have e1 := shareE_ok hf h2
  have hs := share_of hf h2
  have H1 := Lib.hid (fun w => Ease_yes t ht e1 hs w)
  have H2 := Lib.hid (fun w c => refheight_any (some ⟨w.heap.size, 0, none⟩) c [t] (w.alloc (.cells #[.float .f32 t] /-T-/24)) (row_one w t ht _))
  rw [htE_share hs] at H2
  have H3 := Lib.hid (fun w => refease_any t hs w)
  obtain ⟨_, _, _, f4, v0, v1⟩ := Ieee.Format.ease_ok hs.1 hs.2.1 hs.2.2
  have o1 : (FloatKind.f32.format.order (easeF t) 0 == some .gt || FloatKind.f32.format.order (easeF t) 0 == some .eq) = true := by
    change (Ieee.single.order _ _ == _ || Ieee.single.order _ _ == _) = true
    rw [Ieee.single.order_gt f4 Ieee.Format.const_0.1, Ieee.single.order_eq f4 Ieee.Format.const_0.1, Ieee.Format.const_0.2.1]
    simp; grind
  have o2 : (FloatKind.f32.format.order (easeF t) 1065353216 == some .lt || FloatKind.f32.format.order (easeF t) 1065353216 == some .eq) = true := by
    change (Ieee.single.order _ _ == _ || Ieee.single.order _ _ == _) = true
    rw [Ieee.single.order_lt f4 Ieee.Format.const_1.1, Ieee.single.order_eq f4 Ieee.Format.const_1.1, Ieee.Format.const_1.2.1]
    simp; grind
  unfold lss gtr at h2
  rw [Bool.or_eq_false_iff] at h2
  obtain ⟨hl, hg⟩ := h2
  clear e1 ht hf hs f4 v0 v1
  generalize easeF t = x at *
  go_enter Try.func6, Try.ntmps6
  go_wp2_with fail
  refine (landed_bel _).mono ?_
  rintro e w1 ⟨rfl, b1⟩
  go_wp2_with fail
  refine (H1.out _).mono ?_
  rintro e w2 ⟨rfl, b2⟩
  have B2 : Below w.heap.size w w2 := b1.trans (b2.mono b1.size)
  clear b2 b1
  go_wp2_with fail
  refine (H2.out _ _).mono ?_
  rintro e w3 ⟨rfl, h3⟩
  have B3 : Below w.heap.size w w3 := h3 ▸ B2.alloc B2.size _
  clear h3
  go_wp2_with fail
  refine (H3.out _).mono ?_
  rintro e w4 ⟨rfl, rfl⟩
  go_wp2_with fail
  refine (one_ok _ _ _).mono ?_
  rintro e w5 ⟨rfl, rfl⟩
  go_wp2
  go_ret
  exact ⟨rfl, B3⟩

theorem ease_law (t : Nat) (ht : t < 4294967296) (w : World) : Calls Try.prog 6 #[.float .f32 t] w fun e w' => e = .returned (.bool true) ∧ Below w.heap.size w w' := by
  by_cases hf : fin Ieee.single t
  · cases h2 : (lss t 0 || gtr t 1065353216)
    · exact ease_law_yes t ht hf h2 w
    · exact ease_law_far t ht hf h2 w
  · exact ease_law_no t ht hf w
theorem wf32 {t : Nat} (h : (Lit.float .f32 t).wf = true) : t < 4294967296 := by
  simpa [Lit.wf] using h
end Go.Proofs.Ytgeeaegnohdejaa
