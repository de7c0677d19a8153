import Derived.Test.YtgeeaegnohdejaaRegA
namespace Go.Proofs.Ytgeeaegnohdejaa
open Go.ChangeShapes Go.WideShapes Go.ChangeAt Go.RowKit
theorem grown_any (X Y W H n : Int) (w : World) (z1 : 1 ≤ W) (z2 : W ≤ 512) (z3 : 1 ≤ H) (z4 : H ≤ 512) (z5 : -4194304 ≤ X) (z6 : -4194304 ≤ Y) (z7 : X ≤ 4194304) (z8 : Y ≤ 4194304) (b1 : -512 ≤ n) (b2 : n ≤ 512) :
    Calls Try.prog 81 #[reg X Y W H, .int .i64 n] w fun e w' => e = .returned (reg (X - n) (Y - n) (W + 2 * n) (H + 2 * n)) ∧ Below w.heap.size w w' := by
  go_enter Try.func81, Try.ntmps81
  go_wp2
  exact bodyPost_ret (v := reg (X - n) (Y - n) (W + 2 * n) (H + 2 * n)) (by simp [results, Try.results81, go_sem, *]) rfl ⟨rfl, (by repeat (first | with_reducible exact Below.refl _ _ | with_reducible apply Below.drew | with_reducible refine below_drewN ?_ _ | (with_reducible refine Below.setCell ?_ ?_ _; rotate_left; focus (simp <;> omega)) | (with_reducible refine Below.alloc ?_ ?_ _; rotate_left; focus (simp <;> omega))))⟩

theorem grow2_b (X Y W H n : Int) (w : World) (hc : chk X Y W H = 0) (hn : n < -512 ∨ 512 < n) : Calls Try.prog 26 #[reg X Y W H, .int .i64 n] w fun e w' => e = .returned (.tuple #[reg 0 0 0 0, .int .i64 3]) ∧ Below w.heap.size w w' := by
  rcases hn with hn | hn
  all_goals
    go_enter Try.func26, Try.ntmps26
    go_wp2_with fail
    refine (check2 _ _ _ _ _).mono ?_
    rintro e w1 ⟨rfl, hb⟩
    have B1 : Below w.heap.size w w1 := (((Below.refl _ _).alloc (Nat.le_refl _) _).alloc (by simp) _).trans (hb.mono (by simp; omega))
    rw [hc]
    obtain ⟨hcc, hf⟩ := bcell hb
    have hz : w.heap.size + 1 < w1.heap.size := by have := hb.size; simp at this; omega
    clear hb
    go_wp2
    exact bodyPost_ret (v := .tuple #[reg 0 0 0 0, .int .i64 3]) (by simp [results, Try.results26, go_sem, *]) rfl ⟨rfl, (by repeat (first | with_reducible exact B1 | with_reducible apply Below.drew | with_reducible refine below_drewN ?_ _ | (with_reducible refine Below.setCell ?_ ?_ _; rotate_left; focus (simp <;> omega)) | (with_reducible refine Below.alloc ?_ ?_ _; rotate_left; focus (simp <;> omega))))⟩

theorem grow2_d (X Y W H n : Int) (w : World) (hc : chk X Y W H = 0) (b1 : -512 ≤ n) (b2 : n ≤ 512) (h2 : chk (X - n) (Y - n) (W + 2 * n) (H + 2 * n) = 0) :
    Calls Try.prog 26 #[reg X Y W H, .int .i64 n] w fun e w' => e = .returned (.tuple #[reg (X - n) (Y - n) (W + 2 * n) (H + 2 * n), .int .i64 0]) ∧ Below w.heap.size w w' := by
  obtain ⟨z1, z2, z3, z4, z5, z6, z7, z8, z9⟩ := chk_zero hc
  go_enter Try.func26, Try.ntmps26
  go_wp2_with fail
  refine (check2 _ _ _ _ _).mono ?_
  rintro e w1 ⟨rfl, hb⟩
  have B1 : Below w.heap.size w w1 := (((Below.refl _ _).alloc (Nat.le_refl _) _).alloc (by simp) _).trans (hb.mono (by simp; omega))
  rw [hc]
  clear hc
  obtain ⟨hcc, hf⟩ := bcell hb
  have hz : w.heap.size + 1 < w1.heap.size := by have := hb.size; simp at this; omega
  clear hb
  go_wp2_with fail
  refine (grown_any _ _ _ _ _ _ z1 z2 z3 z4 z5 z6 (by omega) (by omega) b1 b2).mono ?_
  rintro e wg ⟨rfl, hbg⟩
  have BG : Below w.heap.size w wg := B1.trans (hbg.mono (by omega))
  obtain ⟨hccg, hfg⟩ := bcell hbg
  have hzg : w.heap.size + 1 < wg.heap.size := by have := hbg.size; omega
  have hzh : w.heap.size < wg.heap.size := by omega
  have hzi : w.heap.size < w1.heap.size := by omega
  clear hbg
  go_wp2_with fail
  refine (check2 _ _ _ _ _).mono ?_
  rintro e w2 ⟨rfl, hb2⟩
  have B2 : Below w.heap.size w w2 := (BG.alloc (by omega) _).trans (hb2.mono (by simp; omega))
  rw [h2]
  clear h2
  obtain ⟨hcc2, hf2⟩ := bcell hb2
  have hz2 : wg.heap.size < w2.heap.size := by have := hb2.size; simp at this; omega
  clear hb2
  have hy1 : w.heap.size + 1 < wg.heap.size + 1 := by omega
  have hy2 : w.heap.size < wg.heap.size + 1 := by omega
  have hy3 : ¬ w.heap.size + 1 = wg.heap.size := by omega
  have hy4 : ¬ w.heap.size = wg.heap.size := by omega
  go_wp2
  exact bodyPost_ret (v := .tuple #[reg (X - n) (Y - n) (W + 2 * n) (H + 2 * n), .int .i64 0]) (by simp [results, Try.results26, go_sem, *]) rfl ⟨rfl, (by repeat (first | with_reducible exact B2 | with_reducible apply Below.drew | with_reducible refine below_drewN ?_ _ | (with_reducible refine Below.setCell ?_ ?_ _; rotate_left; focus (simp <;> omega)) | (with_reducible refine Below.alloc ?_ ?_ _; rotate_left; focus (simp <;> omega))))⟩

theorem grow2_c (X Y W H n : Int) (w : World) (hc : chk X Y W H = 0) (b1 : -512 ≤ n) (b2 : n ≤ 512) (h2 : chk (X - n) (Y - n) (W + 2 * n) (H + 2 * n) ≠ 0) :
    Calls Try.prog 26 #[reg X Y W H, .int .i64 n] w fun e w' => e = .returned (.tuple #[reg 0 0 0 0, .int .i64 (chk (X - n) (Y - n) (W + 2 * n) (H + 2 * n))]) ∧ Below w.heap.size w w' := by
  obtain ⟨z1, z2, z3, z4, z5, z6, z7, z8, z9⟩ := chk_zero hc
  have h2b : (chk (X - n) (Y - n) (W + 2 * n) (H + 2 * n) != 0) = true := by rw [bne_iff_ne]; exact h2
  go_enter Try.func26, Try.ntmps26
  go_wp2_with fail
  refine (check2 _ _ _ _ _).mono ?_
  rintro e w1 ⟨rfl, hb⟩
  have B1 : Below w.heap.size w w1 := (((Below.refl _ _).alloc (Nat.le_refl _) _).alloc (by simp) _).trans (hb.mono (by simp; omega))
  rw [hc]
  clear hc
  obtain ⟨hcc, hf⟩ := bcell hb
  have hz : w.heap.size + 1 < w1.heap.size := by have := hb.size; simp at this; omega
  clear hb
  go_wp2_with fail
  refine (grown_any _ _ _ _ _ _ z1 z2 z3 z4 z5 z6 (by omega) (by omega) b1 b2).mono ?_
  rintro e wg ⟨rfl, hbg⟩
  have BG : Below w.heap.size w wg := B1.trans (hbg.mono (by omega))
  obtain ⟨hccg, hfg⟩ := bcell hbg
  have hzg : w.heap.size + 1 < wg.heap.size := by have := hbg.size; omega
  have hzh : w.heap.size < wg.heap.size := by omega
  have hzi : w.heap.size < w1.heap.size := by omega
  clear hbg
  go_wp2_with fail
  refine (check2 _ _ _ _ _).mono ?_
  rintro e w2 ⟨rfl, hb2⟩
  have B2 : Below w.heap.size w w2 := (BG.alloc (by omega) _).trans (hb2.mono (by simp; omega))
  generalize hq : chk (X - n) (Y - n) (W + 2 * n) (H + 2 * n) = c at *
  have Hq := Lib.hid hq; clear hq
  obtain ⟨hcc2, hf2⟩ := bcell hb2
  have hz2 : wg.heap.size < w2.heap.size := by have := hb2.size; simp at this; omega
  clear hb2
  have hy1 : w.heap.size + 1 < wg.heap.size + 1 := by omega
  have hy2 : w.heap.size < wg.heap.size + 1 := by omega
  have hy3 : ¬ w.heap.size + 1 = wg.heap.size := by omega
  have hy4 : ¬ w.heap.size = wg.heap.size := by omega
  go_wp2
  exact bodyPost_ret (v := .tuple #[reg 0 0 0 0, .int .i64 c]) (by simp [results, Try.results26, go_sem, *]) rfl ⟨by rw [Hq.out], (by repeat (first | with_reducible exact B2 | with_reducible apply Below.drew | with_reducible refine below_drewN ?_ _ | (with_reducible refine Below.setCell ?_ ?_ _; rotate_left; focus (simp <;> omega)) | (with_reducible refine Below.alloc ?_ ?_ _; rotate_left; focus (simp <;> omega))))⟩

theorem grow2_a (X Y W H n : Int) (w : World) (hc : chk X Y W H ≠ 0) : Calls Try.prog 26 #[reg X Y W H, .int .i64 n] w fun e w' => e = .returned (.tuple #[reg 0 0 0 0, .int .i64 (chk X Y W H)]) ∧ Below w.heap.size w w' := by
  have h2b : (chk X Y W H != 0) = true := by rw [bne_iff_ne]; exact hc
  go_enter Try.func26, Try.ntmps26
  go_wp2_with fail
  refine (check2 _ _ _ _ _).mono ?_
  rintro e w1 ⟨rfl, hb⟩
  have B1 : Below w.heap.size w w1 := (((Below.refl _ _).alloc (Nat.le_refl _) _).alloc (by simp) _).trans (hb.mono (by simp; omega))
  generalize hq : chk X Y W H = c at *
  have Hq := Lib.hid hq; clear hq
  obtain ⟨hcc, hf⟩ := bcell hb
  have hz : w.heap.size + 1 < w1.heap.size := by have := hb.size; simp at this; omega
  clear hb
  go_wp2
  exact bodyPost_ret (v := .tuple #[reg 0 0 0 0, .int .i64 c]) (by simp [results, Try.results26, go_sem, *]) rfl ⟨by rw [Hq.out], (by repeat (first | with_reducible exact B1 | with_reducible apply Below.drew | with_reducible refine below_drewN ?_ _ | (with_reducible refine Below.setCell ?_ ?_ _; rotate_left; focus (simp <;> omega)) | (with_reducible refine Below.alloc ?_ ?_ _; rotate_left; focus (simp <;> omega))))⟩

theorem grow2 (X Y W H n : Int) (w : World) : Calls Try.prog 26 #[reg X Y W H, .int .i64 n] w fun e w' => e = .returned (.tuple #[growR X Y W H n, .int .i64 (growE X Y W H n)]) ∧ Below w.heap.size w w' := by
  by_cases hc : chk X Y W H = 0
  · by_cases hn : n < -512 ∨ 512 < n
    · obtain ⟨e1, e2⟩ := grow_b hc hn
      rw [e1, e2]; exact grow2_b X Y W H n w hc hn
    · by_cases h2 : chk (X - n) (Y - n) (W + 2 * n) (H + 2 * n) = 0
      · obtain ⟨e1, e2⟩ := grow_d hc hn h2
        rw [e1, e2]; exact grow2_d X Y W H n w hc (by omega) (by omega) h2
      · obtain ⟨e1, e2⟩ := grow_c hc hn h2
        rw [e1, e2]; exact grow2_c X Y W H n w hc (by omega) (by omega) h2
  · obtain ⟨e1, e2⟩ := grow_a (n := n) hc
    rw [e1, e2]; exact grow2_a X Y W H n w hc
end Go.Proofs.Ytgeeaegnohdejaa
