import Derived.Test.YtgeeaegnohdejaaUnits
import Derived.WalkSmall
namespace Go.Proofs.Ytgeeaegnohdejaa
open Go.ChangeShapes Go.WideShapes Go.ChangeAt Go.RowKit
theorem bcell {W w1 : World} (hb : Below W.heap.size W w1) : (∀ b o, b < W.heap.size → w1.cell? ⟨b, o, none⟩ = W.cell? ⟨b, o, none⟩) ∧ (∀ b o, b < W.heap.size → w1.frozen? ⟨b, o, none⟩ = W.frozen? ⟨b, o, none⟩) :=
  ⟨fun b o h => hb.cell (p := ⟨b, o, none⟩) h, fun b o h => hb.frozen (p := ⟨b, o, none⟩) h⟩
def chk (X Y W H : Int) : Int :=
  if W < 1 ∨ 512 < W ∨ H < 1 ∨ 512 < H then 3 else if 65536 < W * H then 4
  else if X < -4194304 ∨ Y < -4194304 ∨ 4194304 - W < X ∨ 4194304 - H < Y then 5 else 0

theorem ret_i64 {a b : Int} (h : a = b) : Ending.returned (.int .i64 a) = .returned (.int .i64 b) := by rw [h]

theorem side_mul {W H : Int} (h1 : 1 ≤ W) (h2 : W ≤ 512) (h3 : 1 ≤ H) (h4 : H ≤ 512) : wrap64 (W * H) = W * H ∧ wrap64 (4194304 - H) = 4194304 - H := by
  have a := Int.mul_le_mul h2 h4 (by omega) (by omega)
  have b := Int.mul_le_mul h1 h3 (by omega) (by omega)
  unfold wrap64
  omega

abbrev reg (X Y W H : Int) : Value := .agg #[.int .i64 X, .int .i64 Y, .int .i64 W, .int .i64 H]

theorem check1 (X Y W H : Int) (w : World) : Calls Try.prog 23 #[reg X Y W H] w fun e w' => e = .returned (.int .i64 (chk X Y W H)) ∧ Below w.heap.size w w' := by
  go_enter Try.func23, Try.ntmps23
  go_wp2
  all_goals
    go_ret
    refine ⟨ret_i64 ?_, (by repeat (first | with_reducible exact Below.refl _ _ | with_reducible apply Below.drew | with_reducible refine below_drewN ?_ _ | (with_reducible refine Below.setCell ?_ ?_ _; rotate_left; focus (simp <;> omega)) | (with_reducible refine Below.alloc ?_ ?_ _; rotate_left; focus (simp <;> omega))))⟩
    have sm := @side_mul W H
    show _ = chk X Y W H
    unfold chk; revert sm; grind

theorem check2 (X Y W H : Int) (w : World) : Calls Try.prog 24 #[reg X Y W H] w fun e w' => e = .returned (.int .i64 (chk X Y W H)) ∧ Below w.heap.size w w' := by
  go_enter Try.func24, Try.ntmps24
  go_wp2
  all_goals
    go_ret
    refine ⟨ret_i64 ?_, (by repeat (first | with_reducible exact Below.refl _ _ | with_reducible apply Below.drew | with_reducible refine below_drewN ?_ _ | (with_reducible refine Below.setCell ?_ ?_ _; rotate_left; focus (simp <;> omega)) | (with_reducible refine Below.alloc ?_ ?_ _; rotate_left; focus (simp <;> omega))))⟩
    have sm := @side_mul W H
    show _ = chk X Y W H
    unfold chk; revert sm; grind

theorem chk_zero {X Y W H : Int} (h : chk X Y W H = 0) : 1 ≤ W ∧ W ≤ 512 ∧ 1 ≤ H ∧ H ≤ 512 ∧ -4194304 ≤ X ∧ -4194304 ≤ Y ∧ X ≤ 4194304 - W ∧ Y ≤ 4194304 - H ∧ W * H ≤ 65536 := by
  unfold chk at h; split at h
  · omega
  · split at h
    · omega
    · split at h <;> omega

/-- what Grow returns -/
def growE (X Y W H n : Int) : Int := if chk X Y W H ≠ 0 then chk X Y W H else if n < -512 ∨ 512 < n then 3 else chk (X - n) (Y - n) (W + 2 * n) (H + 2 * n)
def growR (X Y W H n : Int) : Value := if growE X Y W H n = 0 then reg (X - n) (Y - n) (W + 2 * n) (H + 2 * n) else reg 0 0 0 0

theorem grow_a {X Y W H n : Int} (h : chk X Y W H ≠ 0) : growE X Y W H n = chk X Y W H ∧ growR X Y W H n = reg 0 0 0 0 := by
  unfold growR growE; rw [if_pos h, if_neg h]; exact ⟨rfl, rfl⟩
theorem grow_b {X Y W H n : Int} (h : chk X Y W H = 0) (hn : n < -512 ∨ 512 < n) : growE X Y W H n = 3 ∧ growR X Y W H n = reg 0 0 0 0 := by
  unfold growR growE; rw [if_neg (by simpa using h), if_pos hn]; exact ⟨rfl, rfl⟩
theorem grow_c {X Y W H n : Int} (h : chk X Y W H = 0) (hn : ¬ (n < -512 ∨ 512 < n)) (h2 : chk (X - n) (Y - n) (W + 2 * n) (H + 2 * n) ≠ 0) : growE X Y W H n = chk (X - n) (Y - n) (W + 2 * n) (H + 2 * n) ∧ growR X Y W H n = reg 0 0 0 0 := by
  unfold growR growE; rw [if_neg (by simpa using h), if_neg hn, if_neg h2]; exact ⟨rfl, rfl⟩
theorem grow_d {X Y W H n : Int} (h : chk X Y W H = 0) (hn : ¬ (n < -512 ∨ 512 < n)) (h2 : chk (X - n) (Y - n) (W + 2 * n) (H + 2 * n) = 0) : growE X Y W H n = 0 ∧ growR X Y W H n = reg (X - n) (Y - n) (W + 2 * n) (H + 2 * n) := by
  unfold growR growE; rw [if_neg (by simpa using h), if_neg hn, if_pos h2]; exact ⟨h2, rfl⟩

theorem ret_grow {r r' : Value} {a b : Int} (h : r = r') (h' : a = b) : Ending.returned (.tuple #[r, .int .i64 a]) = .returned (.tuple #[r', .int .i64 b]) := by rw [h, h']

theorem grow1_b (X Y W H n : Int) (w : World) (hc : chk X Y W H = 0) (hn : n < -512 ∨ 512 < n) : Calls Try.prog 25 #[reg X Y W H, .int .i64 n] w fun e w' => e = .returned (.tuple #[reg 0 0 0 0, .int .i64 3]) ∧ Below w.heap.size w w' := by
  rcases hn with hn | hn
  all_goals
    go_enter Try.func25, Try.ntmps25
    go_wp2_with fail
    refine (check1 _ _ _ _ _).mono ?_
    rintro e w1 ⟨rfl, hb⟩
    have B1 : Below w.heap.size w w1 := (((Below.refl _ _).alloc (Nat.le_refl _) _).alloc (by simp) _).trans (hb.mono (by simp; omega))
    rw [hc]
    obtain ⟨hcc, hf⟩ := bcell hb
    have hz : w.heap.size + 1 < w1.heap.size := by have := hb.size; simp at this; omega
    clear hb
    go_wp2
    exact bodyPost_ret (v := .tuple #[reg 0 0 0 0, .int .i64 3]) (by simp [results, Try.results25, go_sem, *]) rfl ⟨rfl, (by repeat (first | with_reducible exact B1 | with_reducible apply Below.drew | with_reducible refine below_drewN ?_ _ | (with_reducible refine Below.setCell ?_ ?_ _; rotate_left; focus (simp <;> omega)) | (with_reducible refine Below.alloc ?_ ?_ _; rotate_left; focus (simp <;> omega))))⟩

theorem grow1_d (X Y W H n : Int) (w : World) (hc : chk X Y W H = 0) (b1 : -512 ≤ n) (b2 : n ≤ 512) (h2 : chk (X - n) (Y - n) (W + 2 * n) (H + 2 * n) = 0) :
    Calls Try.prog 25 #[reg X Y W H, .int .i64 n] w fun e w' => e = .returned (.tuple #[reg (X - n) (Y - n) (W + 2 * n) (H + 2 * n), .int .i64 0]) ∧ Below w.heap.size w w' := by
  obtain ⟨z1, z2, z3, z4, z5, z6, z7, z8, z9⟩ := chk_zero hc
  go_enter Try.func25, Try.ntmps25
  go_wp2_with fail
  refine (check1 _ _ _ _ _).mono ?_
  rintro e w1 ⟨rfl, hb⟩
  have B1 : Below w.heap.size w w1 := (((Below.refl _ _).alloc (Nat.le_refl _) _).alloc (by simp) _).trans (hb.mono (by simp; omega))
  rw [hc]
  clear hc
  obtain ⟨hcc, hf⟩ := bcell hb
  have hz : w.heap.size + 1 < w1.heap.size := by have := hb.size; simp at this; omega
  clear hb
  go_wp2_with fail
  refine (check1 _ _ _ _ _).mono ?_
  rintro e w2 ⟨rfl, hb2⟩
  have B2 : Below w.heap.size w w2 := (B1.alloc (by omega) _).trans (hb2.mono (by simp; omega))
  rw [h2]
  clear h2
  obtain ⟨hcc2, hf2⟩ := bcell hb2
  have hz2 : w1.heap.size < w2.heap.size := by have := hb2.size; simp at this; omega
  clear hb2
  have hy1 : w.heap.size + 1 < w1.heap.size + 1 := by omega
  have hy2 : w.heap.size < w1.heap.size + 1 := by omega
  have hy3 : ¬ w.heap.size + 1 = w1.heap.size := by omega
  have hy4 : ¬ w.heap.size = w1.heap.size := by omega
  go_wp2
  exact bodyPost_ret (v := .tuple #[reg (X - n) (Y - n) (W + 2 * n) (H + 2 * n), .int .i64 0]) (by simp [results, Try.results25, go_sem, *]) rfl ⟨rfl, (by repeat (first | with_reducible exact B2 | with_reducible apply Below.drew | with_reducible refine below_drewN ?_ _ | (with_reducible refine Below.setCell ?_ ?_ _; rotate_left; focus (simp <;> omega)) | (with_reducible refine Below.alloc ?_ ?_ _; rotate_left; focus (simp <;> omega))))⟩

theorem grow1_c (X Y W H n : Int) (w : World) (hc : chk X Y W H = 0) (b1 : -512 ≤ n) (b2 : n ≤ 512) (h2 : chk (X - n) (Y - n) (W + 2 * n) (H + 2 * n) ≠ 0) :
    Calls Try.prog 25 #[reg X Y W H, .int .i64 n] w fun e w' => e = .returned (.tuple #[reg 0 0 0 0, .int .i64 (chk (X - n) (Y - n) (W + 2 * n) (H + 2 * n))]) ∧ Below w.heap.size w w' := by
  obtain ⟨z1, z2, z3, z4, z5, z6, z7, z8, z9⟩ := chk_zero hc
  have h2b : (chk (X - n) (Y - n) (W + 2 * n) (H + 2 * n) != 0) = true := by rw [bne_iff_ne]; exact h2
  go_enter Try.func25, Try.ntmps25
  go_wp2_with fail
  refine (check1 _ _ _ _ _).mono ?_
  rintro e w1 ⟨rfl, hb⟩
  have B1 : Below w.heap.size w w1 := (((Below.refl _ _).alloc (Nat.le_refl _) _).alloc (by simp) _).trans (hb.mono (by simp; omega))
  rw [hc]
  clear hc
  obtain ⟨hcc, hf⟩ := bcell hb
  have hz : w.heap.size + 1 < w1.heap.size := by have := hb.size; simp at this; omega
  clear hb
  go_wp2_with fail
  refine (check1 _ _ _ _ _).mono ?_
  rintro e w2 ⟨rfl, hb2⟩
  have B2 : Below w.heap.size w w2 := (B1.alloc (by omega) _).trans (hb2.mono (by simp; omega))
  generalize hq : chk (X - n) (Y - n) (W + 2 * n) (H + 2 * n) = c at *
  have Hq := Lib.hid hq; clear hq
  obtain ⟨hcc2, hf2⟩ := bcell hb2
  have hz2 : w1.heap.size < w2.heap.size := by have := hb2.size; simp at this; omega
  clear hb2
  have hy1 : w.heap.size + 1 < w1.heap.size + 1 := by omega
  have hy2 : w.heap.size < w1.heap.size + 1 := by omega
  have hy3 : ¬ w.heap.size + 1 = w1.heap.size := by omega
  have hy4 : ¬ w.heap.size = w1.heap.size := by omega
  go_wp2
  exact bodyPost_ret (v := .tuple #[reg 0 0 0 0, .int .i64 c]) (by simp [results, Try.results25, go_sem, *]) rfl ⟨by rw [Hq.out], (by repeat (first | with_reducible exact B2 | with_reducible apply Below.drew | with_reducible refine below_drewN ?_ _ | (with_reducible refine Below.setCell ?_ ?_ _; rotate_left; focus (simp <;> omega)) | (with_reducible refine Below.alloc ?_ ?_ _; rotate_left; focus (simp <;> omega))))⟩

theorem grow1_a (X Y W H n : Int) (w : World) (hc : chk X Y W H ≠ 0) : Calls Try.prog 25 #[reg X Y W H, .int .i64 n] w fun e w' => e = .returned (.tuple #[reg 0 0 0 0, .int .i64 (chk X Y W H)]) ∧ Below w.heap.size w w' := by
  have h2b : (chk X Y W H != 0) = true := by rw [bne_iff_ne]; exact hc
  go_enter Try.func25, Try.ntmps25
  go_wp2_with fail
  refine (check1 _ _ _ _ _).mono ?_
  rintro e w1 ⟨rfl, hb⟩
  have B1 : Below w.heap.size w w1 := (((Below.refl _ _).alloc (Nat.le_refl _) _).alloc (by simp) _).trans (hb.mono (by simp; omega))
  generalize hq : chk X Y W H = c at *
  have Hq := Lib.hid hq; clear hq
  obtain ⟨hcc, hf⟩ := bcell hb
  have hz : w.heap.size + 1 < w1.heap.size := by have := hb.size; simp at this; omega
  clear hb
  go_wp2
  exact bodyPost_ret (v := .tuple #[reg 0 0 0 0, .int .i64 c]) (by simp [results, Try.results25, go_sem, *]) rfl ⟨by rw [Hq.out], (by repeat (first | with_reducible exact B1 | with_reducible apply Below.drew | with_reducible refine below_drewN ?_ _ | (with_reducible refine Below.setCell ?_ ?_ _; rotate_left; focus (simp <;> omega)) | (with_reducible refine Below.alloc ?_ ?_ _; rotate_left; focus (simp <;> omega))))⟩

theorem grow1 (X Y W H n : Int) (w : World) : Calls Try.prog 25 #[reg X Y W H, .int .i64 n] w fun e w' => e = .returned (.tuple #[growR X Y W H n, .int .i64 (growE X Y W H n)]) ∧ Below w.heap.size w w' := by
  by_cases hc : chk X Y W H = 0
  · by_cases hn : n < -512 ∨ 512 < n
    · obtain ⟨e1, e2⟩ := grow_b hc hn
      rw [e1, e2]; exact grow1_b X Y W H n w hc hn
    · by_cases h2 : chk (X - n) (Y - n) (W + 2 * n) (H + 2 * n) = 0
      · obtain ⟨e1, e2⟩ := grow_d hc hn h2
        rw [e1, e2]; exact grow1_d X Y W H n w hc (by omega) (by omega) h2
      · obtain ⟨e1, e2⟩ := grow_c hc hn h2
        rw [e1, e2]; exact grow1_c X Y W H n w hc (by omega) (by omega) h2
  · obtain ⟨e1, e2⟩ := grow_a (n := n) hc
    rw [e1, e2]; exact grow1_a X Y W H n w hc

theorem landed_bel (w : World) : Calls Try.prog 15 #[] w fun e w' => e = .returned (.bool true) ∧ Below w.heap.size w w' := by
  go_enter Try.func15, Try.ntmps15
  go_wp2
  go_ret
  exact ⟨rfl, (by repeat (first | with_reducible exact Below.refl _ _ | with_reducible apply Below.drew | with_reducible refine below_drewN ?_ _ | (with_reducible refine Below.setCell ?_ ?_ _; rotate_left; focus (simp <;> omega)) | (with_reducible refine Below.alloc ?_ ?_ _; rotate_left; focus (simp <;> omega))))⟩
end Go.Proofs.Ytgeeaegnohdejaa
