import Derived.Test.YtfmbekdfigbfiaaKScatC
import Derived.Deep.DeepCutAuto
namespace Go.Proofs.Ytfmbekdfigbfiaa
open Go.ChangeShapes Go.WideShapes Go.ChangeAt Go.RowKit
open Ieee.Format (fin finE htE allFin allHt all_true all_false mulF subF addF Ht Bd divF rootF floorF easeF mixF)
set_option linter.unusedVariables false
open Wide Go.Sort Go.Shelf

set_option maxRecDepth 100000 in
theorem orint_any (x y : Int) (b c : Nat) (w : World) (h0 : w.cell? ⟨b, 0, none⟩ = some (.int .i64 x)) (h1 : w.cell? ⟨b, 1, none⟩ = some (.int .i64 y)) :
    Calls Try.prog 121 #[.slice (some ⟨b, 0, none⟩) 2 c] w fun e w' => e = .returned (.int .i64 (if x = 0 then y else x)) ∧ w = w' := by
  obtain ⟨z, hz⟩ : ∃ z : Int, z = if x = 0 then y else x := ⟨_, rfl⟩
  rw [← hz]
  have HZ := Lib.hid hz
  clear hz
  go_enter Try.func121, Try.ntmps121
  go_upto_region 3 with fail
  go_loopw [5, 8] (fun _ iv wr => ∃ k : Nat, k ≤ 2 ∧ iv = .int .i64 (k : Int) ∧ wr = w ∧ (1 ≤ k → x = 0) ∧ (2 ≤ k → y = 0)) (fun _ iv _ => 2 - (intOf iv).toNat)
  case atStart => exact ⟨0, by omega, rfl, rfl, fun h => absurd h (by omega), fun h => absurd h (by omega)⟩
  case round =>
    obtain ⟨k, hk, rfl, rfl, hx, hy⟩ := hrel
    have HX := Lib.hid hx
    have HY := Lib.hid hy
    clear hx hy
    rcases (show k = 0 ∨ k = 1 ∨ k = 2 by omega) with rfl | rfl | rfl
    · by_cases hx0 : x = 0
      · subst hx0
        go_wp2_with fail
        go_roundw
        case rel => exact ⟨1, by omega, rfl, trivial, by simp, fun h => absurd h (by omega)⟩
        case measure => simp [intOf]
      · have hb0 : (x == 0) = false := by simpa using hx0
        go_wp2_with fail
        go_ret
        exact ⟨by rw [HZ.out, if_neg hx0]; rfl, rfl⟩
    · have hx0 := HX.out (by omega)
      by_cases hy0 : y = 0
      · subst hy0
        go_wp2_with fail
        go_roundw
        case rel => exact ⟨2, by omega, rfl, trivial, fun _ => hx0, by simp⟩
        case measure => simp [intOf]
      · have hb0 : (y == 0) = false := by simpa using hy0
        go_wp2_with fail
        go_ret
        exact ⟨by rw [HZ.out, if_pos hx0]; rfl, rfl⟩
    · have hx0 := HX.out (by omega)
      have hy0 := HY.out (by omega)
      go_wp2_with fail
      go_ret
      exact ⟨by rw [HZ.out, if_pos hx0, hy0]; rfl, rfl⟩
/-- the order of places, as a number -/
def cfP (a b : Int × Int) : Int := if cmpI a.2 b.2 = 0 then cmpI a.1 b.1 else cmpI a.2 b.2
set_option maxRecDepth 100000 in
set_option maxHeartbeats 2000000 in
theorem cmpyx1 (a b : Int × Int) (w₀ : World) :
    Calls Try.prog 120 #[.agg #[.int .i64 a.1, .int .i64 a.2], .agg #[.int .i64 b.1, .int .i64 b.2]] w₀ fun e w' => e = .returned (.int .i64 (cfP a b)) ∧ ∃ q os, w' = grow (w₀.drewN q) os := by
  have KY := Lib.hid (fun w => cmpint_any a.2 b.2 w)
  have KX := Lib.hid (fun w => cmpint_any a.1 b.1 w)
  obtain ⟨W1, hW1⟩ : ∃ W1, W1 = (w₀.alloc (.cells #[.int .i64 a.1, .int .i64 a.2] 36)).alloc (.cells #[.int .i64 b.1, .int .i64 b.2] 36) := ⟨_, rfl⟩
  have A : Blk W1 w₀.heap.size #[.int .i64 a.1, .int .i64 a.2] 36 := by rw [hW1]; exact (Blk.new _ _ _).alloc _
  have B : Blk W1 (w₀.heap.size + 1) #[.int .i64 b.1, .int .i64 b.2] 36 := by
    rw [hW1]
    have := Blk.new (w₀.alloc (.cells #[.int .i64 a.1, .int .i64 a.2] 36)) #[.int .i64 b.1, .int .i64 b.2] 36
    simpa using this
  have a0 : W1.cell? ⟨w₀.heap.size, 0, none⟩ = some (.int .i64 a.1) := A.cell 0
  have a1 : W1.cell? ⟨w₀.heap.size, 1, none⟩ = some (.int .i64 a.2) := A.cell 1
  have b0 : W1.cell? ⟨w₀.heap.size + 1, 0, none⟩ = some (.int .i64 b.1) := B.cell 0
  have b1 : W1.cell? ⟨w₀.heap.size + 1, 1, none⟩ = some (.int .i64 b.2) := B.cell 1
  have l0 := A.lt
  have l1 := B.lt
  have HG : Hid (∀ w', Grn W1 w' → ∃ q os, w' = grow (w₀.drewN q) os) := Lib.hid (fun w' h => by rw [hW1] at h; exact Grn.of_alloc (Grn.of_alloc h))
  have HW := Lib.hid hW1
  have KO := Lib.hid (fun bb c w h0 h1 => orint_any (cmpI a.2 b.2) (cmpI a.1 b.1) bb c w h0 h1)
  unfold cfP
  clear A B hW1
  generalize cmpI a.2 b.2 = cy at *
  generalize cmpI a.1 b.1 = cx at *
  obtain ⟨z, hz⟩ : ∃ z : Int, z = (if cy = 0 then cx else cy) := ⟨_, rfl⟩
  rw [← hz] at KO ⊢
  clear hz
  obtain ⟨ax, ay⟩ := a
  obtain ⟨bx, bY⟩ := b
  simp only at *
  go_enter Try.func120, Try.ntmps120
  go_wp2_with fail
  rw [← HW.out]
  refine wp_region_noPanic ?_
  refine wp_region_heldT (Grn W1) 13 (by kernel_rfl) (Grn.refl W1).drew (fun hHeld => ?_)
  refine wpAnyT_takeL [] (i := 0) (v := ?_) rfl (by kernel_rfl) (by kernel_rfl) (by kernel_rfl) (by kernel_rfl) (fun _ _ _ h => h) (Or.inl ⟨by rfl, ?_⟩) (by with_reducible assumption) ?_
  rotate_left
  · intro w hSw
    have z0 := (hSw.cell (p := ⟨w₀.heap.size, 0, none⟩) l0).trans a0
    have z1 := (hSw.cell (p := ⟨w₀.heap.size, 1, none⟩) l0).trans a1
    have z2 := (hSw.cell (p := ⟨w₀.heap.size + 1, 0, none⟩) l1).trans b0
    have z3 := (hSw.cell (p := ⟨w₀.heap.size + 1, 1, none⟩) l1).trans b1
    go_simp
    try with_reducible rfl
  try simp only [Act.put, List.setIfInBounds_toArray, List.set_cons_zero, List.set_cons_succ]
  refine wpAnyT_takeL [] (i := 1) (v := ?_) rfl (by kernel_rfl) (by kernel_rfl) (by kernel_rfl) (by kernel_rfl) (fun _ _ _ h => h) (Or.inl ⟨by rfl, ?_⟩) (by with_reducible assumption) ?_
  rotate_left
  · intro w hSw
    have z0 := (hSw.cell (p := ⟨w₀.heap.size, 0, none⟩) l0).trans a0
    have z1 := (hSw.cell (p := ⟨w₀.heap.size, 1, none⟩) l0).trans a1
    have z2 := (hSw.cell (p := ⟨w₀.heap.size + 1, 0, none⟩) l1).trans b0
    have z3 := (hSw.cell (p := ⟨w₀.heap.size + 1, 1, none⟩) l1).trans b1
    go_simp
    try with_reducible rfl
  try simp only [Act.put, List.setIfInBounds_toArray, List.set_cons_zero, List.set_cons_succ]
  refine wpAnyT_takeL [] (i := 2) (v := ?_) rfl (by kernel_rfl) (by kernel_rfl) (by kernel_rfl) (by kernel_rfl) (fun _ _ _ h => h) (Or.inl ⟨by rfl, ?_⟩) (by with_reducible assumption) ?_
  rotate_left
  · intro w hSw
    have z0 := (hSw.cell (p := ⟨w₀.heap.size, 0, none⟩) l0).trans a0
    have z1 := (hSw.cell (p := ⟨w₀.heap.size, 1, none⟩) l0).trans a1
    have z2 := (hSw.cell (p := ⟨w₀.heap.size + 1, 0, none⟩) l1).trans b0
    have z3 := (hSw.cell (p := ⟨w₀.heap.size + 1, 1, none⟩) l1).trans b1
    go_simp
    try with_reducible rfl
  try simp only [Act.put, List.setIfInBounds_toArray, List.set_cons_zero, List.set_cons_succ]
  refine wpAnyT_takeL [] (i := 3) (v := ?_) rfl (by kernel_rfl) (by kernel_rfl) (by kernel_rfl) (by kernel_rfl) (fun _ _ _ h => h) (Or.inl ⟨by rfl, ?_⟩) (by with_reducible assumption) ?_
  rotate_left
  · intro w hSw
    have z0 := (hSw.cell (p := ⟨w₀.heap.size, 0, none⟩) l0).trans a0
    have z1 := (hSw.cell (p := ⟨w₀.heap.size, 1, none⟩) l0).trans a1
    have z2 := (hSw.cell (p := ⟨w₀.heap.size + 1, 0, none⟩) l1).trans b0
    have z3 := (hSw.cell (p := ⟨w₀.heap.size + 1, 1, none⟩) l1).trans b1
    go_simp
    try with_reducible rfl
  try simp only [Act.put, List.setIfInBounds_toArray, List.set_cons_zero, List.set_cons_succ]
  refine wpAnyT_takeL [] (i := 5) (v := ?_) rfl (by kernel_rfl) (by kernel_rfl) (by kernel_rfl) (by kernel_rfl) (fun _ _ _ h => h) (Or.inl ⟨by rfl, ?_⟩) (by with_reducible assumption) ?_
  rotate_left
  · intro w hSw
    have z0 := (hSw.cell (p := ⟨w₀.heap.size, 0, none⟩) l0).trans a0
    have z1 := (hSw.cell (p := ⟨w₀.heap.size, 1, none⟩) l0).trans a1
    have z2 := (hSw.cell (p := ⟨w₀.heap.size + 1, 0, none⟩) l1).trans b0
    have z3 := (hSw.cell (p := ⟨w₀.heap.size + 1, 1, none⟩) l1).trans b1
    go_simp
    try with_reducible rfl
  try simp only [Act.put, List.setIfInBounds_toArray, List.set_cons_zero, List.set_cons_succ]
  refine wpAnyT_takeL [] (i := 6) (v := ?_) rfl (by kernel_rfl) (by kernel_rfl) (by kernel_rfl) (by kernel_rfl) (fun _ _ _ h => h) (Or.inl ⟨by rfl, ?_⟩) (by with_reducible assumption) ?_
  rotate_left
  · intro w hSw
    have z0 := (hSw.cell (p := ⟨w₀.heap.size, 0, none⟩) l0).trans a0
    have z1 := (hSw.cell (p := ⟨w₀.heap.size, 1, none⟩) l0).trans a1
    have z2 := (hSw.cell (p := ⟨w₀.heap.size + 1, 0, none⟩) l1).trans b0
    have z3 := (hSw.cell (p := ⟨w₀.heap.size + 1, 1, none⟩) l1).trans b1
    go_simp
    try with_reducible rfl
  try simp only [Act.put, List.setIfInBounds_toArray, List.set_cons_zero, List.set_cons_succ]
  refine wpAnyT_takeL [] (i := 7) (v := ?_) rfl (by kernel_rfl) (by kernel_rfl) (by kernel_rfl) (by kernel_rfl) (fun _ _ _ h => h) (Or.inl ⟨by rfl, ?_⟩) (by with_reducible assumption) ?_
  rotate_left
  · intro w hSw
    have z0 := (hSw.cell (p := ⟨w₀.heap.size, 0, none⟩) l0).trans a0
    have z1 := (hSw.cell (p := ⟨w₀.heap.size, 1, none⟩) l0).trans a1
    have z2 := (hSw.cell (p := ⟨w₀.heap.size + 1, 0, none⟩) l1).trans b0
    have z3 := (hSw.cell (p := ⟨w₀.heap.size + 1, 1, none⟩) l1).trans b1
    go_simp
    try with_reducible rfl
  try simp only [Act.put, List.setIfInBounds_toArray, List.set_cons_zero, List.set_cons_succ]
  refine wpAnyT_takeL [] (i := 8) (v := ?_) rfl (by kernel_rfl) (by kernel_rfl) (by kernel_rfl) (by kernel_rfl) (fun _ _ _ h => h) (Or.inl ⟨by rfl, ?_⟩) (by with_reducible assumption) ?_
  rotate_left
  · intro w hSw
    have z0 := (hSw.cell (p := ⟨w₀.heap.size, 0, none⟩) l0).trans a0
    have z1 := (hSw.cell (p := ⟨w₀.heap.size, 1, none⟩) l0).trans a1
    have z2 := (hSw.cell (p := ⟨w₀.heap.size + 1, 0, none⟩) l1).trans b0
    have z3 := (hSw.cell (p := ⟨w₀.heap.size + 1, 1, none⟩) l1).trans b1
    go_simp
    try with_reducible rfl
  try simp only [Act.put, List.setIfInBounds_toArray, List.set_cons_zero, List.set_cons_succ]
  refine wpAnyT_ready (rs := [4]) (by kernel_rfl) (by simp) ?_
  refine AllReadyT.cons rfl (fun K hK => ?_) AllReadyT.nil
  go_simp
  (with_reducible refine (KY.out _).mono ?_)
  rintro e w4 ⟨rfl, rfl⟩
  go_wp2_with fail
  refine hK.out _ _ (fun _ => hHeld) (fun hS_ => ?_)
  have hHeld := hS_ (by omega)
  clear hS_ hK K
  try simp only [Act.put, List.setIfInBounds_toArray, List.set_cons_zero, List.set_cons_succ]
  refine wpAnyT_ready (rs := [9]) (by kernel_rfl) (by simp) ?_
  refine AllReadyT.cons rfl (fun K hK => ?_) AllReadyT.nil
  go_simp
  (with_reducible refine (KX.out _).mono ?_)
  rintro e w4 ⟨rfl, rfl⟩
  go_wp2_with fail
  refine hK.out _ _ (fun _ => hHeld) (fun hS_ => ?_)
  have hHeld := hS_ (by omega)
  clear hS_ hK K
  try simp only [Act.put, List.setIfInBounds_toArray, List.set_cons_zero, List.set_cons_succ]
  refine wpAnyT_ready (rs := [10]) (by kernel_rfl) (by simp) ?_
  refine AllReadyT.cons rfl (fun K hK => ?_) AllReadyT.nil
  go_simp
  have hN : Grn W1 ((W1.alloc (.cells #[.int .i64 cy, .int .i64 cx] 3)).drew) := by
    rw [alloc_eq_grow]; exact ((Grn.refl W1).grow _).drew
  refine hK.out _ _ (fun _ => hN) (fun hS_ => ?_)
  have hHeld := hS_ (by omega)
  clear hS_ hK K
  try simp only [Act.put, List.setIfInBounds_toArray, List.set_cons_zero, List.set_cons_succ]
  refine wpAnyT_ready (rs := [11]) (by kernel_rfl) (by simp) ?_
  refine AllReadyT.cons rfl (fun K hK => ?_) AllReadyT.nil
  go_simp
  refine (KO.out _ _ _ (by simp [go_sem]) (by simp [go_sem])).mono ?_
  rintro e w5 ⟨rfl, rfl⟩
  go_wp2_with fail
  refine hK.out _ _ (fun _ => hN) (fun hS_ => ?_)
  have hHeld := hS_ (by omega)
  clear hS_ hK K
  try simp only [Act.put, List.setIfInBounds_toArray, List.set_cons_zero, List.set_cons_succ]
  refine wpAnyT_takeL [] (i := 12) (v := ?_) rfl (by kernel_rfl) (by kernel_rfl) (by kernel_rfl) (by kernel_rfl) (fun _ _ _ h => h) (Or.inl ⟨by rfl, ?_⟩) (by with_reducible assumption) ?_
  rotate_left
  · intro w hSw
    have z0 := (hSw.cell (p := ⟨w₀.heap.size, 0, none⟩) l0).trans a0
    have z1 := (hSw.cell (p := ⟨w₀.heap.size, 1, none⟩) l0).trans a1
    have z2 := (hSw.cell (p := ⟨w₀.heap.size + 1, 0, none⟩) l1).trans b0
    have z3 := (hSw.cell (p := ⟨w₀.heap.size + 1, 1, none⟩) l1).trans b1
    go_simp
    try with_reducible rfl
  try simp only [Act.put, List.setIfInBounds_toArray, List.set_cons_zero, List.set_cons_succ]
  refine wpAnyT_done (by kernel_rfl) ?_ _
  refine NoPanic.normal ?_
  have hE := HG.out _ hHeld
  have HE := Lib.hid hE
  clear hE
  go_wp2_with fail
  go_ret
  exact ⟨rfl, HE.out⟩
set_option maxRecDepth 100000 in
set_option maxHeartbeats 2000000 in
theorem cmpyx2 (a b : Int × Int) (w₀ : World) :
    Calls Try.prog 128 #[.agg #[.int .i64 a.1, .int .i64 a.2], .agg #[.int .i64 b.1, .int .i64 b.2]] w₀ fun e w' => e = .returned (.int .i64 (cfP a b)) ∧ ∃ q os, w' = grow (w₀.drewN q) os := by
  have KY := Lib.hid (fun w => cmpint_any a.2 b.2 w)
  have KX := Lib.hid (fun w => cmpint_any a.1 b.1 w)
  obtain ⟨W1, hW1⟩ : ∃ W1, W1 = (w₀.alloc (.cells #[.int .i64 a.1, .int .i64 a.2] 36)).alloc (.cells #[.int .i64 b.1, .int .i64 b.2] 36) := ⟨_, rfl⟩
  have A : Blk W1 w₀.heap.size #[.int .i64 a.1, .int .i64 a.2] 36 := by rw [hW1]; exact (Blk.new _ _ _).alloc _
  have B : Blk W1 (w₀.heap.size + 1) #[.int .i64 b.1, .int .i64 b.2] 36 := by
    rw [hW1]
    have := Blk.new (w₀.alloc (.cells #[.int .i64 a.1, .int .i64 a.2] 36)) #[.int .i64 b.1, .int .i64 b.2] 36
    simpa using this
  have a0 : W1.cell? ⟨w₀.heap.size, 0, none⟩ = some (.int .i64 a.1) := A.cell 0
  have a1 : W1.cell? ⟨w₀.heap.size, 1, none⟩ = some (.int .i64 a.2) := A.cell 1
  have b0 : W1.cell? ⟨w₀.heap.size + 1, 0, none⟩ = some (.int .i64 b.1) := B.cell 0
  have b1 : W1.cell? ⟨w₀.heap.size + 1, 1, none⟩ = some (.int .i64 b.2) := B.cell 1
  have l0 := A.lt
  have l1 := B.lt
  have HG : Hid (∀ w', Grn W1 w' → ∃ q os, w' = grow (w₀.drewN q) os) := Lib.hid (fun w' h => by rw [hW1] at h; exact Grn.of_alloc (Grn.of_alloc h))
  have HW := Lib.hid hW1
  have KO := Lib.hid (fun bb c w h0 h1 => orint_any (cmpI a.2 b.2) (cmpI a.1 b.1) bb c w h0 h1)
  unfold cfP
  clear A B hW1
  generalize cmpI a.2 b.2 = cy at *
  generalize cmpI a.1 b.1 = cx at *
  obtain ⟨z, hz⟩ : ∃ z : Int, z = (if cy = 0 then cx else cy) := ⟨_, rfl⟩
  rw [← hz] at KO ⊢
  clear hz
  obtain ⟨ax, ay⟩ := a
  obtain ⟨bx, bY⟩ := b
  simp only at *
  go_enter Try.func128, Try.ntmps128
  go_wp2_with fail
  rw [← HW.out]
  refine wp_region_noPanic ?_
  refine wp_region_heldT (Grn W1) 13 (by kernel_rfl) (Grn.refl W1).drew (fun hHeld => ?_)
  refine wpAnyT_takeL [] (i := 0) (v := ?_) rfl (by kernel_rfl) (by kernel_rfl) (by kernel_rfl) (by kernel_rfl) (fun _ _ _ h => h) (Or.inl ⟨by rfl, ?_⟩) (by with_reducible assumption) ?_
  rotate_left
  · intro w hSw
    have z0 := (hSw.cell (p := ⟨w₀.heap.size, 0, none⟩) l0).trans a0
    have z1 := (hSw.cell (p := ⟨w₀.heap.size, 1, none⟩) l0).trans a1
    have z2 := (hSw.cell (p := ⟨w₀.heap.size + 1, 0, none⟩) l1).trans b0
    have z3 := (hSw.cell (p := ⟨w₀.heap.size + 1, 1, none⟩) l1).trans b1
    go_simp
    try with_reducible rfl
  try simp only [Act.put, List.setIfInBounds_toArray, List.set_cons_zero, List.set_cons_succ]
  refine wpAnyT_takeL [] (i := 1) (v := ?_) rfl (by kernel_rfl) (by kernel_rfl) (by kernel_rfl) (by kernel_rfl) (fun _ _ _ h => h) (Or.inl ⟨by rfl, ?_⟩) (by with_reducible assumption) ?_
  rotate_left
  · intro w hSw
    have z0 := (hSw.cell (p := ⟨w₀.heap.size, 0, none⟩) l0).trans a0
    have z1 := (hSw.cell (p := ⟨w₀.heap.size, 1, none⟩) l0).trans a1
    have z2 := (hSw.cell (p := ⟨w₀.heap.size + 1, 0, none⟩) l1).trans b0
    have z3 := (hSw.cell (p := ⟨w₀.heap.size + 1, 1, none⟩) l1).trans b1
    go_simp
    try with_reducible rfl
  try simp only [Act.put, List.setIfInBounds_toArray, List.set_cons_zero, List.set_cons_succ]
  refine wpAnyT_takeL [] (i := 2) (v := ?_) rfl (by kernel_rfl) (by kernel_rfl) (by kernel_rfl) (by kernel_rfl) (fun _ _ _ h => h) (Or.inl ⟨by rfl, ?_⟩) (by with_reducible assumption) ?_
  rotate_left
  · intro w hSw
    have z0 := (hSw.cell (p := ⟨w₀.heap.size, 0, none⟩) l0).trans a0
    have z1 := (hSw.cell (p := ⟨w₀.heap.size, 1, none⟩) l0).trans a1
    have z2 := (hSw.cell (p := ⟨w₀.heap.size + 1, 0, none⟩) l1).trans b0
    have z3 := (hSw.cell (p := ⟨w₀.heap.size + 1, 1, none⟩) l1).trans b1
    go_simp
    try with_reducible rfl
  try simp only [Act.put, List.setIfInBounds_toArray, List.set_cons_zero, List.set_cons_succ]
  refine wpAnyT_takeL [] (i := 3) (v := ?_) rfl (by kernel_rfl) (by kernel_rfl) (by kernel_rfl) (by kernel_rfl) (fun _ _ _ h => h) (Or.inl ⟨by rfl, ?_⟩) (by with_reducible assumption) ?_
  rotate_left
  · intro w hSw
    have z0 := (hSw.cell (p := ⟨w₀.heap.size, 0, none⟩) l0).trans a0
    have z1 := (hSw.cell (p := ⟨w₀.heap.size, 1, none⟩) l0).trans a1
    have z2 := (hSw.cell (p := ⟨w₀.heap.size + 1, 0, none⟩) l1).trans b0
    have z3 := (hSw.cell (p := ⟨w₀.heap.size + 1, 1, none⟩) l1).trans b1
    go_simp
    try with_reducible rfl
  try simp only [Act.put, List.setIfInBounds_toArray, List.set_cons_zero, List.set_cons_succ]
  refine wpAnyT_takeL [] (i := 5) (v := ?_) rfl (by kernel_rfl) (by kernel_rfl) (by kernel_rfl) (by kernel_rfl) (fun _ _ _ h => h) (Or.inl ⟨by rfl, ?_⟩) (by with_reducible assumption) ?_
  rotate_left
  · intro w hSw
    have z0 := (hSw.cell (p := ⟨w₀.heap.size, 0, none⟩) l0).trans a0
    have z1 := (hSw.cell (p := ⟨w₀.heap.size, 1, none⟩) l0).trans a1
    have z2 := (hSw.cell (p := ⟨w₀.heap.size + 1, 0, none⟩) l1).trans b0
    have z3 := (hSw.cell (p := ⟨w₀.heap.size + 1, 1, none⟩) l1).trans b1
    go_simp
    try with_reducible rfl
  try simp only [Act.put, List.setIfInBounds_toArray, List.set_cons_zero, List.set_cons_succ]
  refine wpAnyT_takeL [] (i := 6) (v := ?_) rfl (by kernel_rfl) (by kernel_rfl) (by kernel_rfl) (by kernel_rfl) (fun _ _ _ h => h) (Or.inl ⟨by rfl, ?_⟩) (by with_reducible assumption) ?_
  rotate_left
  · intro w hSw
    have z0 := (hSw.cell (p := ⟨w₀.heap.size, 0, none⟩) l0).trans a0
    have z1 := (hSw.cell (p := ⟨w₀.heap.size, 1, none⟩) l0).trans a1
    have z2 := (hSw.cell (p := ⟨w₀.heap.size + 1, 0, none⟩) l1).trans b0
    have z3 := (hSw.cell (p := ⟨w₀.heap.size + 1, 1, none⟩) l1).trans b1
    go_simp
    try with_reducible rfl
  try simp only [Act.put, List.setIfInBounds_toArray, List.set_cons_zero, List.set_cons_succ]
  refine wpAnyT_takeL [] (i := 7) (v := ?_) rfl (by kernel_rfl) (by kernel_rfl) (by kernel_rfl) (by kernel_rfl) (fun _ _ _ h => h) (Or.inl ⟨by rfl, ?_⟩) (by with_reducible assumption) ?_
  rotate_left
  · intro w hSw
    have z0 := (hSw.cell (p := ⟨w₀.heap.size, 0, none⟩) l0).trans a0
    have z1 := (hSw.cell (p := ⟨w₀.heap.size, 1, none⟩) l0).trans a1
    have z2 := (hSw.cell (p := ⟨w₀.heap.size + 1, 0, none⟩) l1).trans b0
    have z3 := (hSw.cell (p := ⟨w₀.heap.size + 1, 1, none⟩) l1).trans b1
    go_simp
    try with_reducible rfl
  try simp only [Act.put, List.setIfInBounds_toArray, List.set_cons_zero, List.set_cons_succ]
  refine wpAnyT_takeL [] (i := 8) (v := ?_) rfl (by kernel_rfl) (by kernel_rfl) (by kernel_rfl) (by kernel_rfl) (fun _ _ _ h => h) (Or.inl ⟨by rfl, ?_⟩) (by with_reducible assumption) ?_
  rotate_left
  · intro w hSw
    have z0 := (hSw.cell (p := ⟨w₀.heap.size, 0, none⟩) l0).trans a0
    have z1 := (hSw.cell (p := ⟨w₀.heap.size, 1, none⟩) l0).trans a1
    have z2 := (hSw.cell (p := ⟨w₀.heap.size + 1, 0, none⟩) l1).trans b0
    have z3 := (hSw.cell (p := ⟨w₀.heap.size + 1, 1, none⟩) l1).trans b1
    go_simp
    try with_reducible rfl
  try simp only [Act.put, List.setIfInBounds_toArray, List.set_cons_zero, List.set_cons_succ]
  refine wpAnyT_ready (rs := [4]) (by kernel_rfl) (by simp) ?_
  refine AllReadyT.cons rfl (fun K hK => ?_) AllReadyT.nil
  go_simp
  (with_reducible refine (KY.out _).mono ?_)
  rintro e w4 ⟨rfl, rfl⟩
  go_wp2_with fail
  refine hK.out _ _ (fun _ => hHeld) (fun hS_ => ?_)
  have hHeld := hS_ (by omega)
  clear hS_ hK K
  try simp only [Act.put, List.setIfInBounds_toArray, List.set_cons_zero, List.set_cons_succ]
  refine wpAnyT_ready (rs := [9]) (by kernel_rfl) (by simp) ?_
  refine AllReadyT.cons rfl (fun K hK => ?_) AllReadyT.nil
  go_simp
  (with_reducible refine (KX.out _).mono ?_)
  rintro e w4 ⟨rfl, rfl⟩
  go_wp2_with fail
  refine hK.out _ _ (fun _ => hHeld) (fun hS_ => ?_)
  have hHeld := hS_ (by omega)
  clear hS_ hK K
  try simp only [Act.put, List.setIfInBounds_toArray, List.set_cons_zero, List.set_cons_succ]
  refine wpAnyT_ready (rs := [10]) (by kernel_rfl) (by simp) ?_
  refine AllReadyT.cons rfl (fun K hK => ?_) AllReadyT.nil
  go_simp
  have hN : Grn W1 ((W1.alloc (.cells #[.int .i64 cy, .int .i64 cx] 3)).drew) := by
    rw [alloc_eq_grow]; exact ((Grn.refl W1).grow _).drew
  refine hK.out _ _ (fun _ => hN) (fun hS_ => ?_)
  have hHeld := hS_ (by omega)
  clear hS_ hK K
  try simp only [Act.put, List.setIfInBounds_toArray, List.set_cons_zero, List.set_cons_succ]
  refine wpAnyT_ready (rs := [11]) (by kernel_rfl) (by simp) ?_
  refine AllReadyT.cons rfl (fun K hK => ?_) AllReadyT.nil
  go_simp
  refine (KO.out _ _ _ (by simp [go_sem]) (by simp [go_sem])).mono ?_
  rintro e w5 ⟨rfl, rfl⟩
  go_wp2_with fail
  refine hK.out _ _ (fun _ => hN) (fun hS_ => ?_)
  have hHeld := hS_ (by omega)
  clear hS_ hK K
  try simp only [Act.put, List.setIfInBounds_toArray, List.set_cons_zero, List.set_cons_succ]
  refine wpAnyT_takeL [] (i := 12) (v := ?_) rfl (by kernel_rfl) (by kernel_rfl) (by kernel_rfl) (by kernel_rfl) (fun _ _ _ h => h) (Or.inl ⟨by rfl, ?_⟩) (by with_reducible assumption) ?_
  rotate_left
  · intro w hSw
    have z0 := (hSw.cell (p := ⟨w₀.heap.size, 0, none⟩) l0).trans a0
    have z1 := (hSw.cell (p := ⟨w₀.heap.size, 1, none⟩) l0).trans a1
    have z2 := (hSw.cell (p := ⟨w₀.heap.size + 1, 0, none⟩) l1).trans b0
    have z3 := (hSw.cell (p := ⟨w₀.heap.size + 1, 1, none⟩) l1).trans b1
    go_simp
    try with_reducible rfl
  try simp only [Act.put, List.setIfInBounds_toArray, List.set_cons_zero, List.set_cons_succ]
  refine wpAnyT_done (by kernel_rfl) ?_ _
  refine NoPanic.normal ?_
  have hE := HG.out _ hHeld
  have HE := Lib.hid hE
  clear hE
  go_wp2_with fail
  go_ret
  exact ⟨rfl, HE.out⟩
end Go.Proofs.Ytfmbekdfigbfiaa
