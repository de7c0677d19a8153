import Derived.Test.YtnfebeebjelgbaaWeightFn
import Derived.Test.YtnfebeebjelgbaaRefShade
import Derived.Deep.RegionHeld3
namespace Go.Proofs.Ytnfebeebjelgbaa
open Go.ChangeShapes Go.WideShapes Go.ChangeAt Go.RowKit
open Ieee.Format (fin finE htE allFin allHt all_true all_false mulF subF addF Ht Bd divF rootF floorF easeF mixF)
set_option linter.unusedVariables false
open Ieee.Format (const_1)

theorem refsquare_any (x y X Y A B : Int) (w : World) (p : -4194304 ≤ X ∧ X ≤ 4194304 ∧ -4194304 ≤ Y ∧ Y ≤ 4194304) (q : -8388608 ≤ x ∧ x ≤ 8388608 ∧ -8388608 ≤ y ∧ y ≤ 8388608)
    (hA : (x - X) * (x - X) = A) (a0 : 0 ≤ A) (a1 : A ≤ 281474976710656) (hB : (y - Y) * (y - Y) = B) (b0 : 0 ≤ B) (b1 : B ≤ 281474976710656) :
    Calls Try.prog 155 #[.agg #[.int .i64 x, .int .i64 y], .agg #[.int .i64 X, .int .i64 Y]] w fun e w' => e = .returned (.int .i64 (A + B)) ∧ Below w.heap.size w w' := by
  go_enter Try.func155, Try.ntmps155
  go_wp2
  go_ret
  exact ⟨rfl, (by repeat (first | with_reducible exact Below.refl _ _ | with_reducible apply Below.drew | with_reducible refine below_drewN ?_ _ | (with_reducible refine Below.setCell ?_ ?_ _; rotate_left; focus (first | omega | (simp <;> omega))) | (with_reducible refine Below.alloc ?_ ?_ _; rotate_left; focus (first | omega | (simp <;> omega)))))⟩

set_option maxRecDepth 100000 in
set_option maxHeartbeats 2000000 in
theorem refweight_any (k X Y R x y : Int) (H : Nat) (w : World) (h : BrushOk X Y R x y) :
    Calls Try.prog 64 #[brushV k X Y R H, .int .i64 x, .int .i64 y] w fun e w' => e = .returned (.float .f32 (weightF k (sqD x y X Y) R)) ∧ Below w.heap.size w w' := by
  obtain ⟨⟨a0, a1⟩, ⟨b0, b1⟩⟩ := sqD_bd h.p h.q
  obtain ⟨r1, r2⟩ := sq_rad h.r1 h.r2
  have p := h.p
  have q := h.q
  have q1 := h.r1
  have q2 := h.r2
  unfold sqD
  generalize hA : (x - X) * (x - X) = A at *
  generalize hB : (y - Y) * (y - Y) = B at *
  have d0 : 0 ≤ A + B := by omega
  by_cases c1 : R * R ≤ A + B
  · have e : weightF k (A + B) R = 0 := by unfold weightF; rw [if_pos c1]
    rw [e]
    clear h e
    generalize hR : R * R = r at *
    have KS := Lib.hid (fun w => refsquare_any x y X Y A B w p q hA a0 a1 hB b0 b1)
    clear hA hB a0 a1 b0 b1 p q
    go_enter Try.func64, Try.ntmps64
    go_wp2_with fail
    generalize hW0 : w.alloc (.cells #[.int .i64 k, .int .i64 X, .int .i64 Y, .int .i64 R, .float .f32 H] 79) = W0 at *
    have HK0 : Hid (Blk W0 w.heap.size #[.int .i64 k, .int .i64 X, .int .i64 Y, .int .i64 R, .float .f32 H] 79) := by subst hW0; exact Blk.new _ _ _
    have HB0 : Hid (Below w.heap.size w W0) := Lib.hid (by subst hW0; exact (by repeat (first | with_reducible exact Below.refl _ _ | with_reducible apply Below.drew | with_reducible refine below_drewN ?_ _ | (with_reducible refine Below.setCell ?_ ?_ _; rotate_left; focus (first | omega | (simp <;> omega))) | (with_reducible refine Below.alloc ?_ ?_ _; rotate_left; focus (first | omega | (simp <;> omega))))))
    clear hW0
    have t0 : W0.cell? ⟨w.heap.size, 0, none⟩ = some (.int .i64 k) := HK0.out.cell 0
    have t1 : W0.cell? ⟨w.heap.size, 1, none⟩ = some (.int .i64 X) := HK0.out.cell 1
    have t2 : W0.cell? ⟨w.heap.size, 2, none⟩ = some (.int .i64 Y) := HK0.out.cell 2
    have t3 : W0.cell? ⟨w.heap.size, 3, none⟩ = some (.int .i64 R) := HK0.out.cell 3
    have l0 : w.heap.size < W0.heap.size := HK0.out.lt
    go_region_held3 (fun w' => w'.cell? ⟨w.heap.size, 0, none⟩ = some (.int .i64 k) ∧ w'.cell? ⟨w.heap.size, 1, none⟩ = some (.int .i64 X) ∧ w'.cell? ⟨w.heap.size, 2, none⟩ = some (.int .i64 Y) ∧ w'.cell? ⟨w.heap.size, 3, none⟩ = some (.int .i64 R) ∧ Below W0.heap.size W0 w')
      (first
        | exact ⟨t0, t1, t2, t3, (Below.refl _ _).drew⟩
        | (go_split_ands
           have hs := hb.size
           have hs2 := (show Below W0.heap.size W0 _ by assumption).size
           refine ⟨?_, ?_, ?_, ?_, ?_⟩
           all_goals first
             | (rw [hb.cell (by simp; omega)]; assumption)
             | exact Below.trans (by assumption) (hb.mono (by omega)))
        | (go_split_ands; refine ⟨?_, ?_, ?_, ?_, ?_⟩ <;> assumption))
      (first | (go_at_call 155; go_split_ands; refine (KS.out _).mono ?_; rintro e2 w2 ⟨rfl, hb⟩))
    rename_i hHeld
    clear hb
    obtain ⟨w3, rfl⟩ : ∃ w3 : World, w3 = w2 := ⟨_, rfl⟩
    obtain ⟨u0, u1, u2, u3, hB3⟩ := hHeld
    have HB3 := Lib.hid (HB0.out.trans (hB3.mono HB0.out.size))
    have l3 : w.heap.size < w3.heap.size := by have := hB3.size; omega
    clear t0 t1 t2 t3 l0 hB3 HB0 HK0
    go_wp2_with fail
    go_ret
    exact ⟨rfl, (by have h := HB3.out; exact (by have hszz := h.size; repeat (first | with_reducible exact h | with_reducible apply Below.drew | with_reducible refine below_drewN ?_ _ | (with_reducible refine Below.setCell ?_ ?_ _; rotate_left; focus (first | omega | (simp <;> omega))) | (with_reducible refine Below.alloc ?_ ?_ _; rotate_left; focus (first | omega | (simp <;> omega))))))⟩
  · by_cases c2 : k = 1
    · have e : weightF k (A + B) R = 1065353216 := by unfold weightF; rw [if_neg c1, if_pos c2]
      rw [e]
      subst c2
      clear h e
      generalize hR : R * R = r at *
      have KS := Lib.hid (fun w => refsquare_any x y X Y A B w p q hA a0 a1 hB b0 b1)
      clear hA hB a0 a1 b0 b1 p q
      go_enter Try.func64, Try.ntmps64
      go_wp2_with fail
      generalize hW0 : w.alloc (.cells #[.int .i64 1, .int .i64 X, .int .i64 Y, .int .i64 R, .float .f32 H] 79) = W0 at *
      have HK0 : Hid (Blk W0 w.heap.size #[.int .i64 1, .int .i64 X, .int .i64 Y, .int .i64 R, .float .f32 H] 79) := by subst hW0; exact Blk.new _ _ _
      have HB0 : Hid (Below w.heap.size w W0) := Lib.hid (by subst hW0; exact (by repeat (first | with_reducible exact Below.refl _ _ | with_reducible apply Below.drew | with_reducible refine below_drewN ?_ _ | (with_reducible refine Below.setCell ?_ ?_ _; rotate_left; focus (first | omega | (simp <;> omega))) | (with_reducible refine Below.alloc ?_ ?_ _; rotate_left; focus (first | omega | (simp <;> omega))))))
      clear hW0
      have t0 : W0.cell? ⟨w.heap.size, 0, none⟩ = some (.int .i64 1) := HK0.out.cell 0
      have t1 : W0.cell? ⟨w.heap.size, 1, none⟩ = some (.int .i64 X) := HK0.out.cell 1
      have t2 : W0.cell? ⟨w.heap.size, 2, none⟩ = some (.int .i64 Y) := HK0.out.cell 2
      have t3 : W0.cell? ⟨w.heap.size, 3, none⟩ = some (.int .i64 R) := HK0.out.cell 3
      have l0 : w.heap.size < W0.heap.size := HK0.out.lt
      go_region_held3 (fun w' => w'.cell? ⟨w.heap.size, 0, none⟩ = some (.int .i64 1) ∧ w'.cell? ⟨w.heap.size, 1, none⟩ = some (.int .i64 X) ∧ w'.cell? ⟨w.heap.size, 2, none⟩ = some (.int .i64 Y) ∧ w'.cell? ⟨w.heap.size, 3, none⟩ = some (.int .i64 R) ∧ Below W0.heap.size W0 w')
        (first
          | exact ⟨t0, t1, t2, t3, (Below.refl _ _).drew⟩
          | (go_split_ands
             have hs := hb.size
             have hs2 := (show Below W0.heap.size W0 _ by assumption).size
             refine ⟨?_, ?_, ?_, ?_, ?_⟩
             all_goals first
               | (rw [hb.cell (by simp; omega)]; assumption)
               | exact Below.trans (by assumption) (hb.mono (by omega)))
          | (go_split_ands; refine ⟨?_, ?_, ?_, ?_, ?_⟩ <;> assumption))
        (first | (go_at_call 155; go_split_ands; refine (KS.out _).mono ?_; rintro e2 w2 ⟨rfl, hb⟩))
      rename_i hHeld
      clear hb
      obtain ⟨w3, rfl⟩ : ∃ w3 : World, w3 = w2 := ⟨_, rfl⟩
      obtain ⟨u0, u1, u2, u3, hB3⟩ := hHeld
      have HB3 := Lib.hid (HB0.out.trans (hB3.mono HB0.out.size))
      have l3 : w.heap.size < w3.heap.size := by have := hB3.size; omega
      clear t0 t1 t2 t3 l0 hB3 HB0 HK0
      go_wp2_with fail
      go_ret
      exact ⟨rfl, (by have h := HB3.out; exact (by have hszz := h.size; repeat (first | with_reducible exact h | with_reducible apply Below.drew | with_reducible refine below_drewN ?_ _ | (with_reducible refine Below.setCell ?_ ?_ _; rotate_left; focus (first | omega | (simp <;> omega))) | (with_reducible refine Below.alloc ?_ ?_ _; rotate_left; focus (first | omega | (simp <;> omega))))))⟩
    · by_cases c3 : k = 2
      · have e : weightF k (A + B) R = wCone (A + B) R := by unfold weightF; rw [if_neg c1, if_neg c2, if_pos c3]
        rw [e]
        subst c3
        obtain ⟨f1, f2, f3, f4, f5, f6, f7⟩ := cone_ok d0 (show A + B < R * R by omega) h.r1 h.r2
        have kx := Lib.hid (fun w => ref_conv_ok (A + B) w)
        have ky := Lib.hid (fun w => ref_conv_ok R w)
        have KR := Lib.hid (fun w => refroot_any (cv (A + B)) f1 f2 w)
        have k1 := Lib.hid (fun w => ref_div_ok (rootF (cv (A + B))) (cv R) w f3 f4 (by grind) f6.1)
        have k2 := Lib.hid (fun w => ref_sub_ok 1065353216 (divF (rootF (cv (A + B))) (cv R)) w const_1.1 f6.1 f7.1)
        change Hid (∀ w, Calls Try.prog 130 #[.float .f32 1065353216, .float .f32 (divF (rootF (cv (A + B))) (cv R))] w fun en w2 => en = .returned (.float .f32 (wCone (A + B) R)) ∧ w = w2) at k2
        change Hid (∀ w, Calls Try.prog 140 #[.int .i64 (A + B)] w fun en w2 => en = .returned (.float .f32 (cv (A + B))) ∧ w = w2) at kx
        change Hid (∀ w, Calls Try.prog 140 #[.int .i64 R] w fun en w2 => en = .returned (.float .f32 (cv R)) ∧ w = w2) at ky
        generalize wCone (A + B) R = z3 at *
        generalize divF (rootF (cv (A + B))) (cv R) = z2 at *
        generalize rootF (cv (A + B)) = z1 at *
        generalize cv (A + B) = z0 at *
        generalize cv R = zr at *
        clear h e f1 f2 f3 f4 f5 f6 f7
        generalize hR : R * R = r at *
        have KS := Lib.hid (fun w => refsquare_any x y X Y A B w p q hA a0 a1 hB b0 b1)
        clear hA hB a0 a1 b0 b1 p q
        go_enter Try.func64, Try.ntmps64
        go_wp2_with fail
        generalize hW0 : w.alloc (.cells #[.int .i64 2, .int .i64 X, .int .i64 Y, .int .i64 R, .float .f32 H] 79) = W0 at *
        have HK0 : Hid (Blk W0 w.heap.size #[.int .i64 2, .int .i64 X, .int .i64 Y, .int .i64 R, .float .f32 H] 79) := by subst hW0; exact Blk.new _ _ _
        have HB0 : Hid (Below w.heap.size w W0) := Lib.hid (by subst hW0; exact (by repeat (first | with_reducible exact Below.refl _ _ | with_reducible apply Below.drew | with_reducible refine below_drewN ?_ _ | (with_reducible refine Below.setCell ?_ ?_ _; rotate_left; focus (first | omega | (simp <;> omega))) | (with_reducible refine Below.alloc ?_ ?_ _; rotate_left; focus (first | omega | (simp <;> omega))))))
        clear hW0
        have t0 : W0.cell? ⟨w.heap.size, 0, none⟩ = some (.int .i64 2) := HK0.out.cell 0
        have t1 : W0.cell? ⟨w.heap.size, 1, none⟩ = some (.int .i64 X) := HK0.out.cell 1
        have t2 : W0.cell? ⟨w.heap.size, 2, none⟩ = some (.int .i64 Y) := HK0.out.cell 2
        have t3 : W0.cell? ⟨w.heap.size, 3, none⟩ = some (.int .i64 R) := HK0.out.cell 3
        have l0 : w.heap.size < W0.heap.size := HK0.out.lt
        go_region_held3 (fun w' => w'.cell? ⟨w.heap.size, 0, none⟩ = some (.int .i64 2) ∧ w'.cell? ⟨w.heap.size, 1, none⟩ = some (.int .i64 X) ∧ w'.cell? ⟨w.heap.size, 2, none⟩ = some (.int .i64 Y) ∧ w'.cell? ⟨w.heap.size, 3, none⟩ = some (.int .i64 R) ∧ Below W0.heap.size W0 w')
          (first
            | exact ⟨t0, t1, t2, t3, (Below.refl _ _).drew⟩
            | (go_split_ands
               have hs := hb.size
               have hs2 := (show Below W0.heap.size W0 _ by assumption).size
               refine ⟨?_, ?_, ?_, ?_, ?_⟩
               all_goals first
                 | (rw [hb.cell (by simp; omega)]; assumption)
                 | exact Below.trans (by assumption) (hb.mono (by omega)))
            | (go_split_ands; refine ⟨?_, ?_, ?_, ?_, ?_⟩ <;> assumption))
          (first | (go_at_call 155; go_split_ands; refine (KS.out _).mono ?_; rintro e2 w2 ⟨rfl, hb⟩))
        rename_i hHeld
        clear hb
        obtain ⟨w3, rfl⟩ : ∃ w3 : World, w3 = w2 := ⟨_, rfl⟩
        obtain ⟨u0, u1, u2, u3, hB3⟩ := hHeld
        have HB3 := Lib.hid (HB0.out.trans (hB3.mono HB0.out.size))
        have l3 : w.heap.size < w3.heap.size := by have := hB3.size; omega
        clear t0 t1 t2 t3 l0 hB3 HB0 HK0
        go_wp2_with fail
        go_quiet ((first
          | (go_at_call 140; first | with_reducible exact Calls.quiet_of_same ((kx.out _).mono fun _ _ h => ⟨h.1, h.2.symm⟩) | with_reducible exact Calls.quiet_of_same ((ky.out _).mono fun _ _ h => ⟨h.1, h.2.symm⟩))
          | (go_at_call 156; with_reducible exact Calls.quiet_of_same ((KR.out _).mono fun _ _ h => ⟨h.1, h.2.symm⟩))
          | (go_at_call 139; with_reducible exact Calls.quiet_of_same ((k1.out _).mono fun _ _ h => ⟨h.1, h.2.symm⟩))
          | (go_at_call 130; with_reducible exact Calls.quiet_of_same ((k2.out _).mono fun _ _ h => ⟨h.1, h.2.symm⟩))))
        go_wp2_with fail
        go_ret
        exact ⟨rfl, (by have h := HB3.out; exact (by have hszz := h.size; repeat (first | with_reducible exact h | with_reducible apply Below.drew | with_reducible refine below_drewN ?_ _ | (with_reducible refine Below.setCell ?_ ?_ _; rotate_left; focus (first | omega | (simp <;> omega))) | (with_reducible refine Below.alloc ?_ ?_ _; rotate_left; focus (first | omega | (simp <;> omega))))))⟩
      · have e : weightF k (A + B) R = wBell (A + B) (R * R) := by unfold weightF; rw [if_neg c1, if_neg c2, if_neg c3]
        rw [e]
        obtain ⟨f1, f2, f3, f4, f5, f6⟩ := bell_ok d0 (show A + B < R * R by omega) r2
        have kx := Lib.hid (fun w => ref_conv_ok (A + B) w)
        have ky := Lib.hid (fun w => ref_conv_ok (R * R) w)
        have k1 := Lib.hid (fun w => ref_div_ok (cv (A + B)) (cv (R * R)) w f1 f2 (by grind) f4.1)
        have k2 := Lib.hid (fun w => ref_sub_ok 1065353216 (divF (cv (A + B)) (cv (R * R))) w const_1.1 f4.1 f5.1)
        have k3 := Lib.hid (fun w => ref_mul_ok (wBell1 (A + B) (R * R)) (wBell1 (A + B) (R * R)) w f5.1 f5.1 f6.1)
        change Hid (∀ w, Calls Try.prog 130 #[.float .f32 1065353216, .float .f32 (divF (cv (A + B)) (cv (R * R)))] w fun en w2 => en = .returned (.float .f32 (wBell1 (A + B) (R * R))) ∧ w = w2) at k2
        change Hid (∀ w, Calls Try.prog 136 #[.float .f32 (wBell1 (A + B) (R * R)), .float .f32 (wBell1 (A + B) (R * R))] w fun en w2 => en = .returned (.float .f32 (wBell (A + B) (R * R))) ∧ w = w2) at k3
        change Hid (∀ w, Calls Try.prog 140 #[.int .i64 (A + B)] w fun en w2 => en = .returned (.float .f32 (cv (A + B))) ∧ w = w2) at kx
        change Hid (∀ w, Calls Try.prog 140 #[.int .i64 (R * R)] w fun en w2 => en = .returned (.float .f32 (cv (R * R))) ∧ w = w2) at ky
        generalize wBell (A + B) (R * R) = z3 at *
        generalize wBell1 (A + B) (R * R) = z2 at *
        generalize divF (cv (A + B)) (cv (R * R)) = z1 at *
        generalize cv (A + B) = z0 at *
        generalize cv (R * R) = zr at *
        clear h e f1 f2 f3 f4 f5 f6
        generalize hR : R * R = r at *
        have KS := Lib.hid (fun w => refsquare_any x y X Y A B w p q hA a0 a1 hB b0 b1)
        clear hA hB a0 a1 b0 b1 p q
        go_enter Try.func64, Try.ntmps64
        go_wp2_with fail
        generalize hW0 : w.alloc (.cells #[.int .i64 k, .int .i64 X, .int .i64 Y, .int .i64 R, .float .f32 H] 79) = W0 at *
        have HK0 : Hid (Blk W0 w.heap.size #[.int .i64 k, .int .i64 X, .int .i64 Y, .int .i64 R, .float .f32 H] 79) := by subst hW0; exact Blk.new _ _ _
        have HB0 : Hid (Below w.heap.size w W0) := Lib.hid (by subst hW0; exact (by repeat (first | with_reducible exact Below.refl _ _ | with_reducible apply Below.drew | with_reducible refine below_drewN ?_ _ | (with_reducible refine Below.setCell ?_ ?_ _; rotate_left; focus (first | omega | (simp <;> omega))) | (with_reducible refine Below.alloc ?_ ?_ _; rotate_left; focus (first | omega | (simp <;> omega))))))
        clear hW0
        have t0 : W0.cell? ⟨w.heap.size, 0, none⟩ = some (.int .i64 k) := HK0.out.cell 0
        have t1 : W0.cell? ⟨w.heap.size, 1, none⟩ = some (.int .i64 X) := HK0.out.cell 1
        have t2 : W0.cell? ⟨w.heap.size, 2, none⟩ = some (.int .i64 Y) := HK0.out.cell 2
        have t3 : W0.cell? ⟨w.heap.size, 3, none⟩ = some (.int .i64 R) := HK0.out.cell 3
        have l0 : w.heap.size < W0.heap.size := HK0.out.lt
        go_region_held3 (fun w' => w'.cell? ⟨w.heap.size, 0, none⟩ = some (.int .i64 k) ∧ w'.cell? ⟨w.heap.size, 1, none⟩ = some (.int .i64 X) ∧ w'.cell? ⟨w.heap.size, 2, none⟩ = some (.int .i64 Y) ∧ w'.cell? ⟨w.heap.size, 3, none⟩ = some (.int .i64 R) ∧ Below W0.heap.size W0 w')
          (first
            | exact ⟨t0, t1, t2, t3, (Below.refl _ _).drew⟩
            | (go_split_ands
               have hs := hb.size
               have hs2 := (show Below W0.heap.size W0 _ by assumption).size
               refine ⟨?_, ?_, ?_, ?_, ?_⟩
               all_goals first
                 | (rw [hb.cell (by simp; omega)]; assumption)
                 | exact Below.trans (by assumption) (hb.mono (by omega)))
            | (go_split_ands; refine ⟨?_, ?_, ?_, ?_, ?_⟩ <;> assumption))
          (first | (go_at_call 155; go_split_ands; refine (KS.out _).mono ?_; rintro e2 w2 ⟨rfl, hb⟩))
        rename_i hHeld
        clear hb
        obtain ⟨w3, rfl⟩ : ∃ w3 : World, w3 = w2 := ⟨_, rfl⟩
        obtain ⟨u0, u1, u2, u3, hB3⟩ := hHeld
        have HB3 := Lib.hid (HB0.out.trans (hB3.mono HB0.out.size))
        have l3 : w.heap.size < w3.heap.size := by have := hB3.size; omega
        clear t0 t1 t2 t3 l0 hB3 HB0 HK0
        go_wp2_with fail
        refine (kx.out _).mono ?_
        rintro en wz ⟨rfl, rfl⟩
        go_wp2_with fail
        refine (ky.out _).mono ?_
        rintro en wz ⟨rfl, rfl⟩
        go_wp2_with fail
        refine (k1.out _).mono ?_
        rintro en wz ⟨rfl, rfl⟩
        go_wp2_with fail
        refine (k2.out _).mono ?_
        rintro en wz ⟨rfl, rfl⟩
        go_wp2_with fail
        refine (k3.out _).mono ?_
        rintro en wz ⟨rfl, rfl⟩
        go_wp2_with fail
        go_ret
        exact ⟨rfl, (by have h := HB3.out; exact (by have hszz := h.size; repeat (first | with_reducible exact h | with_reducible apply Below.drew | with_reducible refine below_drewN ?_ _ | (with_reducible refine Below.setCell ?_ ?_ _; rotate_left; focus (first | omega | (simp <;> omega))) | (with_reducible refine Below.alloc ?_ ?_ _; rotate_left; focus (first | omega | (simp <;> omega))))))⟩
end Go.Proofs.Ytnfebeebjelgbaa
