import Derived.Test.YtnfebeebjelgbaaCount
import Derived.Test.YtnfebeebjelgbaaInner
import Derived.Deep.RegionHeld3
namespace Go.Proofs.Ytnfebeebjelgbaa
open Go.ChangeShapes Go.WideShapes Go.ChangeAt Go.RowKit
open Ieee.Format (fin finE htE allFin allHt all_true all_false mulF subF addF Ht Bd divF rootF floorF easeF mixF)
set_option linter.unusedVariables false
open Ieee.Format (const_0 const_1)

theorem select_any (lo hi soft v : Nat) (w : World) (hlo : Ht lo) (hhi : Ht hi) (hs : Ht soft) (hv : Ht v) :
    Calls Try.prog 168 #[.float .f32 v, .float .f32 lo, .float .f32 hi, .float .f32 soft] w fun e w' => e = .returned (.float .f32 (selF lo hi soft v)) ∧ Below w.heap.size w w' := by
  unfold selF
  cases h1 : lss v lo with
  | true =>
    rw [if_pos rfl]
    have hS := sel_lo (hi := hi) soft hlo hv hs h1
    have k1 := fun w' => run_float_arith (P := Try.prog) w' .sub 37 .f32 lo v (subF lo v) (Ieee.Format.bits_sub hlo.fin hv.fin)
    change (FloatKind.f32.format.order v lo == some .lt) = true at h1
    unfold sel2
    cases hd : lss (subF lo v) soft with
    | true =>
      rw [if_pos rfl]
      have k2 := fun w' => run_float_arith (P := Try.prog) w' .quo 37 .f32 (subF lo v) soft (divF (subF lo v) soft) (Ieee.Format.bits_div hS.d hS.s (by have := hS.pos hd; grind))
      have KE := Lib.hid (fun w => shapeease_any (divF (subF lo v) soft) (Ieee.Format.divF_lt _ _) (hS.sh hd) w)
      have k3 := fun w' => run_float_arith (P := Try.prog) w' .sub 37 .f32 1065353216 (easeF (divF (subF lo v) soft)) (subF 1065353216 (easeF (divF (subF lo v) soft))) (Ieee.Format.bits_sub const_1.1 (hS.e hd))
      change (FloatKind.f32.format.order (subF lo v) soft == some .lt) = true at hd
      clear hS hlo hhi hs hv
      generalize subF 1065353216 (easeF (divF (subF lo v) soft)) = z at *
      generalize easeF (divF (subF lo v) soft) = y at *
      generalize divF (subF lo v) soft = t at *
      generalize (subF lo v) = d at *
      go_enter Try.func168, Try.ntmps168
      go_wp2_with fail
      refine (KE.out _).mono ?_
      rintro e w1 ⟨rfl, b1⟩
      have HB := Lib.hid b1
      clear b1
      go_wp2_with fail
      go_ret
      exact ⟨rfl, HB.out⟩
    | false =>
      rw [if_neg (by decide)]
      change (FloatKind.f32.format.order (subF lo v) soft == some .lt) = false at hd
      clear hS hlo hhi hs hv
      generalize subF lo v = d at *
      go_enter Try.func168, Try.ntmps168
      go_wp2
      go_ret
      exact ⟨rfl, Below.refl _ _⟩
  | false =>
    rw [if_neg (by decide)]
    cases h2 : gtr v hi with
    | true =>
      rw [if_pos rfl]
      have hS := sel_hi (lo := lo) soft hhi hv hs h2
      have k1 := fun w' => run_float_arith (P := Try.prog) w' .sub 37 .f32 v hi (subF v hi) (Ieee.Format.bits_sub hv.fin hhi.fin)
      change (FloatKind.f32.format.order v lo == some .lt) = false at h1
      change (FloatKind.f32.format.order v hi == some .gt) = true at h2
      unfold sel2
      cases hd : lss (subF v hi) soft with
      | true =>
        rw [if_pos rfl]
        have k2 := fun w' => run_float_arith (P := Try.prog) w' .quo 37 .f32 (subF v hi) soft (divF (subF v hi) soft) (Ieee.Format.bits_div hS.d hS.s (by have := hS.pos hd; grind))
        have KE := Lib.hid (fun w => shapeease_any (divF (subF v hi) soft) (Ieee.Format.divF_lt _ _) (hS.sh hd) w)
        have k3 := fun w' => run_float_arith (P := Try.prog) w' .sub 37 .f32 1065353216 (easeF (divF (subF v hi) soft)) (subF 1065353216 (easeF (divF (subF v hi) soft))) (Ieee.Format.bits_sub const_1.1 (hS.e hd))
        change (FloatKind.f32.format.order (subF v hi) soft == some .lt) = true at hd
        clear hS hlo hhi hs hv
        generalize subF 1065353216 (easeF (divF (subF v hi) soft)) = z at *
        generalize easeF (divF (subF v hi) soft) = y at *
        generalize divF (subF v hi) soft = t at *
        generalize (subF v hi) = d at *
        go_enter Try.func168, Try.ntmps168
        go_wp2_with fail
        refine (KE.out _).mono ?_
        rintro e w1 ⟨rfl, b1⟩
        have HB := Lib.hid b1
        clear b1
        go_wp2_with fail
        go_ret
        exact ⟨rfl, HB.out⟩
      | false =>
        rw [if_neg (by decide)]
        change (FloatKind.f32.format.order (subF v hi) soft == some .lt) = false at hd
        clear hS hlo hhi hs hv
        generalize subF v hi = d at *
        go_enter Try.func168, Try.ntmps168
        go_wp2
        go_ret
        exact ⟨rfl, Below.refl _ _⟩
    | false =>
      rw [if_neg (by decide)]
      change (FloatKind.f32.format.order v lo == some .lt) = false at h1
      change (FloatKind.f32.format.order v hi == some .gt) = false at h2
      go_enter Try.func168, Try.ntmps168
      go_wp2
      go_ret
      exact ⟨rfl, Below.refl _ _⟩

theorem refselected_any (lo hi soft v : Nat) (w : World) (hlo : Ht lo) (hhi : Ht hi) (hs : Ht soft) (hv : Ht v) :
    Calls Try.prog 171 #[.float .f32 v, .float .f32 lo, .float .f32 hi, .float .f32 soft] w fun e w' => e = .returned (.float .f32 (selF lo hi soft v)) ∧ w = w' := by
  unfold selF
  cases h1 : lss v lo with
  | true =>
    rw [if_pos rfl]
    have hS := sel_lo (hi := hi) soft hlo hv hs h1
    have k1 := Lib.hid (fun w' => ref_sub_ok lo v w' hlo.fin hv.fin hS.d)
    change (FloatKind.f32.format.order v lo == some .lt) = true at h1
    unfold sel2
    cases hd : lss (subF lo v) soft with
    | true =>
      rw [if_pos rfl]
      have k2 := Lib.hid (fun w' => ref_div_ok (subF lo v) soft w' hS.d hS.s (by have := hS.pos hd; grind) (hS.sh hd).1)
      have k3 := Lib.hid (fun w => refease_any (divF (subF lo v) soft) (hS.sh hd) w)
      have k4 := Lib.hid (fun w' => ref_sub_ok 1065353216 (easeF (divF (subF lo v) soft)) w' const_1.1 (hS.e hd) (hS.r hd))
      change (FloatKind.f32.format.order (subF lo v) soft == some .lt) = true at hd
      clear hS hlo hhi hs hv
      generalize subF 1065353216 (easeF (divF (subF lo v) soft)) = z at *
      generalize easeF (divF (subF lo v) soft) = y at *
      generalize divF (subF lo v) soft = t at *
      generalize (subF lo v) = d at *
      go_enter Try.func171, Try.ntmps171
      go_wp2_with fail
      refine (k1.out _).mono ?_
      rintro en wz ⟨rfl, rfl⟩
      go_wp2_with fail
      refine (k2.out _).mono ?_
      rintro en wz ⟨rfl, rfl⟩
      go_wp2_with fail
      refine (k3.out _).mono ?_
      rintro en wz ⟨rfl, rfl⟩
      go_wp2_with fail
      refine (k4.out _).mono ?_
      rintro en wz ⟨rfl, rfl⟩
      go_wp2_with fail
      go_ret
      exact ⟨rfl, rfl⟩
    | false =>
      rw [if_neg (by decide)]
      change (FloatKind.f32.format.order (subF lo v) soft == some .lt) = false at hd
      clear hS hlo hhi hs hv
      generalize subF lo v = d at *
      go_enter Try.func171, Try.ntmps171
      go_wp2_with fail
      refine (k1.out _).mono ?_
      rintro en wz ⟨rfl, rfl⟩
      go_wp2_with fail
      go_ret
      exact ⟨rfl, rfl⟩
  | false =>
    rw [if_neg (by decide)]
    cases h2 : gtr v hi with
    | true =>
      rw [if_pos rfl]
      have hS := sel_hi (lo := lo) soft hhi hv hs h2
      have k1 := Lib.hid (fun w' => ref_sub_ok v hi w' hv.fin hhi.fin hS.d)
      change (FloatKind.f32.format.order v lo == some .lt) = false at h1
      change (FloatKind.f32.format.order v hi == some .gt) = true at h2
      unfold sel2
      cases hd : lss (subF v hi) soft with
      | true =>
        rw [if_pos rfl]
        have k2 := Lib.hid (fun w' => ref_div_ok (subF v hi) soft w' hS.d hS.s (by have := hS.pos hd; grind) (hS.sh hd).1)
        have k3 := Lib.hid (fun w => refease_any (divF (subF v hi) soft) (hS.sh hd) w)
        have k4 := Lib.hid (fun w' => ref_sub_ok 1065353216 (easeF (divF (subF v hi) soft)) w' const_1.1 (hS.e hd) (hS.r hd))
        change (FloatKind.f32.format.order (subF v hi) soft == some .lt) = true at hd
        clear hS hlo hhi hs hv
        generalize subF 1065353216 (easeF (divF (subF v hi) soft)) = z at *
        generalize easeF (divF (subF v hi) soft) = y at *
        generalize divF (subF v hi) soft = t at *
        generalize (subF v hi) = d at *
        go_enter Try.func171, Try.ntmps171
        go_wp2_with fail
        refine (k1.out _).mono ?_
        rintro en wz ⟨rfl, rfl⟩
        go_wp2_with fail
        refine (k2.out _).mono ?_
        rintro en wz ⟨rfl, rfl⟩
        go_wp2_with fail
        refine (k3.out _).mono ?_
        rintro en wz ⟨rfl, rfl⟩
        go_wp2_with fail
        refine (k4.out _).mono ?_
        rintro en wz ⟨rfl, rfl⟩
        go_wp2_with fail
        go_ret
        exact ⟨rfl, rfl⟩
      | false =>
        rw [if_neg (by decide)]
        change (FloatKind.f32.format.order (subF v hi) soft == some .lt) = false at hd
        clear hS hlo hhi hs hv
        generalize subF v hi = d at *
        go_enter Try.func171, Try.ntmps171
        go_wp2_with fail
        refine (k1.out _).mono ?_
        rintro en wz ⟨rfl, rfl⟩
        go_wp2_with fail
        go_ret
        exact ⟨rfl, rfl⟩
    | false =>
      rw [if_neg (by decide)]
      change (FloatKind.f32.format.order v lo == some .lt) = false at h1
      change (FloatKind.f32.format.order v hi == some .gt) = false at h2
      go_enter Try.func171, Try.ntmps171
      go_wp2
      go_ret
      exact ⟨rfl, rfl⟩
end Go.Proofs.Ytnfebeebjelgbaa
