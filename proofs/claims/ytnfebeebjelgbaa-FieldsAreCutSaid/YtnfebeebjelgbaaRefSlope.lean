import Derived.Test.YtnfebeebjelgbaaSlopeFn
namespace Go.Proofs.Ytnfebeebjelgbaa
open Go.ChangeShapes Go.WideShapes Go.ChangeAt Go.RowKit
open Ieee.Format (fin finE htE allFin allHt all_true all_false mulF subF addF Ht Bd divF rootF floorF easeF mixF)
set_option linter.unusedVariables false
open Ieee.Format (negF gradF hypF slopeF lenF curve1 curveF nxF nyF nzF grad_bd hyp_bd slope_bd normal_bd curve_bd const_2nd const_quarter const_1 shade1 shade2 shade_bd)

theorem inclines_at (X Y : Int) (Wn Hn : Nat) (x y : Int) (b o c k : Nat) (l : List Nat) (w : World) (hl : SRow w (some ⟨b, o, none⟩) l) (hr : Right X Y Wn Hn l) (h : InnerAt X Y Wn Hn x y k) :
    Calls Try.prog 187 #[fldV X Y Wn Hn (some ⟨b, o, none⟩) l.length c, .int .i64 x, .int .i64 y] w fun e w' => e = .returned (.tuple #[.float .f32 (gradF (l.getD (k + 1) 0) (l.getD (k - 1) 0)), .float .f32 (gradF (l.getD (k + Wn) 0) (l.getD (k - Wn) 0))]) ∧ Below w.heap.size w w' := by
  have KA := Lib.hid (fun w' hl => refaround_at X Y Wn Hn x y b o c k l w' hl hr h)
  have HL := Lib.hid hl
  have hn := hr.bd (k - Wn)
  have hs := hr.bd (k + Wn)
  have he := hr.bd (k + 1)
  have hw := hr.bd (k - 1)
  have HB0 : Hid (Below w.heap.size w (w.alloc (.cells #[.int .i64 X, .int .i64 Y, .int .i64 Wn, .int .i64 Hn, .slice (some ⟨b, o, none⟩) l.length c] 36))) := Lib.hid ((by repeat (first | with_reducible exact Below.refl _ _ | with_reducible apply Below.drew | with_reducible refine below_drewN ?_ _ | (with_reducible refine Below.setCell ?_ ?_ _; rotate_left; focus (first | omega | (simp <;> omega))) | (with_reducible refine Below.alloc ?_ ?_ _; rotate_left; focus (first | omega | (simp <;> omega))))))
  clear hl hr h
  generalize l.getD k 0 = v at *
  generalize l.getD (k - Wn) 0 = n at *
  generalize l.getD (k + Wn) 0 = s at *
  generalize l.getD (k + 1) 0 = e at *
  generalize l.getD (k - 1) 0 = wv at *
  obtain ⟨a1, a2⟩ := grad_bd he hw (by omega)
  obtain ⟨b1, b2⟩ := grad_bd hs hn (by omega)
  have k1 := Lib.hid (fun w' => ref_sub_ok e wv w' he.1 hw.1 a1.1)
  have k2 := Lib.hid (fun w' => ref_mul_ok (subF e wv) 1056964608 w' a1.1 const_2nd.1 a2.1)
  have k3 := Lib.hid (fun w' => ref_sub_ok s n w' hs.1 hn.1 b1.1)
  have k4 := Lib.hid (fun w' => ref_mul_ok (subF s n) 1056964608 w' b1.1 const_2nd.1 b2.1)
  change Hid (∀ w', Calls Try.prog 136 #[.float .f32 (subF e wv), .float .f32 1056964608] w' fun en w2 => en = .returned (.float .f32 (gradF e wv)) ∧ w' = w2) at k2
  change Hid (∀ w', Calls Try.prog 136 #[.float .f32 (subF s n), .float .f32 1056964608] w' fun en w2 => en = .returned (.float .f32 (gradF s n)) ∧ w' = w2) at k4
  clear a1 a2 b1 b2 hn hs he hw
  generalize gradF e wv = z2 at *
  generalize subF e wv = z1 at *
  generalize gradF s n = z4 at *
  generalize subF s n = z3 at *
  go_enter Try.func187, Try.ntmps187
  go_wp2_with fail
  refine (KA.out _ (HL.out.below HB0.out)).mono ?_
  rintro en w1 ⟨rfl, b1⟩
  have HB1 := Lib.hid (HB0.out.trans (b1.mono HB0.out.size))
  clear b1
  go_wp2_with fail
  refine (k1.out _).mono ?_
  rintro en wz ⟨rfl, rfl⟩
  go_wp2_with fail
  refine (k2.out _).mono ?_
  rintro en wz ⟨rfl, rfl⟩
  go_wp2_with fail
  refine (k3.out _).mono ?_
  rintro en wz ⟨rfl, rfl⟩
  go_wp2_with fail
  refine (k4.out _).mono ?_
  rintro en wz ⟨rfl, rfl⟩
  go_wp2_with fail
  go_ret2
  exact ⟨rfl, HB1.out⟩

/-- the reference's cells: the slope -/
theorem refslope_fn (X Y : Int) (Wn Hn : Nat) (x y : Int) (b o c k q : Nat) (l : List Nat) (w : World) (hl : SRow w (some ⟨b, o, none⟩) l) (hr : Right X Y Wn Hn l) (h : InnerAt X Y Wn Hn x y k) (hq : Fld w q X Y Wn Hn (.slice (some ⟨b, o, none⟩) l.length c)) :
    Calls Try.prog 186 #[.int .i64 x, .int .i64 y, .pointer (some ⟨q, 0, none⟩)] w fun e w' => e = .returned (.float .f32 (nbr slopeF l Wn k)) ∧ Below w.heap.size w w' := by
  have KA := Lib.hid (fun w' hl => inclines_at X Y Wn Hn x y b o c k l w' hl hr h)
  have HL := Lib.hid hl
  obtain ⟨c0, c1, c2, c3, c4⟩ := hq.cells
  have hx : Bd 20 (gradF (l.getD (k + 1) 0) (l.getD (k - 1) 0)) := (grad_bd (hr.bd _) (hr.bd _) (by omega)).2
  have hy : Bd 20 (gradF (l.getD (k + Wn) 0) (l.getD (k - Wn) 0)) := (grad_bd (hr.bd _) (hr.bd _) (by omega)).2
  have HE : Hid (nbr slopeF l Wn k = rootF (hypF (gradF (l.getD (k + 1) 0) (l.getD (k - 1) 0)) (gradF (l.getD (k + Wn) 0) (l.getD (k - Wn) 0)))) := rfl
  clear hl hr h hq
  generalize nbr slopeF l Wn k = z at *
  generalize gradF (l.getD (k + 1) 0) (l.getD (k - 1) 0) = gx at *
  generalize gradF (l.getD (k + Wn) 0) (l.getD (k - Wn) 0) = gy at *
  obtain ⟨b1, b2, b3, b4⟩ := hyp_bd hx hy (by omega)
  have k1 := Lib.hid (fun w' => ref_mul_ok gx gx w' hx.1 hx.1 b1.1)
  have k2 := Lib.hid (fun w' => ref_mul_ok gy gy w' hy.1 hy.1 b2.1)
  have k3 := Lib.hid (fun w' => ref_add_ok (mulF gx gx) (mulF gy gy) w' b1.1 b2.1 b3.1)
  have k4 := Lib.hid (fun w' => refroot_any (hypF gx gy) b3.1 b4 w')
  change Hid (∀ w', Calls Try.prog 131 #[.float .f32 (mulF gx gx), .float .f32 (mulF gy gy)] w' fun en w2 => en = .returned (.float .f32 (hypF gx gy)) ∧ w' = w2) at k3
  clear b1 b2 b3 b4 hx hy
  generalize hypF gx gy = z3 at *
  generalize mulF gx gx = z1 at *
  generalize mulF gy gy = z2 at *
  generalize rootF z3 = z4 at *
  go_enter Try.func186, Try.ntmps186
  go_wp2_with fail
  refine (KA.out _ HL.out).mono ?_
  rintro en w1 ⟨rfl, b1⟩
  have HB1 := Lib.hid b1
  clear b1
  go_wp2_with fail
  refine (k1.out _).mono ?_
  rintro en wz ⟨rfl, rfl⟩
  go_wp2_with fail
  refine (k2.out _).mono ?_
  rintro en wz ⟨rfl, rfl⟩
  go_wp2_with fail
  refine (k3.out _).mono ?_
  rintro en wz ⟨rfl, rfl⟩
  go_wp2_with fail
  refine (k4.out _).mono ?_
  rintro en wz ⟨rfl, rfl⟩
  go_wp2_with fail
  go_ret
  exact ⟨ret_f HE.out.symm, HB1.out⟩

/-- the reference's cells: the curve -/
theorem refcurve_fn (X Y : Int) (Wn Hn : Nat) (x y : Int) (b o c k q : Nat) (l : List Nat) (w : World) (hl : SRow w (some ⟨b, o, none⟩) l) (hr : Right X Y Wn Hn l) (h : InnerAt X Y Wn Hn x y k) (hq : Fld w q X Y Wn Hn (.slice (some ⟨b, o, none⟩) l.length c)) :
    Calls Try.prog 189 #[.int .i64 x, .int .i64 y, .pointer (some ⟨q, 0, none⟩)] w fun e w' => e = .returned (.float .f32 (nbr curveF l Wn k)) ∧ Below w.heap.size w w' := by
  have KA := Lib.hid (fun w' hl => refaround_at X Y Wn Hn x y b o c k l w' hl hr h)
  have HL := Lib.hid hl
  obtain ⟨c0, c1, c2, c3, c4⟩ := hq.cells
  have hn := hr.bd (k - Wn)
  have hs := hr.bd (k + Wn)
  have he := hr.bd (k + 1)
  have hw := hr.bd (k - 1)
  have hv := hr.bd k
  have HE : Hid (nbr curveF l Wn k = curveF (l.getD (k - Wn) 0) (l.getD (k + Wn) 0) (l.getD (k + 1) 0) (l.getD (k - 1) 0) (l.getD k 0)) := rfl
  clear hl hr h hq
  generalize nbr curveF l Wn k = z at *
  generalize l.getD k 0 = v at *
  generalize l.getD (k - Wn) 0 = n at *
  generalize l.getD (k + Wn) 0 = s at *
  generalize l.getD (k + 1) 0 = e at *
  generalize l.getD (k - 1) 0 = wv at *
  obtain ⟨b1, b2, b3, b4, b5⟩ := curve_bd hn hs he hw hv (by omega)
  have k1 := Lib.hid (fun w' => ref_add_ok n s w' hn.1 hs.1 b1.1)
  have k2 := Lib.hid (fun w' => ref_add_ok (addF n s) e w' b1.1 he.1 b2.1)
  have k3 := Lib.hid (fun w' => ref_add_ok (addF (addF n s) e) wv w' b2.1 hw.1 b3.1)
  have k4 := Lib.hid (fun w' => ref_mul_ok (curve1 n s e wv) 1048576000 w' b3.1 const_quarter.1 b4.1)
  have k5 := Lib.hid (fun w' => ref_sub_ok (mulF (curve1 n s e wv) 1048576000) v w' b4.1 hv.1 b5.1)
  change Hid (∀ w', Calls Try.prog 131 #[.float .f32 (addF (addF n s) e), .float .f32 wv] w' fun en w2 => en = .returned (.float .f32 (curve1 n s e wv)) ∧ w' = w2) at k3
  change Hid (∀ w', Calls Try.prog 130 #[.float .f32 (mulF (curve1 n s e wv) 1048576000), .float .f32 v] w' fun en w2 => en = .returned (.float .f32 (curveF n s e wv v)) ∧ w' = w2) at k5
  clear b1 b2 b3 b4 b5 hn hs he hw hv
  generalize curveF n s e wv v = z5 at *
  generalize mulF (curve1 n s e wv) 1048576000 = z4 at *
  generalize curve1 n s e wv = z3 at *
  generalize addF (addF n s) e = z2 at *
  generalize addF n s = z1 at *
  go_enter Try.func189, Try.ntmps189
  go_wp2_with fail
  refine (KA.out _ HL.out).mono ?_
  rintro en w1 ⟨rfl, b1⟩
  have HB1 := Lib.hid b1
  clear b1
  go_wp2_with fail
  refine (k1.out _).mono ?_
  rintro en wz ⟨rfl, rfl⟩
  go_wp2_with fail
  refine (k2.out _).mono ?_
  rintro en wz ⟨rfl, rfl⟩
  go_wp2_with fail
  refine (k3.out _).mono ?_
  rintro en wz ⟨rfl, rfl⟩
  go_wp2_with fail
  refine (k4.out _).mono ?_
  rintro en wz ⟨rfl, rfl⟩
  go_wp2_with fail
  refine (k5.out _).mono ?_
  rintro en wz ⟨rfl, rfl⟩
  go_wp2_with fail
  go_ret
  exact ⟨ret_f HE.out.symm, HB1.out⟩

/-- the reference's normal -/
theorem refnormal_at (X Y : Int) (Wn Hn : Nat) (x y : Int) (b o c k : Nat) (l : List Nat) (w : World) (hl : SRow w (some ⟨b, o, none⟩) l) (hr : Right X Y Wn Hn l) (h : InnerAt X Y Wn Hn x y k) :
    Calls Try.prog 165 #[fldV X Y Wn Hn (some ⟨b, o, none⟩) l.length c, .int .i64 x, .int .i64 y] w fun en w' => en = .returned (.tuple #[.float .f32 (nxF (l.getD (k - Wn) 0) (l.getD (k + Wn) 0) (l.getD (k + 1) 0) (l.getD (k - 1) 0)), .float .f32 (nyF (l.getD (k - Wn) 0) (l.getD (k + Wn) 0) (l.getD (k + 1) 0) (l.getD (k - 1) 0)), .float .f32 (nzF (l.getD (k - Wn) 0) (l.getD (k + Wn) 0) (l.getD (k + 1) 0) (l.getD (k - 1) 0))]) ∧ Below w.heap.size w w' := by
  have KA := Lib.hid (fun w' hl => inclines_at X Y Wn Hn x y b o c k l w' hl hr h)
  have HL := Lib.hid hl
  have hn := hr.bd (k - Wn)
  have hs := hr.bd (k + Wn)
  have he := hr.bd (k + 1)
  have hw := hr.bd (k - 1)
  have HB0 : Hid (Below w.heap.size w (w.alloc (.cells #[.int .i64 X, .int .i64 Y, .int .i64 Wn, .int .i64 Hn, .slice (some ⟨b, o, none⟩) l.length c] 36))) := Lib.hid ((by repeat (first | with_reducible exact Below.refl _ _ | with_reducible apply Below.drew | with_reducible refine below_drewN ?_ _ | (with_reducible refine Below.setCell ?_ ?_ _; rotate_left; focus (first | omega | (simp <;> omega))) | (with_reducible refine Below.alloc ?_ ?_ _; rotate_left; focus (first | omega | (simp <;> omega))))))
  clear hl hr h
  generalize l.getD k 0 = v at *
  generalize l.getD (k - Wn) 0 = n at *
  generalize l.getD (k + Wn) 0 = s at *
  generalize l.getD (k + 1) 0 = e at *
  generalize l.getD (k - 1) 0 = wv at *
  obtain ⟨a1, a2⟩ := grad_bd he hw (by omega)
  obtain ⟨b1, b2⟩ := grad_bd hs hn (by omega)
  obtain ⟨c1, c2, c3, c4⟩ := hyp_bd a2 b2 (by omega)
  obtain ⟨d1, d2, d3, d4, d5, d6, d7⟩ := slope_bd hn hs he hw
  obtain ⟨e1, e2, e3, e4, e5⟩ := normal_bd hn hs he hw
  have k1 := Lib.hid (fun w' => ref_mul_ok (gradF e wv) (gradF e wv) w' a2.1 a2.1 c1.1)
  have k2 := Lib.hid (fun w' => ref_mul_ok (gradF s n) (gradF s n) w' b2.1 b2.1 c2.1)
  have k3 := Lib.hid (fun w' => ref_add_ok (mulF (gradF e wv) (gradF e wv)) (mulF (gradF s n) (gradF s n)) w' c1.1 c2.1 c3.1)
  have k4 := Lib.hid (fun w' => ref_add_ok (hypF (gradF e wv) (gradF s n)) 1065353216 w' c3.1 const_1.1 d4.1)
  have k5 := Lib.hid (fun w' => refroot_any (addF (hypF (gradF e wv) (gradF s n)) 1065353216) d4.1 (by have := d5; grind) w')
  have n1 := fun w' => run_neg Try.prog (gradF e wv) w'
  have n2 := fun w' => run_neg Try.prog (gradF s n) w'
  have k6 := Lib.hid (fun w' => ref_div_ok (negF (gradF e wv)) (lenF n s e wv) w' e1.1 d6.1 (one_ne d7) e3.1)
  have k7 := Lib.hid (fun w' => ref_div_ok (negF (gradF s n)) (lenF n s e wv) w' e2.1 d6.1 (one_ne d7) e4.1)
  have k8 := Lib.hid (fun w' => ref_div_ok 1065353216 (lenF n s e wv) w' const_1.1 d6.1 (one_ne d7) e5.1)
  change Hid (∀ w', Calls Try.prog 131 #[.float .f32 (mulF (gradF e wv) (gradF e wv)), .float .f32 (mulF (gradF s n) (gradF s n))] w' fun en w2 => en = .returned (.float .f32 (hypF (gradF e wv) (gradF s n))) ∧ w' = w2) at k3
  change Hid (∀ w', Calls Try.prog 156 #[.float .f32 (addF (hypF (gradF e wv) (gradF s n)) 1065353216)] w' fun en w2 => en = .returned (.float .f32 (lenF n s e wv)) ∧ w' = w2) at k5
  change Hid (∀ w', Calls Try.prog 139 #[.float .f32 (negF (gradF e wv)), .float .f32 (lenF n s e wv)] w' fun en w2 => en = .returned (.float .f32 (nxF n s e wv)) ∧ w' = w2) at k6
  change Hid (∀ w', Calls Try.prog 139 #[.float .f32 (negF (gradF s n)), .float .f32 (lenF n s e wv)] w' fun en w2 => en = .returned (.float .f32 (nyF n s e wv)) ∧ w' = w2) at k7
  change Hid (∀ w', Calls Try.prog 139 #[.float .f32 1065353216, .float .f32 (lenF n s e wv)] w' fun en w2 => en = .returned (.float .f32 (nzF n s e wv)) ∧ w' = w2) at k8
  clear a1 a2 b1 b2 c1 c2 c3 c4 d1 d2 d3 d4 d5 d6 d7 e1 e2 e3 e4 e5 hn hs he hw
  generalize nxF n s e wv = y1 at *
  generalize nyF n s e wv = y2 at *
  generalize nzF n s e wv = y3 at *
  generalize lenF n s e wv = m at *
  generalize gradF e wv = g1 at *
  generalize gradF s n = g2 at *
  generalize addF (hypF g1 g2) 1065353216 = z4 at *
  generalize hypF g1 g2 = z3 at *
  generalize mulF g1 g1 = z1 at *
  generalize mulF g2 g2 = z2 at *
  generalize negF g1 = h1 at *
  generalize negF g2 = h2 at *
  go_enter Try.func165, Try.ntmps165
  go_wp2_with fail
  refine (KA.out _ (HL.out.below HB0.out)).mono ?_
  rintro en w1 ⟨rfl, b1⟩
  have HB1 := Lib.hid (HB0.out.trans (b1.mono HB0.out.size))
  clear b1
  go_wp2_with fail
  refine (k1.out _).mono ?_
  rintro en wz ⟨rfl, rfl⟩
  go_wp2_with fail
  refine (k2.out _).mono ?_
  rintro en wz ⟨rfl, rfl⟩
  go_wp2_with fail
  refine (k3.out _).mono ?_
  rintro en wz ⟨rfl, rfl⟩
  go_wp2_with fail
  refine (k4.out _).mono ?_
  rintro en wz ⟨rfl, rfl⟩
  go_wp2_with fail
  refine (k5.out _).mono ?_
  rintro en wz ⟨rfl, rfl⟩
  go_wp2_with fail
  refine (k6.out _).mono ?_
  rintro en wz ⟨rfl, rfl⟩
  go_wp2_with fail
  refine (k7.out _).mono ?_
  rintro en wz ⟨rfl, rfl⟩
  go_wp2_with fail
  refine (k8.out _).mono ?_
  rintro en wz ⟨rfl, rfl⟩
  go_wp2_with fail
  go_ret3
  exact ⟨rfl, HB1.out⟩
end Go.Proofs.Ytnfebeebjelgbaa
