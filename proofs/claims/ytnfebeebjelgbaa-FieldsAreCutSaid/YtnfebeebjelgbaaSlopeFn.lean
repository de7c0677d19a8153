import Derived.Test.YtnfebeebjelgbaaInner
namespace Go.Proofs.Ytnfebeebjelgbaa
open Go.ChangeShapes Go.WideShapes Go.ChangeAt Go.RowKit
open Ieee.Format (fin finE htE allFin allHt all_true all_false mulF subF addF Ht Bd divF rootF floorF easeF mixF)
set_option linter.unusedVariables false
open Ieee.Format (negF gradF hypF slopeF lenF curve1 curveF nxF nyF nzF grad_bd hyp_bd slope_bd normal_bd curve_bd const_2nd const_quarter const_1)

abbrev nbV (n s e w v : Nat) : Value := .agg #[.float .f32 n, .float .f32 s, .float .f32 e, .float .f32 w, .float .f32 v]

theorem gradient_any (n s e w v : Nat) (W : World) (hn : Bd 20 n) (hs : Bd 20 s) (he : Bd 20 e) (hw : Bd 20 w) :
    Calls Try.prog 185 #[nbV n s e w v] W fun en w' => en = .returned (.tuple #[.float .f32 (gradF e w), .float .f32 (gradF s n)]) ∧ Below W.heap.size W w' := by
  obtain ⟨a1, a2⟩ := grad_bd he hw (by omega)
  obtain ⟨b1, b2⟩ := grad_bd hs hn (by omega)
  have k1 := fun w' => run_float_arith (P := Try.prog) w' .sub 37 .f32 e w (subF e w) (Ieee.Format.bits_sub he.1 hw.1)
  have k2 := fun w' => run_float_arith (P := Try.prog) w' .mul 37 .f32 (subF e w) 1056964608 (gradF e w) (Ieee.Format.bits_mul a1.1 const_2nd.1)
  have k3 := fun w' => run_float_arith (P := Try.prog) w' .sub 37 .f32 s n (subF s n) (Ieee.Format.bits_sub hs.1 hn.1)
  have k4 := fun w' => run_float_arith (P := Try.prog) w' .mul 37 .f32 (subF s n) 1056964608 (gradF s n) (Ieee.Format.bits_mul b1.1 const_2nd.1)
  clear a1 a2 b1 b2 hn hs he hw
  generalize gradF e w = z2 at *
  generalize subF e w = z1 at *
  generalize gradF s n = z4 at *
  generalize subF s n = z3 at *
  go_enter Try.func185, Try.ntmps185
  go_wp2_with fail
  go_quiet (fail)
  go_wp2
  go_ret2
  exact ⟨rfl, (by repeat (first | with_reducible exact Below.refl _ _ | with_reducible apply Below.drew | with_reducible refine below_drewN ?_ _ | (with_reducible refine Below.setCell ?_ ?_ _; rotate_left; focus (first | omega | (simp <;> omega))) | (with_reducible refine Below.alloc ?_ ?_ _; rotate_left; focus (first | omega | (simp <;> omega)))))⟩

theorem length_any (x y : Nat) (W : World) (hx : Bd 20 x) (hy : Bd 20 y) : Calls Try.prog 184 #[.float .f32 x, .float .f32 y] W fun e w' => e = .returned (.float .f32 (rootF (hypF x y))) ∧ W = w' := by
  obtain ⟨a, b, c, d⟩ := hyp_bd hx hy (by omega)
  have k1 := fun w' => run_float_arith (P := Try.prog) w' .mul 37 .f32 x x (mulF x x) (Ieee.Format.bits_mul hx.1 hx.1)
  have k2 := fun w' => run_float_arith (P := Try.prog) w' .mul 37 .f32 y y (mulF y y) (Ieee.Format.bits_mul hy.1 hy.1)
  have k3 := fun w' => run_float_arith (P := Try.prog) w' .add 37 .f32 (mulF x x) (mulF y y) (hypF x y) (Ieee.Format.bits_add a.1 b.1)
  have KR := Lib.hid (fun w' => root_any (hypF x y) c.1 d w')
  clear a b c d hx hy
  generalize hypF x y = z3 at *
  generalize mulF x x = z1 at *
  generalize mulF y y = z2 at *
  generalize rootF z3 = z at *
  go_enter Try.func184, Try.ntmps184
  go_wp2_with fail
  refine (KR.out _).mono ?_
  rintro e w' ⟨rfl, rfl⟩
  go_wp2_with fail
  go_ret
  exact ⟨rfl, rfl⟩

theorem normal_any (n s e w v : Nat) (W : World) (hn : Bd 20 n) (hs : Bd 20 s) (he : Bd 20 e) (hw : Bd 20 w) :
    Calls Try.prog 161 #[nbV n s e w v] W fun en w' => en = .returned (.tuple #[.float .f32 (nxF n s e w), .float .f32 (nyF n s e w), .float .f32 (nzF n s e w)]) ∧ Below W.heap.size W w' := by
  have KG := Lib.hid (fun W => gradient_any n s e w v W hn hs he hw)
  obtain ⟨a1, a2⟩ := grad_bd he hw (by omega)
  obtain ⟨b1, b2⟩ := grad_bd hs hn (by omega)
  obtain ⟨c1, c2, c3, c4⟩ := hyp_bd a2 b2 (by omega)
  obtain ⟨d1, d2, d3, d4, d5, d6, d7⟩ := slope_bd hn hs he hw
  obtain ⟨e1, e2, e3, e4, e5⟩ := normal_bd hn hs he hw
  have k1 := fun w' => run_float_arith (P := Try.prog) w' .mul 37 .f32 (gradF e w) (gradF e w) (mulF (gradF e w) (gradF e w)) (Ieee.Format.bits_mul a2.1 a2.1)
  have k2 := fun w' => run_float_arith (P := Try.prog) w' .mul 37 .f32 (gradF s n) (gradF s n) (mulF (gradF s n) (gradF s n)) (Ieee.Format.bits_mul b2.1 b2.1)
  have k3 := fun w' => run_float_arith (P := Try.prog) w' .add 37 .f32 (mulF (gradF e w) (gradF e w)) (mulF (gradF s n) (gradF s n)) (hypF (gradF e w) (gradF s n)) (Ieee.Format.bits_add c1.1 c2.1)
  have k4 := fun w' => run_float_arith (P := Try.prog) w' .add 37 .f32 (hypF (gradF e w) (gradF s n)) 1065353216 (addF (hypF (gradF e w) (gradF s n)) 1065353216) (Ieee.Format.bits_add c3.1 const_1.1)
  have KR := Lib.hid (fun w' => root_any (addF (hypF (gradF e w) (gradF s n)) 1065353216) d4.1 (by have := d5; grind) w')
  change Hid (∀ w', Calls Try.prog 158 #[.float .f32 (addF (hypF (gradF e w) (gradF s n)) 1065353216)] w' fun en w2 => en = .returned (.float .f32 (lenF n s e w)) ∧ w' = w2) at KR
  have n1 := fun w' => run_neg Try.prog (gradF e w) w'
  have n2 := fun w' => run_neg Try.prog (gradF s n) w'
  have k5 := fun w' => run_float_arith (P := Try.prog) w' .quo 37 .f32 (negF (gradF e w)) (lenF n s e w) (nxF n s e w) (Ieee.Format.bits_div e1.1 d6.1 (one_ne d7))
  have k6 := fun w' => run_float_arith (P := Try.prog) w' .quo 37 .f32 (negF (gradF s n)) (lenF n s e w) (nyF n s e w) (Ieee.Format.bits_div e2.1 d6.1 (one_ne d7))
  have k7 := fun w' => run_float_arith (P := Try.prog) w' .quo 37 .f32 1065353216 (lenF n s e w) (nzF n s e w) (Ieee.Format.bits_div const_1.1 d6.1 (one_ne d7))
  clear a1 a2 b1 b2 c1 c2 c3 c4 d1 d2 d3 d4 d5 d6 d7 e1 e2 e3 e4 e5 hn hs he hw
  generalize nxF n s e w = y1 at *
  generalize nyF n s e w = y2 at *
  generalize nzF n s e w = y3 at *
  generalize lenF n s e w = m at *
  generalize gradF e w = g1 at *
  generalize gradF s n = g2 at *
  generalize addF (hypF g1 g2) 1065353216 = z4 at *
  generalize hypF g1 g2 = z3 at *
  generalize mulF g1 g1 = z1 at *
  generalize mulF g2 g2 = z2 at *
  generalize negF g1 = n1 at *
  generalize negF g2 = n2 at *
  have B0 : Below W.heap.size W (W.alloc (.cells #[.float .f32 n, .float .f32 s, .float .f32 e, .float .f32 w, .float .f32 v] 133)) := (by repeat (first | with_reducible exact Below.refl _ _ | with_reducible apply Below.drew | with_reducible refine below_drewN ?_ _ | (with_reducible refine Below.setCell ?_ ?_ _; rotate_left; focus (first | omega | (simp <;> omega))) | (with_reducible refine Below.alloc ?_ ?_ _; rotate_left; focus (first | omega | (simp <;> omega)))))
  have HB0 := Lib.hid B0
  clear B0
  go_enter Try.func161, Try.ntmps161
  go_wp2_with fail
  refine (KG.out _).mono ?_
  rintro en w1 ⟨rfl, b1⟩
  have HB1 := Lib.hid (HB0.out.trans (b1.mono HB0.out.size))
  clear b1
  go_wp2_with fail
  refine (KR.out _).mono ?_
  rintro en w2 ⟨rfl, rfl⟩
  go_wp2_with fail
  go_ret3
  exact ⟨rfl, HB1.out⟩

/-- the number of a cell that is not at the edge -/
structure InnerAt (X Y : Int) (Wn Hn : Nat) (x y : Int) (k : Nat) : Prop where
  x1 : X + 1 ≤ x
  x2 : x < X + Wn - 1
  y1 : Y + 1 ≤ y
  y2 : y < Y + Hn - 1
  k : cellNo X Y Wn x y = (k : Int)
theorem InnerAt.of {X Y : Int} {Wn Hn : Nat} {x y : Int} (h1 : X + 1 ≤ x) (h2 : x < X + Wn - 1) (h3 : Y + 1 ≤ y) (h4 : y < Y + Hn - 1) : InnerAt X Y Wn Hn x y (cellNo X Y Wn x y).toNat := by
  refine ⟨h1, h2, h3, h4, ?_⟩
  have e1 := Int.mul_le_mul_of_nonneg_right (show 1 ≤ y - Y by omega) (show (0 : Int) ≤ Wn by omega)
  unfold cellNo
  omega
theorem InnerAt.lo {X Y : Int} {Wn Hn : Nat} {x y : Int} {k : Nat} (h : InnerAt X Y Wn Hn x y k) : Wn ≤ k := by
  have h1 := h.y1
  have h2 := h.x1
  have e1 := Int.mul_le_mul_of_nonneg_right (show 1 ≤ y - Y by omega) (show (0 : Int) ≤ Wn by omega)
  have := h.k
  unfold cellNo at this
  omega
theorem InnerAt.hi {X Y : Int} {Wn Hn : Nat} {x y : Int} {k : Nat} (h : InnerAt X Y Wn Hn x y k) (hw : 1 ≤ Wn) : k + Wn < Hn * Wn := by
  have h1 := h.y2
  have h2 := h.x2
  have h3 := h.y1
  have e1 := Int.mul_le_mul_of_nonneg_right (show y - Y + 2 ≤ Hn by omega) (show (0 : Int) ≤ Wn by omega)
  have := h.k
  unfold cellNo at this
  have e2 : ((Hn * Wn : Nat) : Int) = (Hn : Int) * Wn := Int.natCast_mul _ _
  rw [Int.add_mul] at e1
  omega
theorem Right.bd {X Y : Int} {Wn Hn : Nat} {l : List Nat} (h : Right X Y Wn Hn l) (i : Nat) : Bd 20 (l.getD i 0) := Ieee.Format.Ht.bd (h.getD i)

theorem around_at (X Y : Int) (Wn Hn : Nat) (x y : Int) (b o c k : Nat) (l : List Nat) (w : World) (hl : SRow w (some ⟨b, o, none⟩) l) (hr : Right X Y Wn Hn l) (h : InnerAt X Y Wn Hn x y k) :
    Calls Try.prog 160 #[fldV X Y Wn Hn (some ⟨b, o, none⟩) l.length c, .int .i64 x, .int .i64 y] w fun e w' => e = .returned (nbV (l.getD (k - Wn) 0) (l.getD (k + Wn) 0) (l.getD (k + 1) 0) (l.getD (k - 1) 0) (l.getD k 0)) ∧ Below w.heap.size w w' := by
  have g1 := hr.w2; have g2 := hr.h2; have g3 := hr.x1; have g4 := hr.x2; have g5 := hr.y1; have g6 := hr.y2; have g7 := hr.w1
  have h1 := h.x1; have h2 := h.x2; have h3 := h.y1; have h4 := h.y2
  exact around_any X Y Wn Hn x y b o c k l w hl (by omega) (by omega) (by omega) (by omega) (by omega) (by omega) (by omega) (by omega) (by omega) (by omega) h.k h.lo (by rw [hr.len]; exact h.hi g7)
theorem refaround_at (X Y : Int) (Wn Hn : Nat) (x y : Int) (b o c k : Nat) (l : List Nat) (w : World) (hl : SRow w (some ⟨b, o, none⟩) l) (hr : Right X Y Wn Hn l) (h : InnerAt X Y Wn Hn x y k) :
    Calls Try.prog 129 #[fldV X Y Wn Hn (some ⟨b, o, none⟩) l.length c, .int .i64 x, .int .i64 y] w fun e w' => e = .returned (.tuple #[.float .f32 (l.getD k 0), .float .f32 (l.getD (k - Wn) 0), .float .f32 (l.getD (k + Wn) 0), .float .f32 (l.getD (k + 1) 0), .float .f32 (l.getD (k - 1) 0)]) ∧ Below w.heap.size w w' := by
  have g1 := hr.w2; have g2 := hr.h2; have g3 := hr.x1; have g4 := hr.x2; have g5 := hr.y1; have g6 := hr.y2; have g7 := hr.w1; have g8 := hr.h1
  exact refaround_any X Y Wn Hn x y b o c k l w hl hr.len (by omega) (by omega) (by omega) (by omega) (by omega) (by omega) (by omega) (by omega) h.x1 h.x2 h.y1 h.y2 h.k

/-- the program's cells: the slope -/
theorem slopefn_any (X Y : Int) (Wn Hn : Nat) (x y : Int) (b o c k q : Nat) (l : List Nat) (w : World) (hl : SRow w (some ⟨b, o, none⟩) l) (hr : Right X Y Wn Hn l) (h : InnerAt X Y Wn Hn x y k) (hq : Fld w q X Y Wn Hn (.slice (some ⟨b, o, none⟩) l.length c)) :
    Calls Try.prog 183 #[.int .i64 x, .int .i64 y, .pointer (some ⟨q, 0, none⟩)] w fun e w' => e = .returned (.float .f32 (nbr slopeF l Wn k)) ∧ Below w.heap.size w w' := by
  have KA := Lib.hid (fun w' hl => around_at X Y Wn Hn x y b o c k l w' hl hr h)
  have HL := Lib.hid hl
  obtain ⟨c0, c1, c2, c3, c4⟩ := hq.cells
  have KG := Lib.hid (fun W => gradient_any (l.getD (k - Wn) 0) (l.getD (k + Wn) 0) (l.getD (k + 1) 0) (l.getD (k - 1) 0) (l.getD k 0) W (hr.bd _) (hr.bd _) (hr.bd _) (hr.bd _))
  have KL := Lib.hid (fun W => length_any (gradF (l.getD (k + 1) 0) (l.getD (k - 1) 0)) (gradF (l.getD (k + Wn) 0) (l.getD (k - Wn) 0)) W (grad_bd (hr.bd _) (hr.bd _) (by omega)).2 (grad_bd (hr.bd _) (hr.bd _) (by omega)).2)
  change Hid (∀ W, Calls Try.prog 184 #[.float .f32 (gradF (l.getD (k + 1) 0) (l.getD (k - 1) 0)), .float .f32 (gradF (l.getD (k + Wn) 0) (l.getD (k - Wn) 0))] W fun e w' => e = .returned (.float .f32 (nbr slopeF l Wn k)) ∧ W = w') at KL
  clear hl hr h hq
  generalize nbr slopeF l Wn k = z at *
  generalize l.getD k 0 = v at *
  generalize l.getD (k - Wn) 0 = n at *
  generalize l.getD (k + Wn) 0 = s at *
  generalize l.getD (k + 1) 0 = e at *
  generalize l.getD (k - 1) 0 = wv at *
  generalize gradF e wv = g1 at *
  generalize gradF s n = g2 at *
  go_enter Try.func183, Try.ntmps183
  go_wp2_with fail
  refine (KA.out _ (HL.out)).mono ?_
  rintro en w1 ⟨rfl, b1⟩
  have HB1 := Lib.hid b1
  clear b1
  go_wp2_with fail
  refine (KG.out _).mono ?_
  rintro en w2 ⟨rfl, b2⟩
  have HB2 := Lib.hid (HB1.out.trans (b2.mono HB1.out.size))
  clear b2
  go_wp2_with fail
  refine (KL.out _).mono ?_
  rintro en w3 ⟨rfl, rfl⟩
  go_wp2_with fail
  go_ret
  exact ⟨rfl, HB2.out⟩

theorem nb_box (w : World) (n s e wv v : Nat) (B : Nat) (w0 : World) (hb : Below B w0 w) (hB : B ≤ w.heap.size) : ∀ W0, W0 = w.alloc (.cells #[.float .f32 n, .float .f32 s, .float .f32 e, .float .f32 wv, .float .f32 v] 133) → Nb5 W0 w.heap.size n s e wv v ∧ Below B w0 W0 := by
  rintro _ rfl
  exact ⟨heap_alloc_new w _, hb.alloc hB _⟩
/-- the program's cells: the curve -/
theorem curvefn_any (X Y : Int) (Wn Hn : Nat) (x y : Int) (b o c k q : Nat) (l : List Nat) (w : World) (hl : SRow w (some ⟨b, o, none⟩) l) (hr : Right X Y Wn Hn l) (h : InnerAt X Y Wn Hn x y k) (hq : Fld w q X Y Wn Hn (.slice (some ⟨b, o, none⟩) l.length c)) :
    Calls Try.prog 188 #[.int .i64 x, .int .i64 y, .pointer (some ⟨q, 0, none⟩)] w fun e w' => e = .returned (.float .f32 (nbr curveF l Wn k)) ∧ Below w.heap.size w w' := by
  have KA := Lib.hid (fun w' hl => around_at X Y Wn Hn x y b o c k l w' hl hr h)
  have HL := Lib.hid hl
  obtain ⟨c0, c1, c2, c3, c4⟩ := hq.cells
  have hn := hr.bd (k - Wn)
  have hs := hr.bd (k + Wn)
  have he := hr.bd (k + 1)
  have hw := hr.bd (k - 1)
  have hv := hr.bd k
  have HE : Hid (nbr curveF l Wn k = curveF (l.getD (k - Wn) 0) (l.getD (k + Wn) 0) (l.getD (k + 1) 0) (l.getD (k - 1) 0) (l.getD k 0)) := rfl
  clear hl hr h hq
  generalize nbr curveF l Wn k = z at *
  generalize l.getD k 0 = v at *
  generalize l.getD (k - Wn) 0 = n at *
  generalize l.getD (k + Wn) 0 = s at *
  generalize l.getD (k + 1) 0 = e at *
  generalize l.getD (k - 1) 0 = wv at *
  obtain ⟨b1, b2, b3, b4, b5⟩ := curve_bd hn hs he hw hv (by omega)
  have k1 := fun w' => run_float_arith (P := Try.prog) w' .add 37 .f32 n s (addF n s) (Ieee.Format.bits_add hn.1 hs.1)
  have k2 := fun w' => run_float_arith (P := Try.prog) w' .add 37 .f32 (addF n s) e (addF (addF n s) e) (Ieee.Format.bits_add b1.1 he.1)
  have k3 := fun w' => run_float_arith (P := Try.prog) w' .add 37 .f32 (addF (addF n s) e) wv (curve1 n s e wv) (Ieee.Format.bits_add b2.1 hw.1)
  have k4 := fun w' => run_float_arith (P := Try.prog) w' .mul 37 .f32 (curve1 n s e wv) 1048576000 (mulF (curve1 n s e wv) 1048576000) (Ieee.Format.bits_mul b3.1 const_quarter.1)
  have k5 := fun w' => run_float_arith (P := Try.prog) w' .sub 37 .f32 (mulF (curve1 n s e wv) 1048576000) v (curveF n s e wv v) (Ieee.Format.bits_sub b4.1 hv.1)
  clear b1 b2 b3 b4 b5 hn hs he hw hv
  generalize curveF n s e wv v = z5 at *
  generalize mulF (curve1 n s e wv) 1048576000 = z4 at *
  generalize curve1 n s e wv = z3 at *
  generalize addF (addF n s) e = z2 at *
  generalize addF n s = z1 at *
  go_enter Try.func188, Try.ntmps188
  go_wp2_with fail
  refine (KA.out _ (HL.out)).mono ?_
  rintro en w1 ⟨rfl, b1⟩
  have HB1 := Lib.hid b1
  clear b1
  go_wp2_with fail
  go_ret
  exact ⟨ret_f HE.out.symm, (by have h := HB1.out; exact (by have hszz := h.size; repeat (first | with_reducible exact h | with_reducible apply Below.drew | with_reducible refine below_drewN ?_ _ | (with_reducible refine Below.setCell ?_ ?_ _; rotate_left; focus (first | omega | (simp <;> omega))) | (with_reducible refine Below.alloc ?_ ?_ _; rotate_left; focus (first | omega | (simp <;> omega))))))⟩

def shadeF (a b c m n s e w v : Nat) : Nat := if gtr (Ieee.Format.shade2 a b c m n s e w) 0 = true then Ieee.Format.shade2 a b c m n s e w else 0
/-- what of a light's direction is right -/
structure LightOk (A B C M : Nat) : Prop where
  a : Bd 10 A
  b : Bd 10 B
  c : Bd 10 C
  m : fin Ieee.single M
  m1 : 1 ≤ Ieee.single.V M

set_option maxRecDepth 100000 in
/-- the program's cells: the light -/
theorem shadefn_any (A B C M : Nat) (X Y : Int) (Wn Hn : Nat) (x y : Int) (b o c k q pa pb pc pm : Nat) (l : List Nat) (w : World) (hl : SRow w (some ⟨b, o, none⟩) l) (hr : Right X Y Wn Hn l) (h : InnerAt X Y Wn Hn x y k) (hL : LightOk A B C M) (hq : Fld w q X Y Wn Hn (.slice (some ⟨b, o, none⟩) l.length c))
    (ha : Blk w pa #[.float .f32 A] 37) (hb : Blk w pb #[.float .f32 B] 37) (hc : Blk w pc #[.float .f32 C] 37) (hm : Blk w pm #[.float .f32 M] 37) :
    Calls Try.prog 159 #[.int .i64 x, .int .i64 y, .pointer (some ⟨q, 0, none⟩), .pointer (some ⟨pa, 0, none⟩), .pointer (some ⟨pb, 0, none⟩), .pointer (some ⟨pc, 0, none⟩), .pointer (some ⟨pm, 0, none⟩)] w fun e w' => e = .returned (.float .f32 (nbr (shadeF A B C M) l Wn k)) ∧ Below w.heap.size w w' := by
  have KA := Lib.hid (fun w' hl => around_at X Y Wn Hn x y b o c k l w' hl hr h)
  have HL := Lib.hid hl
  obtain ⟨c0, c1, c2, c3, c4⟩ := hq.cells
  have hn := hr.bd (k - Wn)
  have hs := hr.bd (k + Wn)
  have he := hr.bd (k + 1)
  have hw := hr.bd (k - 1)
  have HE : Hid (nbr (shadeF A B C M) l Wn k = shadeF A B C M (l.getD (k - Wn) 0) (l.getD (k + Wn) 0) (l.getD (k + 1) 0) (l.getD (k - 1) 0) (l.getD k 0)) := rfl
  have HA := Lib.hid ha
  have HB := Lib.hid hb
  have HC := Lib.hid hc
  have HM := Lib.hid hm
  clear hl hr h hq ha hb hc hm
  generalize nbr (shadeF A B C M) l Wn k = z at *
  generalize l.getD k 0 = v at *
  generalize l.getD (k - Wn) 0 = n at *
  generalize l.getD (k + Wn) 0 = s at *
  generalize l.getD (k + 1) 0 = e at *
  generalize l.getD (k - 1) 0 = wv at *
  have KN := Lib.hid (fun W => normal_any n s e wv v W hn hs he hw)
  obtain ⟨_, _, n1, n2, n3⟩ := normal_bd hn hs he hw
  obtain ⟨b1, b2, b3, b4, b5, b6⟩ := Ieee.Format.shade_bd hL.a hL.b hL.c hL.m hL.m1 hn hs he hw
  have k1 := fun w' => run_float_arith (P := Try.prog) w' .mul 37 .f32 (nxF n s e wv) A (mulF (nxF n s e wv) A) (Ieee.Format.bits_mul n1.1 hL.a.1)
  have k2 := fun w' => run_float_arith (P := Try.prog) w' .mul 37 .f32 (nyF n s e wv) B (mulF (nyF n s e wv) B) (Ieee.Format.bits_mul n2.1 hL.b.1)
  have k3 := fun w' => run_float_arith (P := Try.prog) w' .add 37 .f32 (mulF (nxF n s e wv) A) (mulF (nyF n s e wv) B) (addF (mulF (nxF n s e wv) A) (mulF (nyF n s e wv) B)) (Ieee.Format.bits_add b1.1 b2.1)
  have k4 := fun w' => run_float_arith (P := Try.prog) w' .mul 37 .f32 (nzF n s e wv) C (mulF (nzF n s e wv) C) (Ieee.Format.bits_mul n3.1 hL.c.1)
  have k5 := fun w' => run_float_arith (P := Try.prog) w' .add 37 .f32 (addF (mulF (nxF n s e wv) A) (mulF (nyF n s e wv) B)) (mulF (nzF n s e wv) C) (Ieee.Format.shade1 A B C n s e wv) (Ieee.Format.bits_add b3.1 b4.1)
  have k6 := fun w' => run_float_arith (P := Try.prog) w' .quo 37 .f32 (Ieee.Format.shade1 A B C n s e wv) M (Ieee.Format.shade2 A B C M n s e wv) (Ieee.Format.bits_div b5.1 hL.m (one_ne hL.m1))
  have HE2 : Hid (z = if gtr (Ieee.Format.shade2 A B C M n s e wv) 0 = true then Ieee.Format.shade2 A B C M n s e wv else 0) := HE.out
  clear b1 b2 b3 b4 b5 b6 n1 n2 n3 hn hs he hw hL HE
  generalize Ieee.Format.shade2 A B C M n s e wv = z6 at *
  generalize Ieee.Format.shade1 A B C n s e wv = z5 at *
  generalize addF (mulF (nxF n s e wv) A) (mulF (nyF n s e wv) B) = z3 at *
  generalize mulF (nxF n s e wv) A = z1 at *
  generalize mulF (nyF n s e wv) B = z2 at *
  generalize mulF (nzF n s e wv) C = z4 at *
  generalize nxF n s e wv = y1 at *
  generalize nyF n s e wv = y2 at *
  generalize nzF n s e wv = y3 at *
  go_enter Try.func159, Try.ntmps159
  go_wp2_with fail
  refine (KA.out _ (HL.out)).mono ?_
  rintro en w1 ⟨rfl, b1⟩
  have HB1 := Lib.hid b1
  clear b1
  go_wp2_with fail
  refine (KN.out _).mono ?_
  rintro en w2 ⟨rfl, b2⟩
  have HB2 := Lib.hid (HB1.out.trans (b2.mono HB1.out.size))
  have a0 : w2.cell? ⟨pa, 0, none⟩ = some (.float .f32 A) := (HA.out.below HB2.out HA.out.lt).cell 0
  have a1 : w2.cell? ⟨pb, 0, none⟩ = some (.float .f32 B) := (HB.out.below HB2.out HB.out.lt).cell 0
  have a2 : w2.cell? ⟨pc, 0, none⟩ = some (.float .f32 C) := (HC.out.below HB2.out HC.out.lt).cell 0
  have a3 : w2.cell? ⟨pm, 0, none⟩ = some (.float .f32 M) := (HM.out.below HB2.out HM.out.lt).cell 0
  clear b2 c0 c1 c2 c3 c4
  cases hg : gtr z6 0 with
  | true =>
    have HZ : Hid (z = z6) := by have := HE2.out; rw [hg, if_pos rfl] at this; exact this
    change (FloatKind.f32.format.order z6 0 == some .gt) = true at hg
    clear HE2
    go_wp2_with fail
    go_ret
    exact ⟨ret_f HZ.out.symm, HB2.out⟩
  | false =>
    have HZ : Hid (z = 0) := by have := HE2.out; rw [hg, if_neg (by decide)] at this; exact this
    change (FloatKind.f32.format.order z6 0 == some .gt) = false at hg
    clear HE2
    go_wp2_with fail
    go_ret
    exact ⟨ret_f HZ.out.symm, HB2.out⟩
end Go.Proofs.Ytnfebeebjelgbaa
