import Derived.Test.YtgeeaegnohdejaaAround
import Derived.Test.YtgeeaegnohdejaaFloatI
import Derived.Test.YtgeeaegnohdejaaRefScale
import Derived.Deep.RegionHeld3
namespace Go.Proofs.Ytgeeaegnohdejaa
open Go.Shelf
open Go.ChangeShapes Go.WideShapes Go.ChangeAt Go.RowKit
open Ieee.Format (fin finE htE allFin allHt all_true all_false mulF subF addF Ht Bd smoothF smooth2 smooth_bd const_eighth const_2nd)
set_option linter.unusedVariables false

/-- the program's function of Smooth -/
theorem smoothfn_any (j n s e w v : Nat) (W : World) (hn : Bd j n) (hs : Bd j s) (he : Bd j e) (hw : Bd j w) (hv : Bd j v) (hj : j ≤ 80) :
    Calls Try.prog 102 #[.agg #[.float .f32 n, .float .f32 s, .float .f32 e, .float .f32 w, .float .f32 v]] W fun en w' => en = .returned (.float .f32 (smoothF n s e w v)) ∧ Below W.heap.size W w' := by
  obtain ⟨b1, b2, b3, b4, b5, b6, b7⟩ := smooth_bd hn hs he hw hv hj
  have k1 := fun w' => run_float_arith (P := Try.prog) w' .add 24 .f32 n w (addF n w) (Ieee.Format.bits_add hn.1 hw.1)
  have k2 := fun w' => run_float_arith (P := Try.prog) w' .add 24 .f32 e s (addF e s) (Ieee.Format.bits_add he.1 hs.1)
  have k3 := fun w' => run_float_arith (P := Try.prog) w' .add 24 .f32 (addF n w) (addF e s) (addF (addF n w) (addF e s)) (Ieee.Format.bits_add b1.1 b2.1)
  have k4 := fun w' => run_float_arith (P := Try.prog) w' .mul 24 .f32 (addF (addF n w) (addF e s)) 1040187392 (smooth2 n s e w) (Ieee.Format.bits_mul b3.1 const_eighth.1)
  have k5 := fun w' => run_float_arith (P := Try.prog) w' .add 24 .f32 v (smooth2 n s e w) (addF v (smooth2 n s e w)) (Ieee.Format.bits_add hv.1 b4.1)
  have k6 := fun w' => run_float_arith (P := Try.prog) w' .mul 24 .f32 v 1056964608 (mulF v 1056964608) (Ieee.Format.bits_mul hv.1 const_2nd.1)
  have k7 := fun w' => run_float_arith (P := Try.prog) w' .sub 24 .f32 (addF v (smooth2 n s e w)) (mulF v 1056964608) (smoothF n s e w v) (Ieee.Format.bits_sub b5.1 b6.1)
  clear b1 b2 b3 b4 b5 b6 b7 hn hs he hw hv
  generalize smoothF n s e w v = z7 at *
  generalize addF v (smooth2 n s e w) = z5 at *
  generalize smooth2 n s e w = z4 at *
  generalize mulF v 1056964608 = z6 at *
  generalize addF (addF n w) (addF e s) = z3 at *
  generalize addF n w = z1 at *
  generalize addF e s = z2 at *
  go_enter Try.func102, Try.ntmps102
  go_wp2
  go_ret
  exact ⟨rfl, (by repeat (first | with_reducible exact Below.refl _ _ | with_reducible apply Below.drew | with_reducible refine below_drewN ?_ _ | (with_reducible refine Below.setCell ?_ ?_ _; rotate_left; focus (first | omega | (simp <;> omega))) | (with_reducible refine Below.alloc ?_ ?_ _; rotate_left; focus (first | omega | (simp <;> omega)))))⟩

/-- the reference's At by the cell's number -/
theorem refat_k (X Y : Int) (Wn Hn : Nat) (x y : Int) (b o c k : Nat) (l : List Nat) (w : World) (hl : SRow w (some ⟨b, o, none⟩) l) (hn : l.length = Hn * Wn) (hw : 1 ≤ Wn) (hw2 : Wn ≤ 512) (hh : 1 ≤ Hn) (hh2 : Hn ≤ 512) (hx0 : -8388608 ≤ X) (hx1 : X ≤ 8388608) (hy0 : -8388608 ≤ Y) (hy1 : Y ≤ 8388608)
    (hx : X ≤ x) (hx' : x < X + Wn) (hy : Y ≤ y) (hy' : y < Y + Hn) (hk : cellNo X Y Wn x y = (k : Int)) :
    Calls Try.prog 97 #[fldV X Y Wn Hn (some ⟨b, o, none⟩) l.length c, .int .i64 x, .int .i64 y] w fun e w' => e = .returned (.float .f32 (l.getD k 0)) ∧ Below w.heap.size w w' := by
  have h := refat_any X Y Wn Hn x y b o c l w hl (by rw [hn, Int.natCast_mul, Int.mul_comm]) (by omega) (by omega) (by omega) (by omega) hx0 hx1 hy0 hy1 hx hx' hy hy'
  rw [hk, Int.toNat_natCast] at h
  exact h

set_option maxRecDepth 100000 in
set_option maxHeartbeats 4000000 in
/-- the reference's around -/
theorem refaround_any (X Y : Int) (Wn Hn : Nat) (x y : Int) (b o c k : Nat) (l : List Nat) (w : World) (hl : SRow w (some ⟨b, o, none⟩) l) (hn : l.length = Hn * Wn) (hw : 1 ≤ Wn) (hw2 : Wn ≤ 512) (hh : 1 ≤ Hn) (hh2 : Hn ≤ 512) (hx0 : -8388608 ≤ X) (hx1 : X ≤ 8388608) (hy0 : -8388608 ≤ Y) (hy1 : Y ≤ 8388608)
    (hx : X + 1 ≤ x) (hx' : x < X + Wn - 1) (hy : Y + 1 ≤ y) (hy' : y < Y + Hn - 1) (hk : cellNo X Y Wn x y = (k : Int)) :
    Calls Try.prog 105 #[fldV X Y Wn Hn (some ⟨b, o, none⟩) l.length c, .int .i64 x, .int .i64 y] w fun e w' => e = .returned (.tuple #[.float .f32 (l.getD k 0), .float .f32 (l.getD (k - Wn) 0), .float .f32 (l.getD (k + Wn) 0), .float .f32 (l.getD (k + 1) 0), .float .f32 (l.getD (k - 1) 0)]) ∧ Below w.heap.size w w' := by
  have kw : (Wn : Int) + 1 ≤ k := by
    rw [← hk]; unfold cellNo
    have h := Int.mul_le_mul_of_nonneg_right (show 1 ≤ y - Y by omega) (show (0 : Int) ≤ Wn by omega)
    omega
  have e1 : cellNo X Y Wn x (y - 1) = ((k - Wn : Nat) : Int) := by
    unfold cellNo at *
    rw [show y - 1 - Y = (y - Y) - 1 from by omega, Int.sub_mul, Int.one_mul]; omega
  have e2 : cellNo X Y Wn x (y + 1) = ((k + Wn : Nat) : Int) := by
    unfold cellNo at *
    rw [show y + 1 - Y = (y - Y) + 1 from by omega, Int.add_mul, Int.one_mul]; omega
  have e3 : cellNo X Y Wn (x + 1) y = ((k + 1 : Nat) : Int) := by unfold cellNo at *; omega
  have e4 : cellNo X Y Wn (x - 1) y = ((k - 1 : Nat) : Int) := by unfold cellNo at *; omega
  obtain ⟨vf, hvf⟩ : ∃ vf : Int → Int → Nat, vf = fun i j => l.getD (cellNo X Y Wn i j).toNat 0 := ⟨_, rfl⟩
  have KA : Hid (∀ (i j : Int) (w' : World), SRow w' (some ⟨b, o, none⟩) l → X ≤ i → i < X + Wn → Y ≤ j → j < Y + Hn → Calls Try.prog 97 #[fldV X Y Wn Hn (some ⟨b, o, none⟩) l.length c, .int .i64 i, .int .i64 j] w' fun e w2 => e = .returned (.float .f32 (vf i j)) ∧ Below w'.heap.size w' w2) := by
    intro i j w' hl' g1 g2 g3 g4
    rw [hvf]
    exact refat_any X Y Wn Hn i j b o c l w' hl' (by rw [hn, Int.natCast_mul, Int.mul_comm]) (by omega) (by omega) (by omega) (by omega) hx0 hx1 hy0 hy1 g1 g2 g3 g4
  have R1 : Hid (IntKind.i64.wrap (y - 1) = y - 1) := by unfold Hid; rw [IntKind.wrap_i64]; omega
  have R2 : Hid (IntKind.i64.wrap (y + 1) = y + 1) := by unfold Hid; rw [IntKind.wrap_i64]; omega
  have R3 : Hid (IntKind.i64.wrap (x + 1) = x + 1) := by unfold Hid; rw [IntKind.wrap_i64]; omega
  have R4 : Hid (IntKind.i64.wrap (x - 1) = x - 1) := by unfold Hid; rw [IntKind.wrap_i64]; omega
  have E0 : Hid (vf x y = l.getD k 0) := by unfold Hid; rw [hvf]; simp only; rw [hk, Int.toNat_natCast]
  have E1 : Hid (vf x (IntKind.i64.wrap (y - 1)) = l.getD (k - Wn) 0) := by unfold Hid; rw [R1.out, hvf]; simp only; rw [e1, Int.toNat_natCast]
  have E2 : Hid (vf x (IntKind.i64.wrap (y + 1)) = l.getD (k + Wn) 0) := by unfold Hid; rw [R2.out, hvf]; simp only; rw [e2, Int.toNat_natCast]
  have E3 : Hid (vf (IntKind.i64.wrap (x + 1)) y = l.getD (k + 1) 0) := by unfold Hid; rw [R3.out, hvf]; simp only; rw [e3, Int.toNat_natCast]
  have E4 : Hid (vf (IntKind.i64.wrap (x - 1)) y = l.getD (k - 1) 0) := by unfold Hid; rw [R4.out, hvf]; simp only; rw [e4, Int.toNat_natCast]
  have HL := Lib.hid hl
  have hF := (Fld.new w X Y Wn Hn (.slice (some ⟨b, o, none⟩) l.length c))
  have hB : Below w.heap.size w (w.alloc (.cells #[.int .i64 X, .int .i64 Y, .int .i64 Wn, .int .i64 Hn, .slice (some ⟨b, o, none⟩) l.length c] /-T-/66)) := (by repeat (first | with_reducible exact Below.refl _ _ | with_reducible apply Below.drew | with_reducible refine below_drewN ?_ _ | (with_reducible refine Below.setCell ?_ ?_ _; rotate_left; focus (first | omega | (simp <;> omega))) | (with_reducible refine Below.alloc ?_ ?_ _; rotate_left; focus (first | omega | (simp <;> omega)))))
  have x1 : -8388608 ≤ x := by omega
  have x2 : x ≤ 8389120 := by omega
  have y1 : -8388608 ≤ y := by omega
  have y2 : y ≤ 8389120 := by omega
  clear e1 e2 e3 e4 kw hk hn hl hvf
  go_enter Try.func105, Try.ntmps105
  go_wp2_with fail
  generalize (w.alloc (.cells #[.int .i64 X, .int .i64 Y, .int .i64 Wn, .int .i64 Hn, .slice (some ⟨b, o, none⟩) l.length c] /-T-/66)) = W0 at *
  have hkl := hF.lt
  obtain ⟨c0, c1, c2, c3, c4⟩ := hF.cells
  clear hF
  go_region_held3 (fun w' => w'.cell? ⟨w.heap.size, 0, none⟩ = some (.int .i64 X) ∧ w'.cell? ⟨w.heap.size, 1, none⟩ = some (.int .i64 Y) ∧ w'.cell? ⟨w.heap.size, 2, none⟩ = some (.int .i64 Wn) ∧ w'.cell? ⟨w.heap.size, 3, none⟩ = some (.int .i64 Hn) ∧ w'.cell? ⟨w.heap.size, 4, none⟩ = some (.slice (some ⟨b, o, none⟩) l.length c) ∧ w.heap.size < w'.heap.size ∧ Below w.heap.size w w')
    (first
      | exact ⟨c0, c1, c2, c3, c4, hkl, hB.drew⟩
      | (go_split_ands
         have hs := hb.size
         refine ⟨?_, ?_, ?_, ?_, ?_, ?_, ?_⟩
         all_goals first
           | (rw [hb.cell (by simp; omega)]; assumption)
           | exact Below.trans (by assumption) (hb.mono (by omega))
           | omega)
      | (go_split_ands; refine ⟨?_, ?_, ?_, ?_, ?_, ?_, ?_⟩ <;> assumption))
    (first
      | (go_at_call 97; go_split_ands; refine (KA.out _ _ _ (HL.out.below (by assumption)) ?_ ?_ ?_ ?_).mono ?_ <;> first | omega | (rw [R1.out]; omega) | (rw [R2.out]; omega) | (rw [R3.out]; omega) | (rw [R4.out]; omega) | skip
         rintro e2 w2 ⟨rfl, hb⟩))
  rename_i hHeld
  obtain ⟨_, _, _, _, _, _, hB2⟩ := hHeld
  go_wp2_with fail
  have z0 := E0.out
  have z1 := E1.out
  have z2 := E2.out
  have z3 := E3.out
  have z4 := E4.out
  refine bodyPost_ret (v := .tuple #[.float .f32 (vf x y), .float .f32 (vf x (IntKind.i64.wrap (y - 1))), .float .f32 (vf x (IntKind.i64.wrap (y + 1))), .float .f32 (vf (IntKind.i64.wrap (x + 1)) y), .float .f32 (vf (IntKind.i64.wrap (x - 1)) y)]) (by simp [results, Try.results105, go_sem]) rfl ⟨by rw [z0, z1, z2, z3, z4], hB2⟩

/-- the values at a cell and around it, given to a function -/
def nbr (φ : Nat → Nat → Nat → Nat → Nat → Nat) (l : List Nat) (Wn k : Nat) : Nat := φ (l.getD (k - Wn) 0) (l.getD (k + Wn) 0) (l.getD (k + 1) 0) (l.getD (k - 1) 0) (l.getD k 0)

theorem refsmooth_fn (j : Nat) (X Y : Int) (Wn Hn : Nat) (x y : Int) (b o c k : Nat) (l : List Nat) (w : World) (hl : SRow w (some ⟨b, o, none⟩) l) (hn : l.length = Hn * Wn) (hw : 1 ≤ Wn) (hw2 : Wn ≤ 512) (hh : 1 ≤ Hn) (hh2 : Hn ≤ 512) (hx0 : -8388608 ≤ X) (hx1 : X ≤ 8388608) (hy0 : -8388608 ≤ Y) (hy1 : Y ≤ 8388608)
    (hx : X + 1 ≤ x) (hx' : x < X + Wn - 1) (hy : Y + 1 ≤ y) (hy' : y < Y + Hn - 1) (hk : cellNo X Y Wn x y = (k : Int)) (hb : ∀ i, Bd j (l.getD i 0)) (hj : j ≤ 80) :
    Calls Try.prog 104 #[fldV X Y Wn Hn (some ⟨b, o, none⟩) l.length c, .int .i64 x, .int .i64 y] w fun e w' => e = .returned (.float .f32 (nbr smoothF l Wn k)) ∧ Below w.heap.size w w' := by
  have KR := Lib.hid (fun w' hl => refaround_any X Y Wn Hn x y b o c k l w' hl hn hw hw2 hh hh2 hx0 hx1 hy0 hy1 hx hx' hy hy' hk)
  have HL := Lib.hid hl
  have HB : Hid (Below w.heap.size w (w.alloc (.cells #[.int .i64 X, .int .i64 Y, .int .i64 Wn, .int .i64 Hn, .slice (some ⟨b, o, none⟩) l.length c] /-T-/66))) := Lib.hid ((by repeat (first | with_reducible exact Below.refl _ _ | with_reducible apply Below.drew | with_reducible refine below_drewN ?_ _ | (with_reducible refine Below.setCell ?_ ?_ _; rotate_left; focus (first | omega | (simp <;> omega))) | (with_reducible refine Below.alloc ?_ ?_ _; rotate_left; focus (first | omega | (simp <;> omega))))))
  have HE : Hid (nbr smoothF l Wn k = smoothF (l.getD (k - Wn) 0) (l.getD (k + Wn) 0) (l.getD (k + 1) 0) (l.getD (k - 1) 0) (l.getD k 0)) := rfl
  have hn' := hb (k - Wn)
  have hs' := hb (k + Wn)
  have he' := hb (k + 1)
  have hw' := hb (k - 1)
  have hv' := hb k
  clear hb hk hx hx' hy hy' hn hl
  generalize nbr smoothF l Wn k = z at *
  generalize l.getD k 0 = v at *
  generalize l.getD (k - Wn) 0 = n at *
  generalize l.getD (k + Wn) 0 = s at *
  generalize l.getD (k + 1) 0 = e at *
  generalize l.getD (k - 1) 0 = wv at *
  obtain ⟨b1, b2, b3, b4, b5, b6, b7⟩ := smooth_bd hn' hs' he' hw' hv' hj
  have k1 := Lib.hid (fun w' => ref_add_ok n wv w' hn'.1 hw'.1 b1.1)
  have k2 := Lib.hid (fun w' => ref_add_ok e s w' he'.1 hs'.1 b2.1)
  have k3 := Lib.hid (fun w' => ref_add_ok (addF n wv) (addF e s) w' b1.1 b2.1 b3.1)
  have k4 := Lib.hid (fun w' => ref_mul_ok (addF (addF n wv) (addF e s)) 1040187392 w' b3.1 const_eighth.1 b4.1)
  have k5 := Lib.hid (fun w' => ref_add_ok v (smooth2 n s e wv) w' hv'.1 b4.1 b5.1)
  have k6 := Lib.hid (fun w' => ref_mul_ok v 1056964608 w' hv'.1 const_2nd.1 b6.1)
  have k7 := Lib.hid (fun w' => ref_sub_ok (addF v (smooth2 n s e wv)) (mulF v 1056964608) w' b5.1 b6.1 b7.1)
  change Hid (∀ w', Calls Try.prog 77 #[.float .f32 (addF (addF n wv) (addF e s)), .float .f32 1040187392] w' fun e' w2 => e' = .returned (.float .f32 (smooth2 n s e wv)) ∧ w' = w2) at k4
  change Hid (∀ w', Calls Try.prog 79 #[.float .f32 (addF v (smooth2 n s e wv)), .float .f32 (mulF v 1056964608)] w' fun e' w2 => e' = .returned (.float .f32 (smoothF n s e wv v)) ∧ w' = w2) at k7
  clear b1 b2 b3 b4 b5 b6 b7 hn' hs' he' hw' hv'
  generalize smoothF n s e wv v = z7 at *
  generalize addF v (smooth2 n s e wv) = z5 at *
  generalize smooth2 n s e wv = z4 at *
  generalize mulF v 1056964608 = z6 at *
  generalize addF (addF n wv) (addF e s) = z3 at *
  generalize addF n wv = z1 at *
  generalize addF e s = z2 at *
  go_enter Try.func104, Try.ntmps104
  go_wp2_with fail
  refine (KR.out _ (HL.out.below HB.out)).mono ?_
  rintro e w1 ⟨rfl, b1⟩
  have HB1 := Lib.hid (HB.out.trans (b1.mono HB.out.size))
  clear b1
  go_wp2_with fail
  refine (k1.out _).mono ?_
  rintro e w' ⟨rfl, rfl⟩
  go_wp2_with fail
  refine (k2.out _).mono ?_
  rintro e w' ⟨rfl, rfl⟩
  go_wp2_with fail
  refine (k3.out _).mono ?_
  rintro e w' ⟨rfl, rfl⟩
  go_wp2_with fail
  refine (k4.out _).mono ?_
  rintro e w' ⟨rfl, rfl⟩
  go_wp2_with fail
  refine (k5.out _).mono ?_
  rintro e w' ⟨rfl, rfl⟩
  go_wp2_with fail
  refine (k6.out _).mono ?_
  rintro e w' ⟨rfl, rfl⟩
  go_wp2_with fail
  refine (k7.out _).mono ?_
  rintro e w' ⟨rfl, rfl⟩
  go_wp2_with fail
  go_ret
  rw [HE.out]
  exact ⟨rfl, HB1.out⟩
end Go.Proofs.Ytgeeaegnohdejaa
