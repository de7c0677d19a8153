import Derived.Test.YtgeeaegnohdejaaResFn
namespace Go.Proofs.Ytgeeaegnohdejaa
open Go.Shelf
open Go.ChangeShapes Go.WideShapes Go.ChangeAt Go.RowKit
open Ieee.Format (fin finE htE allFin allHt all_true all_false mulF subF addF Ht Bd mixF mix_bd shareF share_facts)
set_option linter.unusedVariables false

/-- what the reference's function gives -/
def resF (R : Option Nat) : Nat := if bilC R = 0 then R.getD 0 else 0
/-- what the reference's function holds -/
def ResK (N0 kf kn kd ko kw b c : Nat) (X Y : Int) (Wn Hn : Nat) (l : List Nat) (num den : Nat) (B C : Bool) (W : World) : Prop :=
  ResJ N0 kf kn kd ko b c X Y Wn Hn l num den B W ∧ W.heap[kw]? = some (.cells #[.bool C] /-T-/4 (0, 0)) ∧ kw < N0 ∧ kf ≠ kw ∧ kn ≠ kw ∧ kd ≠ kw ∧ ko ≠ kw ∧ b ≠ kw
section
variable {N0 kf kn kd ko kw b c : Nat} {X Y : Int} {Wn Hn : Nat} {l : List Nat} {num den : Nat} {B C : Bool} {W W' : World}
theorem ResK.under (h : ResK N0 kf kn kd ko kw b c X Y Wn Hn l num den B C W) (hb : Below N0 W W') : ResK N0 kf kn kd ko kw b c X Y Wn Hn l num den B C W' :=
  ⟨h.1.under hb, (hb.block _ h.2.2.1).trans h.2.1, h.2.2⟩
theorem ResK.set (h : ResK N0 kf kn kd ko kw b c X Y Wn Hn l num den B C W) (B' C' : Bool) : ResK N0 kf kn kd ko kw b c X Y Wn Hn l num den B' C' ((W.setCell ⟨ko, 0, none⟩ (.bool B')).setCell ⟨kw, 0, none⟩ (.bool C')) := by
  obtain ⟨h1, h2, l1, n1, n2, n3, n4, n5⟩ := h
  have g := h1.set B'
  have e2 : (W.setCell ⟨ko, 0, none⟩ (.bool B')).heap[kw]? = some (.cells #[.bool C] /-T-/4 (0, 0)) := (Below.heap_setCell W _ _ kw (fun e => n4 e.symm)).trans h2
  refine ⟨⟨g.fo.setCell n1 _, ?_, ?_, (Below.heap_setCell _ _ _ ko n4).trans g.ok, row_set g.row _ _ n5, g.lt, g.ne, by simpa using g.sz⟩, heap_setCell_same _ kw 0 _ _ _ e2, l1, n1, n2, n3, n4, n5⟩
  · exact (World.cell?_of_block (Below.heap_setCell _ _ _ kn n2)).trans g.nm
  · exact (World.cell?_of_block (Below.heap_setCell _ _ _ kd n3)).trans g.dn
theorem ResK.cellw (h : ResK N0 kf kn kd ko kw b c X Y Wn Hn l num den B C W) : W.cell? ⟨kw, 0, none⟩ = some (.bool C) ∧ W.frozen? ⟨kw, 0, none⟩ = false := ⟨cell_of_row W kw 0 _ _ _ h.2.1, frozen_of_row W kw 0 _ _ h.2.1⟩
end

set_option maxRecDepth 100000 in
set_option maxHeartbeats 400000 in
theorem refresfn_any {N0 kf kn kd ko kw b c : Nat} {X Y : Int} {Wn Hn : Nat} {l : List Nat} {num den : Nat} {B C : Bool} (x y : Int) (w : World) (h : ResK N0 kf kn kd ko kw b c X Y Wn Hn l num den B C w) (hr : Right X Y Wn Hn l)
    (hn1 : 1 ≤ num) (hn2 : num ≤ 64) (hd1 : 1 ≤ den) (hd2 : den ≤ 64) (hx1 : -8388608 ≤ x) (hx2 : x ≤ 8388608) (hy1 : -8388608 ≤ y) (hy2 : y ≤ 8388608) :
    Calls Try.prog 111 #[.int .i64 x, .int .i64 y, .pointer (some ⟨kn, 0, none⟩), .pointer (some ⟨kd, 0, none⟩), .pointer (some ⟨kf, 0, none⟩), .pointer (some ⟨ko, 0, none⟩), .pointer (some ⟨kw, 0, none⟩)] w fun e w' => e = .returned (.float .f32 (resF (resV X Y Wn Hn l num den x y))) ∧ But w.heap.size (fun k => k = ko ∨ k = kw) w w' ∧ ResK N0 kf kn kd ko kw b c X Y Wn Hn l num den (B || decide (bilC (resV X Y Wn Hn l num den x y) = 5)) (C || decide (bilC (resV X Y Wn Hn l num den x y) = 3)) w' := by
  have p1 := Int.mul_le_mul_of_nonneg_right hx2 (show (0 : Int) ≤ num by omega)
  have p2 := Int.mul_le_mul_of_nonneg_right hx1 (show (0 : Int) ≤ num by omega)
  have p3 := Int.mul_le_mul_of_nonneg_right hy2 (show (0 : Int) ≤ num by omega)
  have p4 := Int.mul_le_mul_of_nonneg_right hy1 (show (0 : Int) ≤ num by omega)
  have HR : Hid (resV X Y Wn Hn l num den x y = bilV X Y Wn Hn l (x * num / den) (y * num / den) (shareF (x * num % den).toNat den) (shareF (y * num % den).toNat den)) := rfl
  generalize resV X Y Wn Hn l num den x y = R at *
  have KX := Lib.hid (fun w' => quotient_any x num den w' (by omega) (by omega) (by omega) (by omega) (by omega) (by omega))
  have KY := Lib.hid (fun w' => quotient_any y num den w' (by omega) (by omega) (by omega) (by omega) (by omega) (by omega))
  generalize hpx : x * (num : Int) = px at *
  generalize hpy : y * (num : Int) = py at *
  have x3 : -536870912 ≤ px := by omega
  have x4 : px ≤ 536870912 := by omega
  have y3 : -536870912 ≤ py := by omega
  have y4 : py ≤ 536870912 := by omega
  clear p1 p2 p3 p4
  obtain ⟨s1, s2⟩ := ediv_small px den 536870912 (by omega) x3 x4 (by omega)
  obtain ⟨s3, s4⟩ := ediv_small py den 536870912 (by omega) y3 y4 (by omega)
  have m1 := Int.emod_nonneg px (show (den : Int) ≠ 0 by omega)
  have m2 := Int.emod_lt_of_pos px (show (0 : Int) < den by omega)
  have m3 := Int.emod_nonneg py (show (den : Int) ≠ 0 by omega)
  have m4 := Int.emod_lt_of_pos py (show (0 : Int) < den by omega)
  obtain ⟨mx, hmx⟩ : ∃ mx : Nat, px % den = (mx : Int) := ⟨(px % den).toNat, by omega⟩
  obtain ⟨my, hmy⟩ : ∃ my : Nat, py % den = (my : Int) := ⟨(py % den).toNat, by omega⟩
  rw [hmx] at m2 KX
  rw [hmy] at m4 KY
  rw [hmx, hmy, Int.toNat_natCast, Int.toNat_natCast] at HR
  generalize px / (den : Int) = ix at *
  generalize py / (den : Int) = iy at *
  clear hmx hmy m1 m3
  obtain ⟨_, _, b1, _⟩ := share_facts (m := mx) (d := den) (by omega) hd2
  obtain ⟨_, _, b2, _⟩ := share_facts (m := my) (d := den) (by omega) hd2
  have hb : ∀ j, Bd 20 (l.getD j 0) := fun j => (hr.getD j).bd
  have KB := Lib.hid (fun w' hl => bilinear_any X Y Wn Hn b 0 c ix iy (shareF mx den) (shareF my den) l w' hl hr.len hb (Ieee.Format.one_bd (by omega)) (Ieee.Format.one_bd (by omega)) hr.w1 hr.w2 hr.h1 hr.h2 (by have := hr.x1; omega) (by have := hr.x2; omega) (by have := hr.y1; omega) (by have := hr.y2; omega) (by omega) (by omega) (by omega) (by omega))
  rw [← HR.out] at KB
  have KD : Hid (∀ (m : Nat) (w' : World), m < den → Calls Try.prog 113 #[.float .f32 (floatOfInt .f32 (m : Int)), .float .f32 (floatOfInt .f32 (den : Int))] w' fun e w2 => e = .returned (.float .f32 (shareF m den)) ∧ w' = w2) := fun m w' hm => share_div m den w' hm hd2
  have n1 : mx < den := by omega
  have n2 : my < den := by omega
  have hC : bilC R = 0 ∨ bilC R = 3 ∨ bilC R = 5 := by
    unfold bilC outE
    cases R
    · simp
    · simp only; split <;> simp
  clear b1 b2 hb hr HR
  have HJ := Lib.hid h
  have c0 := h.1.nm
  have c1 := h.1.dn
  clear h
  go_enter Try.func111, Try.ntmps111
  go_wp2_with fail
  refine (KX.out _).mono ?_
  rintro e w1 ⟨rfl, b1⟩
  have HB1 := Lib.hid b1
  have HJ1 := Lib.hid (HJ.out.under (b1.mono HJ.out.1.sz))
  clear b1 HJ c0 c1
  have c0 := HJ1.out.1.nm
  have c1 := HJ1.out.1.dn
  go_wp2_with fail
  refine (KY.out _).mono ?_
  rintro e w2 ⟨rfl, b2⟩
  have HB2 := Lib.hid (HB1.out.trans (b2.mono HB1.out.size))
  have HJ2 := Lib.hid (HJ1.out.under (b2.mono HJ1.out.1.sz))
  clear b2 HJ1 HB1 c0 c1
  have c1 := HJ2.out.1.dn
  obtain ⟨f0, f1, f2, f3, f4⟩ := HJ2.out.1.fo.cells
  go_wp2_with fail
  have hR2 := Below.refl w2.heap.size w2
  have hlf : kf < w2.heap.size := HJ2.out.1.fo.lt
  have hld : kd < w2.heap.size := by have := HJ2.out.1.lt; have := HJ2.out.1.sz; omega
  have HRW := Lib.hid HJ2.out.1.row
  go_region_held3 (fun w' => w'.cell? ⟨kf, 0, none⟩ = some (.int .i64 X) ∧ w'.cell? ⟨kf, 1, none⟩ = some (.int .i64 Y) ∧ w'.cell? ⟨kf, 2, none⟩ = some (.int .i64 Wn) ∧ w'.cell? ⟨kf, 3, none⟩ = some (.int .i64 Hn) ∧ w'.cell? ⟨kf, 4, none⟩ = some (.slice (some ⟨b, 0, none⟩) l.length c) ∧ w'.cell? ⟨kd, 0, none⟩ = some (.int .i64 (den : Int)) ∧ Below w2.heap.size w2 w')
    (first
      | exact ⟨f0, f1, f2, f3, f4, c1, hR2.drew⟩
      | (go_split_ands
         have hs := (show Below w2.heap.size w2 _ by assumption).size
         refine ⟨?_, ?_, ?_, ?_, ?_, ?_, ?_⟩
         all_goals first
           | (rw [hb.cell (by simp; omega)]; assumption)
           | exact Below.trans (by assumption) (hb.mono (by omega)))
      | (go_split_ands; refine ⟨?_, ?_, ?_, ?_, ?_, ?_, ?_⟩ <;> assumption))
    (first
      | (go_at_call 78; refine (ref_conv_ok _ _).mono ?_; rintro e2 w2' ⟨rfl, rfl⟩)
      | (go_at_call 113; refine (KD.out _ _ (by assumption)).mono ?_; rintro e2 w2' ⟨rfl, rfl⟩)
      | (go_at_call 112; go_split_ands; refine (KB.out _ (HRW.out.below (by assumption))).mono ?_; rintro e2 w2' ⟨rfl, hb⟩))
  rename_i hHeld
  obtain ⟨_, _, _, _, _, _, b3⟩ := hHeld
  have HB3 := Lib.hid (HB2.out.trans (b3.mono HB2.out.size))
  have HJ3 := Lib.hid (HJ2.out.under (b3.mono HJ2.out.1.sz))
  clear b3 HJ2 HB2 c1 f0 f1 f2 f3 f4 HRW hR2
  obtain ⟨o1, o2⟩ := HJ3.out.1.cellok
  obtain ⟨o3, o4⟩ := HJ3.out.cellw
  have onn : ko ≠ kw := HJ3.out.2.2.2.2.2.2.1
  have lo : ko < w2'.heap.size := by have := HJ3.out.1.lt; have := HJ3.out.1.sz; omega
  have lw : kw < w2'.heap.size := by have := HJ3.out.2.2.1; have := HJ3.out.1.sz; omega
  have HFIN : Hid (∀ B' C' : Bool, B' = (B || decide (bilC R = 5)) → C' = (C || decide (bilC R = 3)) → But w.heap.size (fun k => k = ko ∨ k = kw) w ((w2'.setCell ⟨ko, 0, none⟩ (.bool B')).setCell ⟨kw, 0, none⟩ (.bool C')) ∧ ResK N0 kf kn kd ko kw b c X Y Wn Hn l num den (B || decide (bilC R = 5)) (C || decide (bilC R = 3)) ((w2'.setCell ⟨ko, 0, none⟩ (.bool B')).setCell ⟨kw, 0, none⟩ (.bool C'))) := by
    rintro _ _ rfl rfl
    exact ⟨(But.of HB3.out).trans ((But.set _ _ _ _ _ (.inl rfl)).trans (But.set _ _ _ _ _ (.inr rfl))), HJ3.out.set _ _⟩
  generalize hv : R.getD 0 = v at *
  have HV := Lib.hid hv
  clear hv
  generalize hbc : bilC R = g at *
  have HG := Lib.hid hbc
  have HRF : Hid (resF R = if g = 0 then v else 0) := by unfold Hid resF; rw [hbc, HV.out]
  clear hbc
  have hgb : (g == 5) = decide (g = 5) := rfl
  have P := fun B' C' h1 h2 => HFIN.out B' C' h1 h2
  have HP := Lib.hid P
  clear P HFIN
  rcases hC with h0 | h0 | h0
  all_goals
    obtain rfl := h0
    cases B
    all_goals
      cases C
      all_goals
        go_wp2_with fail
        go_ret
        rw [HRF.out]
        try rw [HG.out]
        refine ⟨rfl, HP.out _ _ ?_ ?_⟩ <;> simp
end Go.Proofs.Ytgeeaegnohdejaa
