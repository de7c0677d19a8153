import Derived.Test.YtgeeaegnohdejaaBilinear
import Derived.Test.YtgeeaegnohdejaaMadeSt
import Derived.Test.YtgeeaegnohdejaaScaleLaw
namespace Go.Proofs.Ytgeeaegnohdejaa
open Go.Shelf
open Go.ChangeShapes Go.WideShapes Go.ChangeAt Go.RowKit
open Ieee.Format (fin finE htE allFin allHt all_true all_false mulF subF addF Ht Bd mixF mix_bd shareF share_facts)
set_option linter.unusedVariables false

theorem But.set (B : Nat) (q : Nat → Prop) (w : World) (p : Addr) (u : Value) (h : q p.block) : But B q w (w.setCell p u) :=
  ⟨rfl, rfl, rfl, by simp, fun k _ hk => Below.heap_setCell w p u k (fun e => hk (e ▸ h))⟩

/-- the value of Resample at a place -/
def resV (X Y : Int) (Wn Hn : Nat) (l : List Nat) (num den : Nat) (x y : Int) : Option Nat :=
  bilV X Y Wn Hn l (x * num / den) (y * num / den) (shareF (x * num % den).toNat den) (shareF (y * num % den).toNat den)

/-- what Resample's function holds -/
structure ResJ (N0 kf kn kd ko b c : Nat) (X Y : Int) (Wn Hn : Nat) (l : List Nat) (num den : Nat) (B : Bool) (W : World) : Prop where
  fo : Fld W kf X Y Wn Hn (.slice (some ⟨b, 0, none⟩) l.length c)
  nm : W.cell? ⟨kn, 0, none⟩ = some (.int .i64 (num : Int))
  dn : W.cell? ⟨kd, 0, none⟩ = some (.int .i64 (den : Int))
  ok : W.heap[ko]? = some (.cells #[.bool B] /-T-/4 (0, 0))
  row : SRow W (some ⟨b, 0, none⟩) l
  lt : kf < N0 ∧ kn < N0 ∧ kd < N0 ∧ ko < N0 ∧ b < N0
  ne : kf ≠ ko ∧ kn ≠ ko ∧ kd ≠ ko ∧ b ≠ ko
  sz : N0 ≤ W.heap.size
section
variable {N0 kf kn kd ko b c : Nat} {X Y : Int} {Wn Hn : Nat} {l : List Nat} {num den : Nat} {B : Bool} {W W' : World}
theorem ResJ.under (h : ResJ N0 kf kn kd ko b c X Y Wn Hn l num den B W) (hb : Below N0 W W') : ResJ N0 kf kn kd ko b c X Y Wn Hn l num den B W' := by
  obtain ⟨l1, l2, l3, l4, l5⟩ := h.lt
  exact ⟨h.fo.below hb l1, (hb.cell (p := ⟨kn, 0, none⟩) l2).trans h.nm, (hb.cell (p := ⟨kd, 0, none⟩) l3).trans h.dn, (hb.block _ l4).trans h.ok, h.row.under hb l5, h.lt, h.ne, Nat.le_trans h.sz hb.size⟩
theorem row_set {W : World} {b : Nat} {l : List Nat} (h : SRow W (some ⟨b, 0, none⟩) l) (p : Addr) (u : Value) (hp : b ≠ p.block) : SRow (W.setCell p u) (some ⟨b, 0, none⟩) l := by
  obtain ⟨h1, h2⟩ := h
  refine ⟨h1, ?_⟩
  rcases h2 with h2 | ⟨b', o', e, hc⟩
  · exact .inl h2
  · refine .inr ⟨b', o', e, fun i hi => ?_⟩
    have : b' = b := by simp at e; exact e.1.symm
    subst this
    exact (World.cell?_of_block (Below.heap_setCell W p u b' hp)).trans (hc i hi)
theorem ResJ.set (h : ResJ N0 kf kn kd ko b c X Y Wn Hn l num den B W) (B' : Bool) : ResJ N0 kf kn kd ko b c X Y Wn Hn l num den B' (W.setCell ⟨ko, 0, none⟩ (.bool B')) := by
  obtain ⟨n1, n2, n3, n4⟩ := h.ne
  refine ⟨h.fo.setCell n1 _, ?_, ?_, heap_setCell_same W ko 0 _ _ _ h.ok, row_set h.row _ _ n4, h.lt, h.ne, by simpa using h.sz⟩
  · exact (World.cell?_of_block (Below.heap_setCell W _ _ kn n2)).trans h.nm
  · exact (World.cell?_of_block (Below.heap_setCell W _ _ kd n3)).trans h.dn
theorem ResJ.cellok (h : ResJ N0 kf kn kd ko b c X Y Wn Hn l num den B W) : W.cell? ⟨ko, 0, none⟩ = some (.bool B) ∧ W.frozen? ⟨ko, 0, none⟩ = false := ⟨cell_of_row W ko 0 _ _ _ h.ok, frozen_of_row W ko 0 _ _ h.ok⟩
end

set_option maxRecDepth 100000 in
set_option maxHeartbeats 400000 in
theorem resfn_any {N0 kf kn kd ko b c : Nat} {X Y : Int} {Wn Hn : Nat} {l : List Nat} {num den : Nat} {B : Bool} (x y : Int) (w : World) (h : ResJ N0 kf kn kd ko b c X Y Wn Hn l num den B w) (hr : Right X Y Wn Hn l)
    (hn1 : 1 ≤ num) (hn2 : num ≤ 64) (hd1 : 1 ≤ den) (hd2 : den ≤ 64) (hx1 : -8388608 ≤ x) (hx2 : x ≤ 8388608) (hy1 : -8388608 ≤ y) (hy2 : y ≤ 8388608) :
    Calls Try.prog 108 #[.int .i64 x, .int .i64 y, .pointer (some ⟨kn, 0, none⟩), .pointer (some ⟨kd, 0, none⟩), .pointer (some ⟨kf, 0, none⟩), .pointer (some ⟨ko, 0, none⟩)] w fun e w' => e = .returned (.float .f32 ((resV X Y Wn Hn l num den x y).getD 0)) ∧ But w.heap.size (fun k => k = ko) w w' ∧ ResJ N0 kf kn kd ko b c X Y Wn Hn l num den (B && (resV X Y Wn Hn l num den x y).isSome) w' := by
  have p1 := Int.mul_le_mul_of_nonneg_right hx2 (show (0 : Int) ≤ num by omega)
  have p2 := Int.mul_le_mul_of_nonneg_right hx1 (show (0 : Int) ≤ num by omega)
  have p3 := Int.mul_le_mul_of_nonneg_right hy2 (show (0 : Int) ≤ num by omega)
  have p4 := Int.mul_le_mul_of_nonneg_right hy1 (show (0 : Int) ≤ num by omega)
  have HR : Hid (resV X Y Wn Hn l num den x y = bilV X Y Wn Hn l (x * num / den) (y * num / den) (shareF (x * num % den).toNat den) (shareF (y * num % den).toNat den)) := rfl
  generalize resV X Y Wn Hn l num den x y = R at *
  generalize hpx : x * (num : Int) = px at *
  generalize hpy : y * (num : Int) = py at *
  have x3 : -536870912 ≤ px := by omega
  have x4 : px ≤ 536870912 := by omega
  have y3 : -536870912 ≤ py := by omega
  have y4 : py ≤ 536870912 := by omega
  clear p1 p2 p3 p4
  have KX := Lib.hid (fun w' => divided_any px den w' (by omega) (by omega) (by omega) (by omega))
  have KY := Lib.hid (fun w' => divided_any py den w' (by omega) (by omega) (by omega) (by omega))
  obtain ⟨s1, s2⟩ := ediv_small px den 536870912 (by omega) x3 x4 (by omega)
  obtain ⟨s3, s4⟩ := ediv_small py den 536870912 (by omega) y3 y4 (by omega)
  have m1 := Int.emod_nonneg px (show (den : Int) ≠ 0 by omega)
  have m2 := Int.emod_lt_of_pos px (show (0 : Int) < den by omega)
  have m3 := Int.emod_nonneg py (show (den : Int) ≠ 0 by omega)
  have m4 := Int.emod_lt_of_pos py (show (0 : Int) < den by omega)
  obtain ⟨mx, hmx⟩ : ∃ mx : Nat, px % den = (mx : Int) := ⟨(px % den).toNat, by omega⟩
  obtain ⟨my, hmy⟩ : ∃ my : Nat, py % den = (my : Int) := ⟨(py % den).toNat, by omega⟩
  rw [hmx] at m2 KX
  rw [hmy] at m4 KY
  rw [hmx, hmy, Int.toNat_natCast, Int.toNat_natCast] at HR
  generalize px / (den : Int) = ix at *
  generalize py / (den : Int) = iy at *
  clear hmx hmy m1 m3
  obtain ⟨q1, _, b1, _⟩ := share_facts (m := mx) (d := den) (by omega) hd2
  obtain ⟨q2, _, b2, _⟩ := share_facts (m := my) (d := den) (by omega) hd2
  have hb : ∀ j, Bd 20 (l.getD j 0) := fun j => (hr.getD j).bd
  have KB := Lib.hid (fun w' hl => between_any X Y Wn Hn b 0 c ix iy (shareF mx den) (shareF my den) l w' hl hr.len hb (Ieee.Format.one_bd (by omega)) (Ieee.Format.one_bd (by omega)) hr.w1 hr.w2 hr.h1 hr.h2 (by have := hr.x1; omega) (by have := hr.x2; omega) (by have := hr.y1; omega) (by have := hr.y2; omega) (by omega) (by omega) (by omega) (by omega))
  rw [← HR.out] at KB
  have k1 := fun w' => run_float_arith (P := Try.prog) w' .quo 24 .f32 (floatOfInt .f32 (mx : Int)) (floatOfInt .f32 (den : Int)) (shareF mx den) q1
  have k2 := fun w' => run_float_arith (P := Try.prog) w' .quo 24 .f32 (floatOfInt .f32 (my : Int)) (floatOfInt .f32 (den : Int)) (shareF my den) q2
  clear q1 q2 b1 b2 hb hr HR
  generalize shareF mx den = sx at *
  generalize shareF my den = sy at *
  have HJ := Lib.hid h
  have c0 := h.nm
  have c1 := h.dn
  obtain ⟨f0, f1, f2, f3, f4⟩ := h.fo.cells
  clear h
  go_enter Try.func108, Try.ntmps108
  go_wp2_with fail
  refine (KX.out _).mono ?_
  rintro e w1 ⟨rfl, b1⟩
  have HB1 := Lib.hid b1
  have HJ1 := Lib.hid (HJ.out.under (b1.mono HJ.out.sz))
  clear b1 HJ f0 f1 f2 f3 f4 c0 c1
  have c0 := HJ1.out.nm
  have c1 := HJ1.out.dn
  go_wp2_with fail
  refine (KY.out _).mono ?_
  rintro e w2 ⟨rfl, b2⟩
  have HB2 := Lib.hid (HB1.out.trans (b2.mono HB1.out.size))
  have HJ2 := Lib.hid (HJ1.out.under (b2.mono HJ1.out.sz))
  clear b2 HJ1 HB1 c0 c1
  have c1 := HJ2.out.dn
  obtain ⟨f0, f1, f2, f3, f4⟩ := HJ2.out.fo.cells
  go_wp2_with fail
  refine (KB.out _ HJ2.out.row).mono ?_
  rintro e w3 ⟨rfl, b3⟩
  have HB3 := Lib.hid (HB2.out.trans (b3.mono HB2.out.size))
  have HJ3 := Lib.hid (HJ2.out.under (b3.mono HJ2.out.sz))
  clear b3 HJ2 HB2 c1 f0 f1 f2 f3 f4
  obtain ⟨o1, o2⟩ := HJ3.out.cellok
  generalize hv : R.getD 0 = v at *
  have HV := Lib.hid hv
  clear hv
  generalize hs : R.isSome = sm at *
  have HSM := Lib.hid hs
  clear hs
  have fin : ∀ B' : Bool, B' = (B && sm) → But w.heap.size (fun k => k = ko) w (w3.setCell ⟨ko, 0, none⟩ (.bool B')) ∧ ResJ N0 kf kn kd ko b c X Y Wn Hn l num den (B && sm) (w3.setCell ⟨ko, 0, none⟩ (.bool B')) := by
    rintro _ rfl
    exact ⟨(But.of HB3.out).trans (But.set _ _ _ _ _ rfl), HJ3.out.set _⟩
  have HFIN := Lib.hid fin
  clear fin
  cases B
  · go_wp2_with fail
    go_ret
    rw [HV.out, HSM.out]
    exact ⟨rfl, HFIN.out _ (by simp)⟩
  · go_wp2_with fail
    go_ret
    rw [HV.out, HSM.out]
    exact ⟨rfl, HFIN.out _ (by simp)⟩
end Go.Proofs.Ytgeeaegnohdejaa
