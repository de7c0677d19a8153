import Derived.Test.YtkmcinibaffpmaaGreatJF
import Derived.Test.YtkmcinibaffpmaaGreatFloatS
import Derived.Test.YtkmcinibaffpmaaGreatWholeFn
import Derived.Test.YtkmcinibaffpmaaGreatWear
import Derived.BigQuiet
import Derived.Deep.QuietTactic
import Derived.Deep.DeepCutAuto
import Derived.Deep.RegionHeld3
import Derived.Test.YtkmcinibaffpmaaGreatM8
import Derived.Test.YtkmcinibaffpmaaGreatAgg5
import Derived.Deep.CutBlock
import Derived.Lib.SmallJoins
import Derived.OpenShut
import Derived.WalkLawsBesides
namespace Ieee
namespace Format
open Go

/-- what a rounded number weighs, its sign apart -/
theorem Rounds.abs_mono {x y : Rat} {s : Bool} {w v : Nat} (h : single.Rounds x s w) (h' : single.Rounds y false v) (fw : single.fin w) (fv : single.fin v) (h1 : x ≤ y) (h2 : -x ≤ y) : single.V w ≤ single.V v ∧ -single.V w ≤ single.V v := by
  obtain ⟨r, rfl, hr⟩ := h
  have l1 := (single.fin_word_iff s r).1 fw
  have p := single.rv_nonneg r
  have fw' : single.fin (single.word false (min r single.infRung)) := (single.fin_word_iff false r).2 l1
  have hm : single.Rounds (sg s * x) false (single.word false (min r single.infRung)) := ⟨r, rfl, by simpa [sg] using hr⟩
  have k := Rounds.mono hm h' fw' fv (by cases s <;> simp [sg] <;> grind)
  rw [single.V_word l1] at k ⊢
  cases s <;> simp [sg] at k ⊢ <;> constructor <;> grind
theorem const_64 : single.fin 1115684864 ∧ single.V 1115684864 = 64 ∧ single.sgn 1115684864 = false := by
  have := V_const false 132 8388608 (.inr (by decide)) (by decide) (by decide)
  rw [show single.word false (132 * 8388608 + 8388608) = 1115684864 from by decide] at this
  refine ⟨this.1, ?_, this.2.2⟩
  rw [this.2.1, show ((132 : Nat) : Int) - 149 = -17 from rfl, show ((8388608 : Nat) : Rat) = P2 23 from (P2_nat 23).symm, ← P2_add]
  simp [sg]
  exact P2_nat 6
theorem const_2048 : single.fin 1157627904 ∧ single.V 1157627904 = 2048 ∧ single.sgn 1157627904 = false := by
  have := V_const false 137 8388608 (.inr (by decide)) (by decide) (by decide)
  rw [show single.word false (137 * 8388608 + 8388608) = 1157627904 from by decide] at this
  refine ⟨this.1, ?_, this.2.2⟩
  rw [this.2.1, show ((137 : Nat) : Int) - 149 = -12 from rfl, show ((8388608 : Nat) : Rat) = P2 23 from (P2_nat 23).symm, ← P2_add]
  simp [sg]
  exact P2_nat 11
theorem const_4096 : single.fin 1166016512 ∧ single.V 1166016512 = 4096 ∧ single.sgn 1166016512 = false := by
  have := V_const false 138 8388608 (.inr (by decide)) (by decide) (by decide)
  rw [show single.word false (138 * 8388608 + 8388608) = 1166016512 from by decide] at this
  refine ⟨this.1, ?_, this.2.2⟩
  rw [this.2.1, show ((138 : Nat) : Int) - 149 = -11 from rfl, show ((8388608 : Nat) : Rat) = P2 23 from (P2_nat 23).symm, ← P2_add]
  simp [sg]
  exact P2_nat 12
theorem place_4096 : single.rplace 1166016511 = -12 := by
  rw [show (1166016511 : Nat) = (137 + 1) * 8388608 + 8388607 from by omega, place_at _ _ (by omega)]; rfl
theorem near_4096 : Near1 4096 (P2 (-13)) := near_of (-12) (-13) 1166016511 (by omega) const_4096 (by omega) place_4096
/-- how far a place is moved -/
structure MoveOk (v a r : Nat) : Prop where
  f1 : single.fin (mulF v a)
  f2 : single.fin (addF (mulF v a) 1056964608)
  p1 : single.V (mulF v a) ≤ single.V (mulF r a)
  p2 : -single.V (mulF v a) ≤ single.V (mulF r a)
  fr : single.fin (mulF r a)
  r0 : 0 ≤ single.V (mulF r a)
  r1 : single.V (mulF r a) ≤ 2048
  q1 : single.V (addF (mulF v a) 1056964608) ≤ single.V (mulF v a) + 1 / 2 + P2 (-13)
  q2 : single.V (mulF v a) + 1 / 2 ≤ single.V (addF (mulF v a) 1056964608) + P2 (-13)
theorem move_ok {v a r : Nat} (fv : single.fin v) (fr : single.fin r) (fa : single.fin a) (a0 : 0 ≤ single.V a) (a1 : single.V a ≤ 64) (h1 : single.V v ≤ single.V r) (h2 : -single.V v ≤ single.V r) (hr : single.V r ≤ 32) : MoveOk v a r := by
  have hr0 : 0 ≤ single.V r := by grind
  have m1 := Rat.mul_le_mul_of_nonneg_right h1 a0
  have m2 := Rat.mul_le_mul_of_nonneg_right h2 a0
  have m3 := Rat.mul_le_mul_of_nonneg_right hr a0
  have m4 := Rat.mul_nonneg hr0 a0
  have sv := (mulF_spec fv fa).2
  have sr := (mulF_spec fr fa).2
  have e1 : -single.V v * single.V a = -(single.V v * single.V a) := by grind
  rw [e1] at m2
  have bv := sv.bound const_2048.1 const_2048.2.2 (by rw [const_2048.2.1]; grind) (by rw [const_2048.2.1]; grind)
  have br := sr.bound const_2048.1 const_2048.2.2 (by rw [const_2048.2.1]; grind) (by rw [const_2048.2.1]; grind)
  rw [const_2048.2.1] at bv br
  have n0 := sr.nonneg br.1 m4
  have hp : single.V (mulF v a) ≤ single.V (mulF r a) ∧ -single.V (mulF v a) ≤ single.V (mulF r a) := by
    by_cases hz : single.V r * single.V a = 0
    · have bz := sv.bound const_0.1 (by decide) (by rw [const_0.2.1]; grind) (by rw [const_0.2.1]; grind)
      rw [const_0.2.1] at bz
      exact ⟨by grind, by grind⟩
    · have q1 : 0 < single.V r := by
        have : single.V r ≠ 0 := fun h => hz (by rw [h, Rat.zero_mul])
        grind
      have q2 : 0 < single.V a := by
        have : single.V a ≠ 0 := fun h => hz (by rw [h, Rat.mul_zero])
        grind
      rw [pos_sgn q1, pos_sgn q2] at sr
      exact Rounds.abs_mono sv sr bv.1 br.1 m1 m2
  have sa := (addF_spec bv.1 const_half.1).2
  rw [const_half.2.1] at sa
  obtain ⟨g1, g2, g3, _, _⟩ := near_4096 _ _ _ sa (by grind) (by grind)
  exact ⟨bv.1, g1, hp.1, hp.2, br.1, n0, br.2.1, g2, g3⟩
end Format
end Ieee
namespace Go.Proofs.YtkmcinibaffpmaaGreat
open Ieee.Format (fin mulF addF floorF move_ok MoveOk)
def moveF (v a : Nat) : Nat := floorF (addF (mulF v a) 1056964608)
def moveZ (v a : Nat) : Int := floorZ (addF (mulF v a) 1056964608)
def margZ (r a : Nat) : Int := floorZ (mulF r a) + 1
theorem int_lt {a b : Int} (h : (a : Rat) < (b : Rat)) : a < b := Rat.intCast_lt_intCast.1 h
theorem move_in {v a r : Nat} (h : MoveOk v a r) : floatToIntVal .f32 (moveF v a) .i64 = some (moveZ v a) ∧ floatToIntVal .f32 (floorF (mulF r a)) .i64 = some (floorZ (mulF r a)) ∧ moveZ v a ≤ margZ r a ∧ -moveZ v a ≤ margZ r a ∧ margZ r a ≤ 2049 ∧ 0 ≤ margZ r a := by
  obtain ⟨f1, f2, p1, p2, fr, r0, r1, q1, q2⟩ := h
  have p13 : 0 < Ieee.P2 (-13) := Ieee.P2_pos _
  have p13' : Ieee.P2 (-13) < 1 / 4 := by
    have := Ieee.P2_lt (show (-13 : Int) < -2 by omega)
    have d : Ieee.P2 (-1) = 2 * Ieee.P2 (-2) := Ieee.Format.P2_double (-1)
    have d2 : Ieee.P2 0 = 2 * Ieee.P2 (-1) := Ieee.Format.P2_double 0
    rw [Ieee.P2_zero] at d2
    grind
  have e40 : Ieee.P2 40 = ((1099511627776 : Int) : Rat) := Ieee.P2_nat 40
  have e40' : (4096 : Rat) ≤ Ieee.P2 40 := by rw [e40]; decide
  have l1 : addF (mulF v a) 1056964608 < 4294967296 := Ieee.Format.addF_lt _ _
  have l2 : mulF r a < 4294967296 := Ieee.Format.mulF_lt _ _
  obtain ⟨a1, _, a3, a4, _, _⟩ := floorZ_spec f2 l1 (by grind) (by grind)
  obtain ⟨b1, _, b3, b4, _, _⟩ := floorZ_spec fr l2 (by grind) (by grind)
  unfold moveF moveZ margZ
  generalize floorZ (addF (mulF v a) 1056964608) = d at *
  generalize floorZ (mulF r a) = m at *
  have c1 : ((1 : Int) : Rat) = 1 := rfl
  refine ⟨a1, b1, ?_, ?_, ?_, ?_⟩
  · have : (d : Rat) < ((m + 2 : Int) : Rat) := by
      rw [Rat.intCast_add, show ((2 : Int) : Rat) = 2 from rfl]; grind
    have := int_lt this
    omega
  · have : ((-(m + 2) : Int) : Rat) < (d : Rat) := by
      rw [Rat.intCast_neg, Rat.intCast_add, show ((2 : Int) : Rat) = 2 from rfl]; grind
    have := int_lt this
    omega
  · have : (m : Rat) < ((2049 : Int) : Rat) := by rw [show ((2049 : Int) : Rat) = 2049 from rfl]; grind
    have := int_lt this
    omega
  · have : ((-1 : Int) : Rat) < (m : Rat) := by rw [show ((-1 : Int) : Rat) = -1 from rfl]; grind
    have := int_lt this
    omega
end Go.Proofs.YtkmcinibaffpmaaGreat

namespace Go.Proofs.YtkmcinibaffpmaaGreat
open Go.ChangeShapes Go.WideShapes Go.ChangeAt Go.RowKit
open Ieee.Format (fin finE htE allFin allHt all_true all_false mulF subF addF Ht Bd divF rootF floorF easeF mixF)
set_option linter.unusedVariables false
open Wide
open Ieee.Format (finE_ok finE_bad const_64 const_0)

/-! ### warps: the check -/
def wsE (t : Nat) : Int := if fin Ieee.single t then (if lss t 0 || gtr t 1115684864 then 3 else 0) else 2
theorem wsE_two (t : Nat) : shareE2 t 1115684864 = wsE t := by
  unfold shareE2 wsE
  by_cases hf : fin Ieee.single t
  · rw [if_pos hf]
    by_cases ht : htE [t] = 0
    · rw [if_neg (by omega)]
      cases lss t 0 <;> cases gtr t 1115684864 <;> rfl
    · rw [if_pos ht]
      have a1 : allFin [t] = true := by unfold allFin; simp [hf]
      have n1 : ¬ Ht t := fun hc => ht (Ieee.Format.htE_of_ht (Ieee.Format.allHt_iff.2 (by simpa using hc)))
      have h3 : htE [t] = 3 := Ieee.Format.htE_far a1 (by cases hh : allHt [t]; rfl; exact absurd (Ieee.Format.allHt_iff.1 hh t (by simp)) n1)
      rw [h3]
      cases h : (lss t 0 || gtr t 1115684864) with
      | true => rfl
      | false =>
        exfalso
        rw [Bool.or_eq_false_iff] at h
        obtain ⟨l1, l2⟩ := h
        rw [lss_V hf const_0.1, const_0.2.1] at l1
        rw [gtr_V hf const_64.1, const_64.2.1] at l2
        have l1 := of_decide_eq_false l1
        have l2 := of_decide_eq_false l2
        have p : (64 : Rat) ≤ Ieee.P2 20 := by rw [show Ieee.P2 20 = ((2 ^ 20 : Nat) : Rat) from Ieee.P2_nat 20]; decide
        exact n1 (Ieee.Format.Ht.of ⟨by grind, by grind⟩)
  · rw [if_neg hf]
    have h0 : htE [t] = 2 := Ieee.Format.htE_bad (by unfold allFin; simp [hf])
    rw [h0]; rfl
theorem wsE_zero {t : Nat} (h : wsE t = 0) : fin Ieee.single t ∧ 0 ≤ Ieee.single.V t ∧ Ieee.single.V t ≤ 64 := by
  unfold wsE at h
  by_cases hf : fin Ieee.single t
  · rw [if_pos hf] at h
    cases hl : (lss t 0 || gtr t 1115684864) with
    | true => rw [hl] at h; simp at h
    | false =>
      rw [Bool.or_eq_false_iff] at hl
      obtain ⟨l1, l2⟩ := hl
      rw [lss_V hf const_0.1, const_0.2.1] at l1
      rw [gtr_V hf const_64.1, const_64.2.1] at l2
      have l1 := of_decide_eq_false l1
      have l2 := of_decide_eq_false l2
      exact ⟨hf, by grind, by grind⟩
  · rw [if_neg hf] at h; omega
def wpE (kd cell n : Int) (g a : Nat) : Int := if frE kd cell n g = 0 then wsE a else frE kd cell n g
/-- a warp, as a value -/
def wpV (kd seed cell n : Int) (g a : Nat) : Value := .agg #[.int .i64 kd, .int .u32 seed, .int .i64 cell, .int .i64 n, .float .f32 g, .float .f32 a]
def wpC (kd seed cell n : Int) (g a : Nat) : Array Value := #[.int .i64 kd, .int .u32 seed, .int .i64 cell, .int .i64 n, .float .f32 g, .float .f32 a]
set_option maxRecDepth 100000 in
set_option maxHeartbeats 1000000 in
theorem wpcheck_any (kd seed cell n : Int) (g a : Nat) (hg : g < 4294967296) (ha : a < 4294967296) (w : World) :
    Calls Tryz.prog 6 #[wpV kd seed cell n g a] w fun e w' => e = .returned (.int .i64 (wpE kd cell n g a)) ∧ Below w.heap.size w w' := by
  have KC := Lib.hid (fun w => frcheck_any kd seed cell n g hg w)
  have KF := Lib.hid (fun w c => finites_any (some ⟨w.heap.size, 0, none⟩) c [a] (w.alloc (.cells #[.float .f32 a] 23)) (row_one w a ha _))
  unfold wpE wpV
  unfold frV at *
  by_cases hE : frE kd cell n g = 0
  · rw [if_pos hE]
    rw [hE] at KC
    unfold wsE
    by_cases hf : fin Ieee.single a
    · have e1 : finE [a] = 0 := finE_ok (by unfold allFin; simp [hf])
      rw [e1] at KF
      rw [if_pos hf]
      clear hf e1 hE hg ha
      cases h1 : lss a 0 with
      | true =>
        change (FloatKind.f32.format.order a 0 == some .lt) = true at h1
        simp only [Bool.true_or, if_true]
        go_enter Tryz.func6, Tryz.ntmps6
        go_upto_region 1 with fail
        generalize hW0 : w.alloc (.cells #[.int .i64 kd, .int .u32 seed, .int .i64 cell, .int .i64 n, .float .f32 g, .float .f32 a] 27) = W0
        have A0 : Blk W0 w.heap.size #[.int .i64 kd, .int .u32 seed, .int .i64 cell, .int .i64 n, .float .f32 g, .float .f32 a] 27 := by subst hW0; exact Blk.new _ _ _
        have b0 : Below w.heap.size w W0 := by subst hW0; exact (by repeat (first | with_reducible exact Below.refl _ _ | with_reducible apply Below.drew | with_reducible refine below_drewN ?_ _ | (with_reducible refine Below.setCell ?_ ?_ _; rotate_left; focus (first | omega | (simp <;> omega))) | (with_reducible refine Below.alloc ?_ ?_ _; rotate_left; focus (first | omega | (simp <;> omega)))))
        have HB0 := Lib.hid b0
        have HA0 := Lib.hid A0
        clear b0 hW0 A0
        have p0 := HA0.out.cell 0
        have p1 := HA0.out.cell 1
        have p2 := HA0.out.cell 2
        have p3 := HA0.out.cell 3
        have p4 := HA0.out.cell 4
        have p5 := HA0.out.cell 5
        simp at p0 p1 p2 p3 p4 p5
        have l0 := HA0.out.lt
        go_wp2_with fail
        refine (KC.out _).mono ?_
        rintro e w1 ⟨rfl, b1⟩
        have HB1 := Lib.hid (HB0.out.trans (b1.mono HB0.out.size))
        have HA1 := Lib.hid (HA0.out.below b1 HA0.out.lt)
        clear b1 HB0 HA0 p0 p1 p2 p3 p4 p5 l0
        have p0 := HA1.out.cell 0
        have p1 := HA1.out.cell 1
        have p2 := HA1.out.cell 2
        have p3 := HA1.out.cell 3
        have p4 := HA1.out.cell 4
        have p5 := HA1.out.cell 5
        simp at p0 p1 p2 p3 p4 p5
        have l0 := HA1.out.lt
        go_wp2_with fail
        refine (KF.out _ _).mono ?_
        rintro e w2 ⟨rfl, rfl⟩
        go_upto_region 5 with fail
        have b3 : Below w1.heap.size w1 (w1.alloc (.cells #[.float .f32 a] 23)) := (by repeat (first | with_reducible exact Below.refl _ _ | with_reducible apply Below.drew | with_reducible refine below_drewN ?_ _ | (with_reducible refine Below.setCell ?_ ?_ _; rotate_left; focus (first | omega | (simp <;> omega))) | (with_reducible refine Below.alloc ?_ ?_ _; rotate_left; focus (first | omega | (simp <;> omega)))))
        have HB3 := Lib.hid (HB1.out.trans (b3.mono HB1.out.size))
        have HA3 := Lib.hid (HA1.out.below b3 HA1.out.lt)
        clear b3 HB1 HA1 p0 p1 p2 p3 p4 p5 l0
        generalize w1.alloc (.cells #[.float .f32 a] 23) = w3 at *
        have p0 := HA3.out.cell 0
        have p1 := HA3.out.cell 1
        have p2 := HA3.out.cell 2
        have p3 := HA3.out.cell 3
        have p4 := HA3.out.cell 4
        have p5 := HA3.out.cell 5
        simp at p0 p1 p2 p3 p4 p5
        have l0 := HA3.out.lt
        go_wp2_with fail
        go_ret
        exact ⟨rfl, HB3.out⟩
      | false =>
        cases h2 : gtr a 1115684864 with
        | true =>
          change (FloatKind.f32.format.order a 0 == some .lt) = false at h1
          change (FloatKind.f32.format.order a 1115684864 == some .gt) = true at h2
          simp only [Bool.or_true, if_true]
          go_enter Tryz.func6, Tryz.ntmps6
          go_upto_region 1 with fail
          generalize hW0 : w.alloc (.cells #[.int .i64 kd, .int .u32 seed, .int .i64 cell, .int .i64 n, .float .f32 g, .float .f32 a] 27) = W0
          have A0 : Blk W0 w.heap.size #[.int .i64 kd, .int .u32 seed, .int .i64 cell, .int .i64 n, .float .f32 g, .float .f32 a] 27 := by subst hW0; exact Blk.new _ _ _
          have b0 : Below w.heap.size w W0 := by subst hW0; exact (by repeat (first | with_reducible exact Below.refl _ _ | with_reducible apply Below.drew | with_reducible refine below_drewN ?_ _ | (with_reducible refine Below.setCell ?_ ?_ _; rotate_left; focus (first | omega | (simp <;> omega))) | (with_reducible refine Below.alloc ?_ ?_ _; rotate_left; focus (first | omega | (simp <;> omega)))))
          have HB0 := Lib.hid b0
          have HA0 := Lib.hid A0
          clear b0 hW0 A0
          have p0 := HA0.out.cell 0
          have p1 := HA0.out.cell 1
          have p2 := HA0.out.cell 2
          have p3 := HA0.out.cell 3
          have p4 := HA0.out.cell 4
          have p5 := HA0.out.cell 5
          simp at p0 p1 p2 p3 p4 p5
          have l0 := HA0.out.lt
          go_wp2_with fail
          refine (KC.out _).mono ?_
          rintro e w1 ⟨rfl, b1⟩
          have HB1 := Lib.hid (HB0.out.trans (b1.mono HB0.out.size))
          have HA1 := Lib.hid (HA0.out.below b1 HA0.out.lt)
          clear b1 HB0 HA0 p0 p1 p2 p3 p4 p5 l0
          have p0 := HA1.out.cell 0
          have p1 := HA1.out.cell 1
          have p2 := HA1.out.cell 2
          have p3 := HA1.out.cell 3
          have p4 := HA1.out.cell 4
          have p5 := HA1.out.cell 5
          simp at p0 p1 p2 p3 p4 p5
          have l0 := HA1.out.lt
          go_wp2_with fail
          refine (KF.out _ _).mono ?_
          rintro e w2 ⟨rfl, rfl⟩
          go_upto_region 5 with fail
          have b3 : Below w1.heap.size w1 (w1.alloc (.cells #[.float .f32 a] 23)) := (by repeat (first | with_reducible exact Below.refl _ _ | with_reducible apply Below.drew | with_reducible refine below_drewN ?_ _ | (with_reducible refine Below.setCell ?_ ?_ _; rotate_left; focus (first | omega | (simp <;> omega))) | (with_reducible refine Below.alloc ?_ ?_ _; rotate_left; focus (first | omega | (simp <;> omega)))))
          have HB3 := Lib.hid (HB1.out.trans (b3.mono HB1.out.size))
          have HA3 := Lib.hid (HA1.out.below b3 HA1.out.lt)
          clear b3 HB1 HA1 p0 p1 p2 p3 p4 p5 l0
          generalize w1.alloc (.cells #[.float .f32 a] 23) = w3 at *
          have p0 := HA3.out.cell 0
          have p1 := HA3.out.cell 1
          have p2 := HA3.out.cell 2
          have p3 := HA3.out.cell 3
          have p4 := HA3.out.cell 4
          have p5 := HA3.out.cell 5
          simp at p0 p1 p2 p3 p4 p5
          have l0 := HA3.out.lt
          go_wp2_with fail
          go_ret
          exact ⟨rfl, HB3.out⟩
        | false =>
          change (FloatKind.f32.format.order a 0 == some .lt) = false at h1
          change (FloatKind.f32.format.order a 1115684864 == some .gt) = false at h2
          simp only [Bool.or_self, Bool.false_eq_true, if_false]
          go_enter Tryz.func6, Tryz.ntmps6
          go_upto_region 1 with fail
          generalize hW0 : w.alloc (.cells #[.int .i64 kd, .int .u32 seed, .int .i64 cell, .int .i64 n, .float .f32 g, .float .f32 a] 27) = W0
          have A0 : Blk W0 w.heap.size #[.int .i64 kd, .int .u32 seed, .int .i64 cell, .int .i64 n, .float .f32 g, .float .f32 a] 27 := by subst hW0; exact Blk.new _ _ _
          have b0 : Below w.heap.size w W0 := by subst hW0; exact (by repeat (first | with_reducible exact Below.refl _ _ | with_reducible apply Below.drew | with_reducible refine below_drewN ?_ _ | (with_reducible refine Below.setCell ?_ ?_ _; rotate_left; focus (first | omega | (simp <;> omega))) | (with_reducible refine Below.alloc ?_ ?_ _; rotate_left; focus (first | omega | (simp <;> omega)))))
          have HB0 := Lib.hid b0
          have HA0 := Lib.hid A0
          clear b0 hW0 A0
          have p0 := HA0.out.cell 0
          have p1 := HA0.out.cell 1
          have p2 := HA0.out.cell 2
          have p3 := HA0.out.cell 3
          have p4 := HA0.out.cell 4
          have p5 := HA0.out.cell 5
          simp at p0 p1 p2 p3 p4 p5
          have l0 := HA0.out.lt
          go_wp2_with fail
          refine (KC.out _).mono ?_
          rintro e w1 ⟨rfl, b1⟩
          have HB1 := Lib.hid (HB0.out.trans (b1.mono HB0.out.size))
          have HA1 := Lib.hid (HA0.out.below b1 HA0.out.lt)
          clear b1 HB0 HA0 p0 p1 p2 p3 p4 p5 l0
          have p0 := HA1.out.cell 0
          have p1 := HA1.out.cell 1
          have p2 := HA1.out.cell 2
          have p3 := HA1.out.cell 3
          have p4 := HA1.out.cell 4
          have p5 := HA1.out.cell 5
          simp at p0 p1 p2 p3 p4 p5
          have l0 := HA1.out.lt
          go_wp2_with fail
          refine (KF.out _ _).mono ?_
          rintro e w2 ⟨rfl, rfl⟩
          go_upto_region 5 with fail
          have b3 : Below w1.heap.size w1 (w1.alloc (.cells #[.float .f32 a] 23)) := (by repeat (first | with_reducible exact Below.refl _ _ | with_reducible apply Below.drew | with_reducible refine below_drewN ?_ _ | (with_reducible refine Below.setCell ?_ ?_ _; rotate_left; focus (first | omega | (simp <;> omega))) | (with_reducible refine Below.alloc ?_ ?_ _; rotate_left; focus (first | omega | (simp <;> omega)))))
          have HB3 := Lib.hid (HB1.out.trans (b3.mono HB1.out.size))
          have HA3 := Lib.hid (HA1.out.below b3 HA1.out.lt)
          clear b3 HB1 HA1 p0 p1 p2 p3 p4 p5 l0
          generalize w1.alloc (.cells #[.float .f32 a] 23) = w3 at *
          have p0 := HA3.out.cell 0
          have p1 := HA3.out.cell 1
          have p2 := HA3.out.cell 2
          have p3 := HA3.out.cell 3
          have p4 := HA3.out.cell 4
          have p5 := HA3.out.cell 5
          simp at p0 p1 p2 p3 p4 p5
          have l0 := HA3.out.lt
          go_wp2_with fail
          go_ret
          exact ⟨rfl, HB3.out⟩
    · have e1 : finE [a] = 2 := finE_bad (by unfold allFin; simp [hf])
      rw [e1] at KF
      rw [if_neg hf]
      clear hf e1 hE hg ha
      go_enter Tryz.func6, Tryz.ntmps6
      go_upto_region 1 with fail
      generalize hW0 : w.alloc (.cells #[.int .i64 kd, .int .u32 seed, .int .i64 cell, .int .i64 n, .float .f32 g, .float .f32 a] 27) = W0
      have A0 : Blk W0 w.heap.size #[.int .i64 kd, .int .u32 seed, .int .i64 cell, .int .i64 n, .float .f32 g, .float .f32 a] 27 := by subst hW0; exact Blk.new _ _ _
      have b0 : Below w.heap.size w W0 := by subst hW0; exact (by repeat (first | with_reducible exact Below.refl _ _ | with_reducible apply Below.drew | with_reducible refine below_drewN ?_ _ | (with_reducible refine Below.setCell ?_ ?_ _; rotate_left; focus (first | omega | (simp <;> omega))) | (with_reducible refine Below.alloc ?_ ?_ _; rotate_left; focus (first | omega | (simp <;> omega)))))
      have HB0 := Lib.hid b0
      have HA0 := Lib.hid A0
      clear b0 hW0 A0
      have p0 := HA0.out.cell 0
      have p1 := HA0.out.cell 1
      have p2 := HA0.out.cell 2
      have p3 := HA0.out.cell 3
      have p4 := HA0.out.cell 4
      have p5 := HA0.out.cell 5
      simp at p0 p1 p2 p3 p4 p5
      have l0 := HA0.out.lt
      go_wp2_with fail
      refine (KC.out _).mono ?_
      rintro e w1 ⟨rfl, b1⟩
      have HB1 := Lib.hid (HB0.out.trans (b1.mono HB0.out.size))
      have HA1 := Lib.hid (HA0.out.below b1 HA0.out.lt)
      clear b1 HB0 HA0 p0 p1 p2 p3 p4 p5 l0
      have p0 := HA1.out.cell 0
      have p1 := HA1.out.cell 1
      have p2 := HA1.out.cell 2
      have p3 := HA1.out.cell 3
      have p4 := HA1.out.cell 4
      have p5 := HA1.out.cell 5
      simp at p0 p1 p2 p3 p4 p5
      have l0 := HA1.out.lt
      go_wp2_with fail
      refine (KF.out _ _).mono ?_
      rintro e w2 ⟨rfl, rfl⟩
      go_upto_region 5 with fail
      have b3 : Below w1.heap.size w1 (w1.alloc (.cells #[.float .f32 a] 23)) := (by repeat (first | with_reducible exact Below.refl _ _ | with_reducible apply Below.drew | with_reducible refine below_drewN ?_ _ | (with_reducible refine Below.setCell ?_ ?_ _; rotate_left; focus (first | omega | (simp <;> omega))) | (with_reducible refine Below.alloc ?_ ?_ _; rotate_left; focus (first | omega | (simp <;> omega)))))
      have HB3 := Lib.hid (HB1.out.trans (b3.mono HB1.out.size))
      have HA3 := Lib.hid (HA1.out.below b3 HA1.out.lt)
      clear b3 HB1 HA1 p0 p1 p2 p3 p4 p5 l0
      generalize w1.alloc (.cells #[.float .f32 a] 23) = w3 at *
      have p0 := HA3.out.cell 0
      have p1 := HA3.out.cell 1
      have p2 := HA3.out.cell 2
      have p3 := HA3.out.cell 3
      have p4 := HA3.out.cell 4
      have p5 := HA3.out.cell 5
      simp at p0 p1 p2 p3 p4 p5
      have l0 := HA3.out.lt
      go_wp2_with fail
      go_ret
      exact ⟨rfl, HB3.out⟩
  · rw [if_neg hE]
    have hb : (frE kd cell n g != 0) = true := by simpa using hE
    clear hE hg ha KF
    generalize frE kd cell n g = z at *
    go_enter Tryz.func6, Tryz.ntmps6
    go_upto_region 1 with fail
    generalize hW0 : w.alloc (.cells #[.int .i64 kd, .int .u32 seed, .int .i64 cell, .int .i64 n, .float .f32 g, .float .f32 a] 27) = W0
    have A0 : Blk W0 w.heap.size #[.int .i64 kd, .int .u32 seed, .int .i64 cell, .int .i64 n, .float .f32 g, .float .f32 a] 27 := by subst hW0; exact Blk.new _ _ _
    have b0 : Below w.heap.size w W0 := by subst hW0; exact (by repeat (first | with_reducible exact Below.refl _ _ | with_reducible apply Below.drew | with_reducible refine below_drewN ?_ _ | (with_reducible refine Below.setCell ?_ ?_ _; rotate_left; focus (first | omega | (simp <;> omega))) | (with_reducible refine Below.alloc ?_ ?_ _; rotate_left; focus (first | omega | (simp <;> omega)))))
    have HB0 := Lib.hid b0
    have HA0 := Lib.hid A0
    clear b0 hW0 A0
    have p0 := HA0.out.cell 0
    have p1 := HA0.out.cell 1
    have p2 := HA0.out.cell 2
    have p3 := HA0.out.cell 3
    have p4 := HA0.out.cell 4
    have p5 := HA0.out.cell 5
    simp at p0 p1 p2 p3 p4 p5
    have l0 := HA0.out.lt
    go_wp2_with fail
    refine (KC.out _).mono ?_
    rintro e w1 ⟨rfl, b1⟩
    have HB1 := Lib.hid (HB0.out.trans (b1.mono HB0.out.size))
    have HA1 := Lib.hid (HA0.out.below b1 HA0.out.lt)
    clear b1 HB0 HA0 p0 p1 p2 p3 p4 p5 l0
    go_wp2_with fail
    go_ret
    exact ⟨rfl, HB1.out⟩
set_option maxRecDepth 100000 in
set_option maxHeartbeats 1000000 in
theorem refwpcheck_any (kd seed cell n : Int) (g a : Nat) (hg : g < 4294967296) (ha : a < 4294967296) (w : World) :
    Calls Tryz.prog 5 #[wpV kd seed cell n g a] w fun e w' => e = .returned (.int .i64 (wpE kd cell n g a)) ∧ Below w.heap.size w w' := by
  have KC := Lib.hid (fun w => refrcheck_any kd seed cell n g hg w)
  have KS := Lib.hid (fun w => refshare_any a 1115684864 ha w)
  rw [wsE_two] at KS
  unfold wpE wpV
  unfold frV at *
  by_cases hE : frE kd cell n g = 0
  · rw [if_pos hE]
    rw [hE] at KC
    clear hE hg ha
    generalize wsE a = z at *
    go_enter Tryz.func5, Tryz.ntmps5
    go_upto_region 1 with fail
    generalize hW0 : w.alloc (.cells #[.int .i64 kd, .int .u32 seed, .int .i64 cell, .int .i64 n, .float .f32 g, .float .f32 a] 27) = W0
    have A0 : Blk W0 w.heap.size #[.int .i64 kd, .int .u32 seed, .int .i64 cell, .int .i64 n, .float .f32 g, .float .f32 a] 27 := by subst hW0; exact Blk.new _ _ _
    have b0 : Below w.heap.size w W0 := by subst hW0; exact (by repeat (first | with_reducible exact Below.refl _ _ | with_reducible apply Below.drew | with_reducible refine below_drewN ?_ _ | (with_reducible refine Below.setCell ?_ ?_ _; rotate_left; focus (first | omega | (simp <;> omega))) | (with_reducible refine Below.alloc ?_ ?_ _; rotate_left; focus (first | omega | (simp <;> omega)))))
    have HB0 := Lib.hid b0
    have HA0 := Lib.hid A0
    clear b0 hW0 A0
    have p0 := HA0.out.cell 0
    have p1 := HA0.out.cell 1
    have p2 := HA0.out.cell 2
    have p3 := HA0.out.cell 3
    have p4 := HA0.out.cell 4
    have p5 := HA0.out.cell 5
    simp at p0 p1 p2 p3 p4 p5
    have l0 := HA0.out.lt
    go_wp2_with fail
    refine (KC.out _).mono ?_
    rintro e w1 ⟨rfl, b1⟩
    have HB1 := Lib.hid (HB0.out.trans (b1.mono HB0.out.size))
    have HA1 := Lib.hid (HA0.out.below b1 HA0.out.lt)
    clear b1 HB0 HA0 p0 p1 p2 p3 p4 p5 l0
    have p0 := HA1.out.cell 0
    have p1 := HA1.out.cell 1
    have p2 := HA1.out.cell 2
    have p3 := HA1.out.cell 3
    have p4 := HA1.out.cell 4
    have p5 := HA1.out.cell 5
    simp at p0 p1 p2 p3 p4 p5
    have l0 := HA1.out.lt
    go_wp2_with fail
    refine (KS.out _).mono ?_
    rintro e w2 ⟨rfl, b2⟩
    have HB2 := Lib.hid (HB1.out.trans (b2.mono HB1.out.size))
    clear b2
    go_wp2_with fail
    go_ret
    exact ⟨rfl, HB2.out⟩
  · rw [if_neg hE]
    have hb : (frE kd cell n g != 0) = true := by simpa using hE
    clear hE hg ha KS
    generalize frE kd cell n g = z at *
    go_enter Tryz.func5, Tryz.ntmps5
    go_upto_region 1 with fail
    generalize hW0 : w.alloc (.cells #[.int .i64 kd, .int .u32 seed, .int .i64 cell, .int .i64 n, .float .f32 g, .float .f32 a] 27) = W0
    have A0 : Blk W0 w.heap.size #[.int .i64 kd, .int .u32 seed, .int .i64 cell, .int .i64 n, .float .f32 g, .float .f32 a] 27 := by subst hW0; exact Blk.new _ _ _
    have b0 : Below w.heap.size w W0 := by subst hW0; exact (by repeat (first | with_reducible exact Below.refl _ _ | with_reducible apply Below.drew | with_reducible refine below_drewN ?_ _ | (with_reducible refine Below.setCell ?_ ?_ _; rotate_left; focus (first | omega | (simp <;> omega))) | (with_reducible refine Below.alloc ?_ ?_ _; rotate_left; focus (first | omega | (simp <;> omega)))))
    have HB0 := Lib.hid b0
    have HA0 := Lib.hid A0
    clear b0 hW0 A0
    have p0 := HA0.out.cell 0
    have p1 := HA0.out.cell 1
    have p2 := HA0.out.cell 2
    have p3 := HA0.out.cell 3
    have p4 := HA0.out.cell 4
    have p5 := HA0.out.cell 5
    simp at p0 p1 p2 p3 p4 p5
    have l0 := HA0.out.lt
    go_wp2_with fail
    refine (KC.out _).mono ?_
    rintro e w1 ⟨rfl, b1⟩
    have HB1 := Lib.hid (HB0.out.trans (b1.mono HB0.out.size))
    have HA1 := Lib.hid (HA0.out.below b1 HA0.out.lt)
    clear b1 HB0 HA0 p0 p1 p2 p3 p4 p5 l0
    go_wp2_with fail
    go_ret
    exact ⟨rfl, HB1.out⟩
end Go.Proofs.YtkmcinibaffpmaaGreat

namespace Go.Proofs.YtkmcinibaffpmaaGreat
open Go.ChangeShapes Go.WideShapes Go.ChangeAt Go.RowKit
open Ieee.Format (fin finE htE allFin allHt all_true all_false mulF subF addF Ht Bd divF rootF floorF easeF mixF)
set_option linter.unusedVariables false
open Wide
open Ieee.Format (bits_mul bits_add const_half MoveOk move_ok reachF octS)

def warpP (kd seed cell : Int) (n g a : Nat) (x y : Int) : Int × Int := (x + moveZ (fracF kd seed cell n g x y) a, y + moveZ (fracF kd (hashTo seed 1 1 5 3) cell n g x y) a)
theorem warp_ok (kd seed cell x y : Int) {n g a : Nat} (h1 : 1 ≤ n) (hn : n ≤ 10) (hg : Share g) (c1 : 1 ≤ cell) (c2 : cell ≤ 4096) (ha : fin Ieee.single a ∧ 0 ≤ Ieee.single.V a ∧ Ieee.single.V a ≤ 64) :
    MoveOk (fracF kd seed cell n g x y) a (reachF g (bndF kd) n) ∧ fin Ieee.single (fracF kd seed cell n g x y) := by
  obtain ⟨f1, f2, r1, r2, r3, r4⟩ := frac_within kd seed cell x y h1 hn hg c1 c2
  exact ⟨move_ok f1 f2 ha.1 ha.2.1 ha.2.2 r1 r2 r3, f1⟩
set_option maxRecDepth 100000 in
set_option maxHeartbeats 1000000 in
theorem movefn_any (kd seed cell n : Int) (g v a r : Nat) (h : MoveOk v a r) (fv : fin Ieee.single v) (fa : fin Ieee.single a) (p : Nat) (w : World) (A : Blk w p (wpC kd seed cell n g a) 27) :
    Calls Tryz.prog 44 #[.float .f32 v, .pointer (some ⟨p, 0, none⟩)] w fun e w' => e = .returned (.int .i64 (moveZ v a)) ∧ w = w' := by
  have k1 := fun w' => run_float_arith (P := Tryz.prog) w' .mul 23 .f32 _ _ _ (bits_mul fv fa)
  have k2 := fun w' => run_float_arith (P := Tryz.prog) w' .add 23 .f32 _ _ _ (bits_add h.f1 const_half.1)
  have KF := Lib.hid (fun w => floor_any (addF (mulF v a) 1056964608) h.f2 (Ieee.Format.addF_lt _ _) w)
  have kc := fun w => run_convert_float_int (P := Tryz.prog) w 23 3 .f32 .i64 (floorF (addF (mulF v a) 1056964608)) (moveZ v a) (by kernel_rfl) Tryz.underlying3 (move_in h).1
  unfold wpC at A
  have p5 := A.cell 5
  simp at p5
  have l0 := A.lt
  clear A h fv fa
  generalize moveZ v a = z at *
  generalize floorF (addF (mulF v a) 1056964608) = f3 at *
  generalize addF (mulF v a) 1056964608 = f2 at *
  generalize mulF v a = f1 at *
  go_enter Tryz.func44, Tryz.ntmps44
  go_wp2_with fail
  refine (KF.out _).mono ?_
  rintro e w1 ⟨rfl, rfl⟩
  go_wp2_with fail
  go_ret
  exact ⟨rfl, rfl⟩
theorem wp_world (w : World) (c0 c1 c2 : Array Value) (t0 t1 t2 : TypeId) : ∀ W0, W0 = ((w.alloc (.cells c0 t0)).alloc (.cells c1 t1)).alloc (.cells c2 t2) →
    Blk W0 w.heap.size c0 t0 ∧ Blk W0 (w.heap.size + 1) c1 t1 ∧ Blk W0 (w.heap.size + 1 + 1) c2 t2 ∧ Below w.heap.size w W0 := by
  rintro _ rfl
  refine ⟨((Blk.new _ _ _).alloc _).alloc _, ?_, ?_, (by repeat (first | with_reducible exact Below.refl _ _ | with_reducible apply Below.drew | with_reducible refine below_drewN ?_ _ | (with_reducible refine Below.setCell ?_ ?_ _; rotate_left; focus (first | omega | (simp <;> omega))) | (with_reducible refine Below.alloc ?_ ?_ _; rotate_left; focus (first | omega | (simp <;> omega)))))⟩
  · have := (Blk.new (w.alloc (.cells c0 t0)) c1 t1).alloc (.cells c2 t2)
    simpa using this
  · have := Blk.new ((w.alloc (.cells c0 t0)).alloc (.cells c1 t1)) c2 t2
    simpa using this
theorem fr_seed {w : World} {k : Nat} {kd seed cell n : Int} {g : Nat} (h : Blk w k #[.int .i64 kd, .int .u32 seed, .int .i64 cell, .int .i64 n, .float .f32 g] 25) (s : Int) :
    Blk (w.setCell ⟨k, 1, none⟩ (.int .u32 s)) k #[.int .i64 kd, .int .u32 s, .int .i64 cell, .int .i64 n, .float .f32 g] 25 ∧ Below k w (w.setCell ⟨k, 1, none⟩ (.int .u32 s)) := by
  refine ⟨?_, (by repeat (first | with_reducible exact Below.refl _ _ | with_reducible apply Below.drew | with_reducible refine below_drewN ?_ _ | (with_reducible refine Below.setCell ?_ ?_ _; rotate_left; focus (first | omega | (simp <;> omega))) | (with_reducible refine Below.alloc ?_ ?_ _; rotate_left; focus (first | omega | (simp <;> omega)))))⟩
  unfold Blk at *; exact heap_setCell_same w k 1 _ _ _ h
/-- what warp keeps -/
structure WpS (w : World) (kd seed cell n : Int) (g a : Nat) (s2 : Int) (wr : World) : Prop where
  a : Blk wr w.heap.size #[.int .i64 kd, .int .u32 seed, .int .i64 cell, .int .i64 n, .float .f32 g, .float .f32 a] 27
  p : Blk wr (w.heap.size + 1) #[.int .i64 0, .int .i64 0] 37
  o : Blk wr (w.heap.size + 1 + 1) #[.int .i64 kd, .int .u32 s2, .int .i64 cell, .int .i64 n, .float .f32 g] 25
  b : Below w.heap.size w wr
theorem WpS.below {w wr w2 : World} {kd seed cell n s2 : Int} {g a : Nat} (h : WpS w kd seed cell n g a s2 wr) (hb : Below wr.heap.size wr w2) : WpS w kd seed cell n g a s2 w2 :=
  ⟨h.a.below hb h.a.lt, h.p.below hb h.p.lt, h.o.below hb h.o.lt, h.b.trans (hb.mono h.b.size)⟩
theorem WpS.drew {w wr : World} {kd seed cell n s2 : Int} {g a : Nat} (h : WpS w kd seed cell n g a s2 wr) : WpS w kd seed cell n g a s2 wr.drew := ⟨h.a.drew, h.p.drew, h.o.drew, h.b.drew⟩
theorem WpS.seed {w wr : World} {kd seed cell n s2 : Int} {g a : Nat} (h : WpS w kd seed cell n g a s2 wr) (s : Int) : WpS w kd seed cell n g a s (wr.setCell ⟨w.heap.size + 1 + 1, 1, none⟩ (.int .u32 s)) := by
  obtain ⟨x, y⟩ := fr_seed h.o s
  exact ⟨h.a.below y (by omega), h.p.below y (by omega), x, h.b.trans (y.mono (by omega))⟩
set_option maxRecDepth 100000 in
set_option maxHeartbeats 2000000 in
theorem warp_any (kd seed cell x y : Int) (n g a : Nat) (w : World) (h1 : 1 ≤ n) (hn : n ≤ 10) (hg : Share g) (c1 : 1 ≤ cell) (c2 : cell ≤ 4096) (ha : fin Ieee.single a ∧ 0 ≤ Ieee.single.V a ∧ Ieee.single.V a ≤ 64) (hx : -8388608 ≤ x) (hx2 : x ≤ 8388608) (hy : -8388608 ≤ y) (hy2 : y ≤ 8388608) :
    Calls Tryz.prog 21 #[wpV kd seed cell n g a, .int .i64 x, .int .i64 y] w fun e w' => e = .returned (ptV (warpP kd seed cell n g a x y)) ∧ Below w.heap.size w w' := by
  obtain ⟨o1, f1⟩ := warp_ok kd seed cell x y h1 hn hg c1 c2 ha
  obtain ⟨o2, f2⟩ := warp_ok kd (hashTo seed 1 1 5 3) cell x y h1 hn hg c1 c2 ha
  have m1 := move_in o1
  have m2 := move_in o2
  have KF1 := Lib.hid (fun w => fractal_any kd seed cell x y n g w hn hg c1 c2 hx hx2 hy hy2)
  have KF2 := Lib.hid (fun w => fractal_any kd (hashTo seed 1 1 5 3) cell x y n g w hn hg c1 c2 hx hx2 hy hy2)
  have KM1 := Lib.hid (fun W (A : Blk W w.heap.size (wpC kd seed cell n g a) 27) => movefn_any kd seed cell n g _ a _ o1 f1 ha.1 w.heap.size W A)
  have KM2 := Lib.hid (fun W (A : Blk W w.heap.size (wpC kd seed cell n g a) 27) => movefn_any kd seed cell n g _ a _ o2 f2 ha.1 w.heap.size W A)
  have KH := Lib.hid (fun w => hash1 seed 1 1 5 w)
  have eg : ∀ args w, (callFunc 44 args).run Tryz.prog w = .ok (.enter 44 args) w := enters_of Tryz.func44 (by kernel_rfl) rfl
  unfold warpP ptV
  simp only
  clear o1 f1 o2 f2 hg h1 hn c1 c2 ha
  generalize moveZ (fracF kd seed cell n g x y) a = z1 at *
  generalize moveZ (fracF kd (hashTo seed 1 1 5 3) cell n g x y) a = z2 at *
  generalize fracF kd seed cell n g x y = v1 at *
  generalize fracF kd (hashTo seed 1 1 5 3) cell n g x y = v2 at *
  generalize hashTo seed 1 1 5 3 = s2 at *
  have w1' : IntKind.i64.wrap (x + z1) = x + z1 := IntWalk.i64_in _ (by omega)
  have w2' : IntKind.i64.wrap (y + z2) = y + z2 := IntWalk.i64_in _ (by omega)
  clear m1 m2 hx hx2 hy hy2
  generalize (n : Int) = n at *
  unfold wpV frV at *
  unfold wpC at *
  go_enter Tryz.func21, Tryz.ntmps21
  go_upto_region 2 with fail
  generalize hW0 : ((w.alloc (.cells #[.int .i64 kd, .int .u32 seed, .int .i64 cell, .int .i64 n, .float .f32 g, .float .f32 a] 27)).alloc (.cells #[.int .i64 0, .int .i64 0] 37)).alloc (.cells #[.int .i64 kd, .int .u32 seed, .int .i64 cell, .int .i64 n, .float .f32 g] 25) = W0 at *
  obtain ⟨x0, x1, x2, x3⟩ := wp_world w #[.int .i64 kd, .int .u32 seed, .int .i64 cell, .int .i64 n, .float .f32 g, .float .f32 a] #[.int .i64 0, .int .i64 0] #[.int .i64 kd, .int .u32 seed, .int .i64 cell, .int .i64 n, .float .f32 g] 27 37 25 W0 hW0.symm
  have S0 : WpS w kd seed cell n g a seed W0 := ⟨x0, x1, x2, x3⟩
  have S0 := Lib.hid S0
  clear hW0 x0 x1 x2 x3
  have p1 := S0.out.a.cell 1
  simp at p1
  have l0 := S0.out.a.lt
  have l2 := S0.out.o.lt
  have f1 := S0.out.o.frozen 1
  have o1 := S0.out.o.cell 1
  simp at o1
  go_wp2_with fail
  refine (KH.out _).mono ?_
  rintro e w2 ⟨rfl, rfl⟩
  go_upto_region 4 with fail
  have S1 := Lib.hid (S0.out.seed s2)
  generalize W0.setCell ⟨w.heap.size + 1 + 1, 1, none⟩ (.int .u32 s2) = W1 at *
  clear S0 p1 l0 l2 f1 o1 KH
  refine wp_region_noPanic ?_
  refine wp_region_heldT (WpS w kd seed cell n g a s2) 18 (by kernel_rfl) S1.out.drew (fun hHeld => ?_)
  refine wpAnyT_takeL [18] (i := 0) (v := ?_) rfl (by kernel_rfl) (by kernel_rfl) (by kernel_rfl) (by kernel_rfl) (fun _ _ _ h => h) (Or.inl ⟨by rfl, ?_⟩) (by with_reducible assumption) ?_
  rotate_left
  · intro w hSw
    have z0 := hSw.a.cell 0
    have z1 := hSw.a.cell 1
    have z2 := hSw.a.cell 2
    have z3 := hSw.a.cell 3
    have z4 := hSw.a.cell 4
    have y0 := hSw.o.cell 0
    have y1 := hSw.o.cell 1
    have y2 := hSw.o.cell 2
    have y3 := hSw.o.cell 3
    have y4 := hSw.o.cell 4
    simp at z0 z1 z2 z3 z4 y0 y1 y2 y3 y4
    go_simp
    try with_reducible rfl
  try simp only [Act.put, List.setIfInBounds_toArray, List.set_cons_zero, List.set_cons_succ]
  refine wpAnyT_takeL [18] (i := 1) (v := ?_) rfl (by kernel_rfl) (by kernel_rfl) (by kernel_rfl) (by kernel_rfl) (fun _ _ _ h => h) (Or.inl ⟨by rfl, ?_⟩) (by with_reducible assumption) ?_
  rotate_left
  · intro w hSw
    have z0 := hSw.a.cell 0
    have z1 := hSw.a.cell 1
    have z2 := hSw.a.cell 2
    have z3 := hSw.a.cell 3
    have z4 := hSw.a.cell 4
    have y0 := hSw.o.cell 0
    have y1 := hSw.o.cell 1
    have y2 := hSw.o.cell 2
    have y3 := hSw.o.cell 3
    have y4 := hSw.o.cell 4
    simp at z0 z1 z2 z3 z4 y0 y1 y2 y3 y4
    go_simp
    try with_reducible rfl
  try simp only [Act.put, List.setIfInBounds_toArray, List.set_cons_zero, List.set_cons_succ]
  refine wpAnyT_takeL [18] (i := 2) (v := ?_) rfl (by kernel_rfl) (by kernel_rfl) (by kernel_rfl) (by kernel_rfl) (fun _ _ _ h => h) (Or.inl ⟨by rfl, ?_⟩) (by with_reducible assumption) ?_
  rotate_left
  · intro w hSw
    have z0 := hSw.a.cell 0
    have z1 := hSw.a.cell 1
    have z2 := hSw.a.cell 2
    have z3 := hSw.a.cell 3
    have z4 := hSw.a.cell 4
    have y0 := hSw.o.cell 0
    have y1 := hSw.o.cell 1
    have y2 := hSw.o.cell 2
    have y3 := hSw.o.cell 3
    have y4 := hSw.o.cell 4
    simp at z0 z1 z2 z3 z4 y0 y1 y2 y3 y4
    go_simp
    try with_reducible rfl
  try simp only [Act.put, List.setIfInBounds_toArray, List.set_cons_zero, List.set_cons_succ]
  refine wpAnyT_takeL [18] (i := 3) (v := ?_) rfl (by kernel_rfl) (by kernel_rfl) (by kernel_rfl) (by kernel_rfl) (fun _ _ _ h => h) (Or.inl ⟨by rfl, ?_⟩) (by with_reducible assumption) ?_
  rotate_left
  · intro w hSw
    have z0 := hSw.a.cell 0
    have z1 := hSw.a.cell 1
    have z2 := hSw.a.cell 2
    have z3 := hSw.a.cell 3
    have z4 := hSw.a.cell 4
    have y0 := hSw.o.cell 0
    have y1 := hSw.o.cell 1
    have y2 := hSw.o.cell 2
    have y3 := hSw.o.cell 3
    have y4 := hSw.o.cell 4
    simp at z0 z1 z2 z3 z4 y0 y1 y2 y3 y4
    go_simp
    try with_reducible rfl
  try simp only [Act.put, List.setIfInBounds_toArray, List.set_cons_zero, List.set_cons_succ]
  refine wpAnyT_takeL [18] (i := 4) (v := ?_) rfl (by kernel_rfl) (by kernel_rfl) (by kernel_rfl) (by kernel_rfl) (fun _ _ _ h => h) (Or.inl ⟨by rfl, ?_⟩) (by with_reducible assumption) ?_
  rotate_left
  · intro w hSw
    have z0 := hSw.a.cell 0
    have z1 := hSw.a.cell 1
    have z2 := hSw.a.cell 2
    have z3 := hSw.a.cell 3
    have z4 := hSw.a.cell 4
    have y0 := hSw.o.cell 0
    have y1 := hSw.o.cell 1
    have y2 := hSw.o.cell 2
    have y3 := hSw.o.cell 3
    have y4 := hSw.o.cell 4
    simp at z0 z1 z2 z3 z4 y0 y1 y2 y3 y4
    go_simp
    try with_reducible rfl
  try simp only [Act.put, List.setIfInBounds_toArray, List.set_cons_zero, List.set_cons_succ]
  refine wpAnyT_takeL [18] (i := 5) (v := ?_) rfl (by kernel_rfl) (by kernel_rfl) (by kernel_rfl) (by kernel_rfl) (fun _ _ _ h => h) (Or.inl ⟨by rfl, ?_⟩) (by with_reducible assumption) ?_
  rotate_left
  · intro w hSw
    have z0 := hSw.a.cell 0
    have z1 := hSw.a.cell 1
    have z2 := hSw.a.cell 2
    have z3 := hSw.a.cell 3
    have z4 := hSw.a.cell 4
    have y0 := hSw.o.cell 0
    have y1 := hSw.o.cell 1
    have y2 := hSw.o.cell 2
    have y3 := hSw.o.cell 3
    have y4 := hSw.o.cell 4
    simp at z0 z1 z2 z3 z4 y0 y1 y2 y3 y4
    go_simp
    try with_reducible rfl
  try simp only [Act.put, List.setIfInBounds_toArray, List.set_cons_zero, List.set_cons_succ]
  refine wpAnyT_takeL [18] (i := 9) (v := ?_) rfl (by kernel_rfl) (by kernel_rfl) (by kernel_rfl) (by kernel_rfl) (fun _ _ _ h => h) (Or.inl ⟨by rfl, ?_⟩) (by with_reducible assumption) ?_
  rotate_left
  · intro w hSw
    have z0 := hSw.a.cell 0
    have z1 := hSw.a.cell 1
    have z2 := hSw.a.cell 2
    have z3 := hSw.a.cell 3
    have z4 := hSw.a.cell 4
    have y0 := hSw.o.cell 0
    have y1 := hSw.o.cell 1
    have y2 := hSw.o.cell 2
    have y3 := hSw.o.cell 3
    have y4 := hSw.o.cell 4
    simp at z0 z1 z2 z3 z4 y0 y1 y2 y3 y4
    go_simp
    try with_reducible rfl
  try simp only [Act.put, List.setIfInBounds_toArray, List.set_cons_zero, List.set_cons_succ]
  refine wpAnyT_takeL [18] (i := 10) (v := ?_) rfl (by kernel_rfl) (by kernel_rfl) (by kernel_rfl) (by kernel_rfl) (fun _ _ _ h => h) (Or.inl ⟨by rfl, ?_⟩) (by with_reducible assumption) ?_
  rotate_left
  · intro w hSw
    have z0 := hSw.a.cell 0
    have z1 := hSw.a.cell 1
    have z2 := hSw.a.cell 2
    have z3 := hSw.a.cell 3
    have z4 := hSw.a.cell 4
    have y0 := hSw.o.cell 0
    have y1 := hSw.o.cell 1
    have y2 := hSw.o.cell 2
    have y3 := hSw.o.cell 3
    have y4 := hSw.o.cell 4
    simp at z0 z1 z2 z3 z4 y0 y1 y2 y3 y4
    go_simp
    try with_reducible rfl
  try simp only [Act.put, List.setIfInBounds_toArray, List.set_cons_zero, List.set_cons_succ]
  refine wpAnyT_takeL [18] (i := 11) (v := ?_) rfl (by kernel_rfl) (by kernel_rfl) (by kernel_rfl) (by kernel_rfl) (fun _ _ _ h => h) (Or.inl ⟨by rfl, ?_⟩) (by with_reducible assumption) ?_
  rotate_left
  · intro w hSw
    have z0 := hSw.a.cell 0
    have z1 := hSw.a.cell 1
    have z2 := hSw.a.cell 2
    have z3 := hSw.a.cell 3
    have z4 := hSw.a.cell 4
    have y0 := hSw.o.cell 0
    have y1 := hSw.o.cell 1
    have y2 := hSw.o.cell 2
    have y3 := hSw.o.cell 3
    have y4 := hSw.o.cell 4
    simp at z0 z1 z2 z3 z4 y0 y1 y2 y3 y4
    go_simp
    try with_reducible rfl
  try simp only [Act.put, List.setIfInBounds_toArray, List.set_cons_zero, List.set_cons_succ]
  refine wpAnyT_takeL [18] (i := 12) (v := ?_) rfl (by kernel_rfl) (by kernel_rfl) (by kernel_rfl) (by kernel_rfl) (fun _ _ _ h => h) (Or.inl ⟨by rfl, ?_⟩) (by with_reducible assumption) ?_
  rotate_left
  · intro w hSw
    have z0 := hSw.a.cell 0
    have z1 := hSw.a.cell 1
    have z2 := hSw.a.cell 2
    have z3 := hSw.a.cell 3
    have z4 := hSw.a.cell 4
    have y0 := hSw.o.cell 0
    have y1 := hSw.o.cell 1
    have y2 := hSw.o.cell 2
    have y3 := hSw.o.cell 3
    have y4 := hSw.o.cell 4
    simp at z0 z1 z2 z3 z4 y0 y1 y2 y3 y4
    go_simp
    try with_reducible rfl
  try simp only [Act.put, List.setIfInBounds_toArray, List.set_cons_zero, List.set_cons_succ]
  refine wpAnyT_takeL [18] (i := 13) (v := ?_) rfl (by kernel_rfl) (by kernel_rfl) (by kernel_rfl) (by kernel_rfl) (fun _ _ _ h => h) (Or.inl ⟨by rfl, ?_⟩) (by with_reducible assumption) ?_
  rotate_left
  · intro w hSw
    have z0 := hSw.a.cell 0
    have z1 := hSw.a.cell 1
    have z2 := hSw.a.cell 2
    have z3 := hSw.a.cell 3
    have z4 := hSw.a.cell 4
    have y0 := hSw.o.cell 0
    have y1 := hSw.o.cell 1
    have y2 := hSw.o.cell 2
    have y3 := hSw.o.cell 3
    have y4 := hSw.o.cell 4
    simp at z0 z1 z2 z3 z4 y0 y1 y2 y3 y4
    go_simp
    try with_reducible rfl
  try simp only [Act.put, List.setIfInBounds_toArray, List.set_cons_zero, List.set_cons_succ]
  refine wpAnyT_ready (rs := [6]) (by kernel_rfl) (by simp) ?_
  refine AllReadyT.cons rfl (fun K hK => ?_) AllReadyT.nil
  go_simp
  (with_reducible refine (KF1.out _).mono ?_)
  rintro e w2 ⟨rfl, hb⟩
  have hN := hHeld.below hb
  go_wp2_with fail
  refine hK.out _ _ (fun _ => hN) (fun hS_ => ?_)
  have hHeld := hS_ (by omega)
  clear hS_ hK K
  try simp only [Act.put, List.setIfInBounds_toArray, List.set_cons_zero, List.set_cons_succ]
  refine wpAnyT_ready (rs := [7]) (by kernel_rfl) (by simp) ?_
  refine AllReadyT.cons rfl (fun K hK => ?_) AllReadyT.nil
  go_simp
  (with_reducible refine (KM1.out _ hHeld.a).mono ?_)
  rintro e w2 ⟨rfl, rfl⟩
  go_wp2_with fail
  refine hK.out _ _ (fun _ => hHeld) (fun hS_ => ?_)
  have hHeld := hS_ (by omega)
  clear hS_ hK K
  try simp only [Act.put, List.setIfInBounds_toArray, List.set_cons_zero, List.set_cons_succ]
  refine wpAnyT_takeL [18] (i := 8) (v := ?_) rfl (by kernel_rfl) (by kernel_rfl) (by kernel_rfl) (by kernel_rfl) (fun _ _ _ h => h) (Or.inl ⟨by rfl, ?_⟩) (by with_reducible assumption) ?_
  rotate_left
  · intro w hSw
    have z0 := hSw.a.cell 0
    have z1 := hSw.a.cell 1
    have z2 := hSw.a.cell 2
    have z3 := hSw.a.cell 3
    have z4 := hSw.a.cell 4
    have y0 := hSw.o.cell 0
    have y1 := hSw.o.cell 1
    have y2 := hSw.o.cell 2
    have y3 := hSw.o.cell 3
    have y4 := hSw.o.cell 4
    simp at z0 z1 z2 z3 z4 y0 y1 y2 y3 y4
    go_simp
    try with_reducible rfl
  try simp only [Act.put, List.setIfInBounds_toArray, List.set_cons_zero, List.set_cons_succ]
  refine wpAnyT_ready (rs := [14]) (by kernel_rfl) (by simp) ?_
  refine AllReadyT.cons rfl (fun K hK => ?_) AllReadyT.nil
  go_simp
  (with_reducible refine (KF2.out _).mono ?_)
  rintro e w2 ⟨rfl, hb⟩
  have hN := hHeld.below hb
  go_wp2_with fail
  refine hK.out _ _ (fun _ => hN) (fun hS_ => ?_)
  have hHeld := hS_ (by omega)
  clear hS_ hK K
  try simp only [Act.put, List.setIfInBounds_toArray, List.set_cons_zero, List.set_cons_succ]
  refine wpAnyT_ready (rs := [15]) (by kernel_rfl) (by simp) ?_
  refine AllReadyT.cons rfl (fun K hK => ?_) AllReadyT.nil
  go_simp
  (with_reducible refine (KM2.out _ hHeld.a).mono ?_)
  rintro e w2 ⟨rfl, rfl⟩
  go_wp2_with fail
  refine hK.out _ _ (fun _ => hHeld) (fun hS_ => ?_)
  have hHeld := hS_ (by omega)
  clear hS_ hK K
  try simp only [Act.put, List.setIfInBounds_toArray, List.set_cons_zero, List.set_cons_succ]
  refine wpAnyT_takeL [18] (i := 16) (v := ?_) rfl (by kernel_rfl) (by kernel_rfl) (by kernel_rfl) (by kernel_rfl) (fun _ _ _ h => h) (Or.inl ⟨by rfl, ?_⟩) (by with_reducible assumption) ?_
  rotate_left
  · intro w hSw
    have z0 := hSw.a.cell 0
    have z1 := hSw.a.cell 1
    have z2 := hSw.a.cell 2
    have z3 := hSw.a.cell 3
    have z4 := hSw.a.cell 4
    have y0 := hSw.o.cell 0
    have y1 := hSw.o.cell 1
    have y2 := hSw.o.cell 2
    have y3 := hSw.o.cell 3
    have y4 := hSw.o.cell 4
    simp at z0 z1 z2 z3 z4 y0 y1 y2 y3 y4
    go_simp
    try with_reducible rfl
  try simp only [Act.put, List.setIfInBounds_toArray, List.set_cons_zero, List.set_cons_succ]
  refine wpAnyT_takeL [18] (i := 17) (v := ?_) rfl (by kernel_rfl) (by kernel_rfl) (by kernel_rfl) (by kernel_rfl) (fun _ _ _ h => h) (Or.inl ⟨by rfl, ?_⟩) (by with_reducible assumption) ?_
  rotate_left
  · intro w hSw
    have z0 := hSw.a.cell 0
    have z1 := hSw.a.cell 1
    have z2 := hSw.a.cell 2
    have z3 := hSw.a.cell 3
    have z4 := hSw.a.cell 4
    have y0 := hSw.o.cell 0
    have y1 := hSw.o.cell 1
    have y2 := hSw.o.cell 2
    have y3 := hSw.o.cell 3
    have y4 := hSw.o.cell 4
    simp at z0 z1 z2 z3 z4 y0 y1 y2 y3 y4
    go_simp
    try with_reducible rfl
  try simp only [Act.put, List.setIfInBounds_toArray, List.set_cons_zero, List.set_cons_succ]
  refine wpAnyT_ready (rs := [18]) (by kernel_rfl) (by simp) ?_
  refine AllReadyT.cons rfl (fun K hK => ?_) AllReadyT.nil
  have hP := hHeld.p
  have f0 := hP.frozen 0
  have f1 := hP.frozen 1
  have p0 := hP.cell 0
  have p1 := hP.cell 1
  simp at p0 p1
  have HB := Lib.hid hHeld.b
  have lt := hP.lt
  have HQ := Lib.hid (pt_store hP (x + z1) (y + z2)).1
  have HQB := Lib.hid (pt_store hP (x + z1) (y + z2)).2
  clear hP
  go_simp
  refine hK.out _ _ (fun h => absurd h (by omega)) (fun _ => ?_)
  clear hK K
  try simp only [Act.put, List.setIfInBounds_toArray, List.set_cons_zero, List.set_cons_succ]
  refine wpAnyT_done (by kernel_rfl) ?_ _
  refine NoPanic.normal ?_
  have B0 := HB.out.trans (HQB.out.mono (by omega))
  have q0 := HQ.out.cell 0
  have q1 := HQ.out.cell 1
  simp at q0 q1
  go_wp2_with fail
  refine bodyPost_ret (v := .agg #[.int .i64 (x + z1), .int .i64 (y + z2)]) (by simp [results, Tryz.results21, go_sem, *]) rfl ⟨rfl, B0⟩
end Go.Proofs.YtkmcinibaffpmaaGreat

namespace Go.Proofs.YtkmcinibaffpmaaGreat
open Go.ChangeShapes Go.WideShapes Go.ChangeAt Go.RowKit
open Ieee.Format (fin finE htE allFin allHt all_true all_false mulF subF addF Ht Bd divF rootF floorF easeF mixF)
set_option linter.unusedVariables false
open Wide
open Ieee.Format (const_half MoveOk reachF)

set_option maxRecDepth 100000 in
set_option maxHeartbeats 2000000 in
theorem refmove_any (kd s seed cell x y : Int) (n g a : Nat) (pf px py pw : Nat) (w : World) (h1 : 1 ≤ n) (hn : n ≤ 10) (hg : Share g) (c1 : 1 ≤ cell) (c2 : cell ≤ 4096) (ha : fin Ieee.single a ∧ 0 ≤ Ieee.single.V a ∧ Ieee.single.V a ≤ 64) (hx : -8388608 ≤ x) (hx2 : x ≤ 8388608) (hy : -8388608 ≤ y) (hy2 : y ≤ 8388608)
    (A : Blk w pf (frC kd s cell n g) 25) (Bx : Blk w px #[.int .i64 x] 3) (By : Blk w py #[.int .i64 y] 3) (C : Blk w pw (wpC kd seed cell n g a) 27) :
    Calls Tryz.prog 46 #[.pointer (some ⟨pf, 0, none⟩), .pointer (some ⟨px, 0, none⟩), .pointer (some ⟨py, 0, none⟩), .pointer (some ⟨pw, 0, none⟩)] w fun e w' => e = .returned (.int .i64 (moveZ (fracF kd s cell n g x y) a)) ∧ Below w.heap.size w w' := by
  obtain ⟨o1, f1⟩ := warp_ok kd s cell x y h1 hn hg c1 c2 ha
  have m1 := move_in o1
  have KF := Lib.hid (fun w => reffractal_any kd s cell x y n g w hn hg c1 c2 hx hx2 hy hy2)
  have KM := Lib.hid (fun w => ref_mul_ok (fracF kd s cell n g x y) a w f1 ha.1 o1.f1)
  have KA := Lib.hid (fun w => ref_add_ok (mulF (fracF kd s cell n g x y) a) 1056964608 w o1.f1 const_half.1 o1.f2)
  have KL := Lib.hid (fun w => reffloor_any (addF (mulF (fracF kd s cell n g x y) a) 1056964608) o1.f2 (Ieee.Format.addF_lt _ _) w)
  have kc := fun w => run_convert_float_int (P := Tryz.prog) w 23 3 .f32 .i64 (floorF (addF (mulF (fracF kd s cell n g x y) a) 1056964608)) (moveZ (fracF kd s cell n g x y) a) (by kernel_rfl) Tryz.underlying3 m1.1
  clear o1 f1 m1 h1 hn hg c1 c2 ha hx hx2 hy hy2
  generalize moveZ (fracF kd s cell n g x y) a = z at *
  generalize floorF (addF (mulF (fracF kd s cell n g x y) a) 1056964608) = f3 at *
  generalize addF (mulF (fracF kd s cell n g x y) a) 1056964608 = f2 at *
  generalize mulF (fracF kd s cell n g x y) a = f1 at *
  generalize fracF kd s cell n g x y = v at *
  generalize (n : Int) = n at *
  unfold frV at *
  unfold frC at A
  unfold wpC at C
  have p0 := A.cell 0
  have p1 := A.cell 1
  have p2 := A.cell 2
  have p3 := A.cell 3
  have p4 := A.cell 4
  have q0 := Bx.cell 0
  have q1 := By.cell 0
  have r5 := C.cell 5
  simp at p0 p1 p2 p3 p4 q0 q1 r5
  have l0 := A.lt
  have l1 := Bx.lt
  have l2 := By.lt
  have l3 := C.lt
  clear A Bx By C
  go_enter Tryz.func46, Tryz.ntmps46
  go_wp2_with fail
  go_region_held3 (fun w' => w'.cell? ⟨pf, 0, none⟩ = some (.int .i64 kd) ∧ w'.cell? ⟨pf, 1, none⟩ = some (.int .u32 s) ∧ w'.cell? ⟨pf, 2, none⟩ = some (.int .i64 cell) ∧ w'.cell? ⟨pf, 3, none⟩ = some (.int .i64 n) ∧ w'.cell? ⟨pf, 4, none⟩ = some (.float .f32 g) ∧ w'.cell? ⟨px, 0, none⟩ = some (.int .i64 x) ∧ w'.cell? ⟨py, 0, none⟩ = some (.int .i64 y) ∧ w'.cell? ⟨pw, 5, none⟩ = some (.float .f32 a) ∧ Below w.heap.size w w')
    (first
      | exact ⟨p0, p1, p2, p3, p4, q0, q1, r5, (Below.refl _ _).drew⟩
      | (go_split_ands
         have hs := hb.size
         have hs2 := (show Below w.heap.size w _ by assumption).size
         refine ⟨?_, ?_, ?_, ?_, ?_, ?_, ?_, ?_, ?_⟩
         all_goals first
           | (rw [hb.cell (by simp; omega)]; assumption)
           | exact Below.trans (by assumption) (hb.mono (by omega)))
      | (go_split_ands; refine ⟨?_, ?_, ?_, ?_, ?_, ?_, ?_, ?_, ?_⟩ <;> assumption))
    (first
      | (go_at_call 48; go_split_ands; refine (KF.out _).mono ?_; rintro e2 w2 ⟨rfl, hb⟩)
      | (go_at_call 32; go_split_ands; refine (KM.out _).mono ?_; rintro e2 w2 ⟨rfl, rfl⟩)
      | (go_at_call 47; go_split_ands; refine (KA.out _).mono ?_; rintro e2 w2 ⟨rfl, rfl⟩)
      | (go_at_call 31; go_split_ands; refine (KL.out _).mono ?_; rintro e2 w2 ⟨rfl, rfl⟩))
  all_goals
    rename_i hHeld
    have HB := Lib.hid hHeld.2.2.2.2.2.2.2.2
    clear hHeld
    go_wp2_with fail
    go_ret
    exact ⟨rfl, HB.out⟩
end Go.Proofs.YtkmcinibaffpmaaGreat

namespace Go.Proofs.YtkmcinibaffpmaaGreat
open Go.ChangeShapes Go.WideShapes Go.ChangeAt Go.RowKit
open Ieee.Format (fin finE htE allFin allHt all_true all_false mulF subF addF Ht Bd divF rootF floorF easeF mixF)
set_option linter.unusedVariables false
open Wide
open Ieee.Format (const_half MoveOk reachF)

/-- what the reference's warp keeps -/
structure WqS (w : World) (kd seed cell n : Int) (g a : Nat) (x y s : Int) (wr : World) : Prop where
  a : Blk wr w.heap.size #[.int .i64 kd, .int .u32 seed, .int .i64 cell, .int .i64 n, .float .f32 g, .float .f32 a] 27
  x : Blk wr (w.heap.size + 1) #[.int .i64 x] 3
  y : Blk wr (w.heap.size + 1 + 1) #[.int .i64 y] 3
  p : Blk wr (w.heap.size + 1 + 1 + 1) #[.int .i64 0, .int .i64 0] 37
  o : Blk wr (w.heap.size + 1 + 1 + 1 + 1) #[.int .i64 kd, .int .u32 s, .int .i64 cell, .int .i64 n, .float .f32 g] 25
  b : Below w.heap.size w wr
theorem WqS.below {w wr w2 : World} {kd seed cell n x y s : Int} {g a : Nat} (h : WqS w kd seed cell n g a x y s wr) (hb : Below wr.heap.size wr w2) : WqS w kd seed cell n g a x y s w2 :=
  ⟨h.a.below hb h.a.lt, h.x.below hb h.x.lt, h.y.below hb h.y.lt, h.p.below hb h.p.lt, h.o.below hb h.o.lt, h.b.trans (hb.mono h.b.size)⟩
theorem WqS.drew {w wr : World} {kd seed cell n x y s : Int} {g a : Nat} (h : WqS w kd seed cell n g a x y s wr) : WqS w kd seed cell n g a x y s wr.drew := ⟨h.a.drew, h.x.drew, h.y.drew, h.p.drew, h.o.drew, h.b.drew⟩
theorem WqS.seed {w wr : World} {kd seed cell n x y s : Int} {g a : Nat} (h : WqS w kd seed cell n g a x y s wr) (s2 : Int) : WqS w kd seed cell n g a x y s2 (wr.setCell ⟨w.heap.size + 1 + 1 + 1 + 1, 1, none⟩ (.int .u32 s2)) := by
  obtain ⟨u, v⟩ := fr_seed h.o s2
  exact ⟨h.a.below v (by omega), h.x.below v (by omega), h.y.below v (by omega), h.p.below v (by omega), u, h.b.trans (v.mono (by omega))⟩
theorem wq_start (w : World) (kd seed cell n x y : Int) (g a : Nat) : ∀ W0, W0 = ((((w.alloc (.cells #[.int .i64 kd, .int .u32 seed, .int .i64 cell, .int .i64 n, .float .f32 g, .float .f32 a] 27)).alloc (.cells #[.int .i64 x] 3)).alloc (.cells #[.int .i64 y] 3)).alloc (.cells #[.int .i64 0, .int .i64 0] 37)).alloc (.cells #[.int .i64 kd, .int .u32 seed, .int .i64 cell, .int .i64 n, .float .f32 g] 25) → WqS w kd seed cell n g a x y seed W0 := by
  rintro _ rfl
  refine ⟨((((Blk.new _ _ _).alloc _).alloc _).alloc _).alloc _, ?_, ?_, ?_, ?_, (by repeat (first | with_reducible exact Below.refl _ _ | with_reducible apply Below.drew | with_reducible refine below_drewN ?_ _ | (with_reducible refine Below.setCell ?_ ?_ _; rotate_left; focus (first | omega | (simp <;> omega))) | (with_reducible refine Below.alloc ?_ ?_ _; rotate_left; focus (first | omega | (simp <;> omega)))))⟩
  · have := (((Blk.new (w.alloc (.cells #[.int .i64 kd, .int .u32 seed, .int .i64 cell, .int .i64 n, .float .f32 g, .float .f32 a] 27)) #[.int .i64 x] 3).alloc (.cells #[.int .i64 y] 3)).alloc (.cells #[.int .i64 0, .int .i64 0] 37)).alloc (.cells #[.int .i64 kd, .int .u32 seed, .int .i64 cell, .int .i64 n, .float .f32 g] 25)
    simpa using this
  · have := ((Blk.new ((w.alloc (.cells #[.int .i64 kd, .int .u32 seed, .int .i64 cell, .int .i64 n, .float .f32 g, .float .f32 a] 27)).alloc (.cells #[.int .i64 x] 3)) #[.int .i64 y] 3).alloc (.cells #[.int .i64 0, .int .i64 0] 37)).alloc (.cells #[.int .i64 kd, .int .u32 seed, .int .i64 cell, .int .i64 n, .float .f32 g] 25)
    simpa using this
  · have := (Blk.new (((w.alloc (.cells #[.int .i64 kd, .int .u32 seed, .int .i64 cell, .int .i64 n, .float .f32 g, .float .f32 a] 27)).alloc (.cells #[.int .i64 x] 3)).alloc (.cells #[.int .i64 y] 3)) #[.int .i64 0, .int .i64 0] 37).alloc (.cells #[.int .i64 kd, .int .u32 seed, .int .i64 cell, .int .i64 n, .float .f32 g] 25)
    simpa using this
  · have := Blk.new ((((w.alloc (.cells #[.int .i64 kd, .int .u32 seed, .int .i64 cell, .int .i64 n, .float .f32 g, .float .f32 a] 27)).alloc (.cells #[.int .i64 x] 3)).alloc (.cells #[.int .i64 y] 3)).alloc (.cells #[.int .i64 0, .int .i64 0] 37)) #[.int .i64 kd, .int .u32 seed, .int .i64 cell, .int .i64 n, .float .f32 g] 25
    simpa using this
set_option maxRecDepth 100000 in
set_option maxHeartbeats 2000000 in
theorem refwarp_any (kd seed cell x y : Int) (n g a : Nat) (w : World) (h1 : 1 ≤ n) (hn : n ≤ 10) (hg : Share g) (c1 : 1 ≤ cell) (c2 : cell ≤ 4096) (ha : fin Ieee.single a ∧ 0 ≤ Ieee.single.V a ∧ Ieee.single.V a ≤ 64) (hx : -8388608 ≤ x) (hx2 : x ≤ 8388608) (hy : -8388608 ≤ y) (hy2 : y ≤ 8388608) :
    Calls Tryz.prog 23 #[wpV kd seed cell n g a, .int .i64 x, .int .i64 y] w fun e w' => e = .returned (ptV (warpP kd seed cell n g a x y)) ∧ Below w.heap.size w w' := by
  obtain ⟨o1, _⟩ := warp_ok kd seed cell x y h1 hn hg c1 c2 ha
  obtain ⟨o2, _⟩ := warp_ok kd (hashTo seed 1 1 5 3) cell x y h1 hn hg c1 c2 ha
  have m1 := move_in o1
  have m2 := move_in o2
  have KM := Lib.hid (fun s pf px py pw w A Bx By C => refmove_any kd s seed cell x y n g a pf px py pw w h1 hn hg c1 c2 ha hx hx2 hy hy2 A Bx By C)
  have KH := Lib.hid (fun w => hash2_bel seed 1 1 5 w)
  have eg : ∀ args w, (callFunc 46 args).run Tryz.prog w = .ok (.enter 46 args) w := enters_of Tryz.func46 (by kernel_rfl) rfl
  unfold warpP ptV
  simp only
  clear o1 o2 hg h1 hn c1 c2 ha
  generalize hz1 : moveZ (fracF kd seed cell n g x y) a = z1 at *
  generalize hs2 : hashTo seed 1 1 5 3 = s2 at *
  generalize hz2 : moveZ (fracF kd s2 cell n g x y) a = z2 at *
  have KM1 := Lib.hid (fun pf px py pw w A Bx By C => KM.out seed pf px py pw w A Bx By C)
  have KM2 := Lib.hid (fun pf px py pw w A Bx By C => KM.out s2 pf px py pw w A Bx By C)
  rw [hz1] at KM1
  rw [hz2] at KM2
  have w1' : IntKind.i64.wrap (x + z1) = x + z1 := IntWalk.i64_in _ (by omega)
  have w2' : IntKind.i64.wrap (y + z2) = y + z2 := IntWalk.i64_in _ (by omega)
  clear m1 m2 hx hx2 hy hy2 hz1 hs2 hz2 KM
  unfold wpC frC at *
  generalize (n : Int) = n at *
  unfold wpV
  go_enter Tryz.func23, Tryz.ntmps23
  go_upto_region 2 with fail
  generalize hW0 : ((((w.alloc (.cells #[.int .i64 kd, .int .u32 seed, .int .i64 cell, .int .i64 n, .float .f32 g, .float .f32 a] 27)).alloc (.cells #[.int .i64 x] 3)).alloc (.cells #[.int .i64 y] 3)).alloc (.cells #[.int .i64 0, .int .i64 0] 37)).alloc (.cells #[.int .i64 kd, .int .u32 seed, .int .i64 cell, .int .i64 n, .float .f32 g] 25) = W0 at *
  have S0 := Lib.hid (wq_start w kd seed cell n x y g a W0 hW0.symm)
  clear hW0
  have C1 := Lib.hid (KM1.out _ _ _ _ _ S0.out.o S0.out.x S0.out.y S0.out.a)
  go_wp2_with fail
  refine C1.out.mono ?_
  rintro e w1 ⟨rfl, b1⟩
  have S1 := Lib.hid (S0.out.below b1)
  clear b1 C1 S0 KM1
  have p0 := S1.out.a.cell 0
  have p1 := S1.out.a.cell 1
  have p2 := S1.out.a.cell 2
  have p3 := S1.out.a.cell 3
  have p4 := S1.out.a.cell 4
  have q1 := S1.out.x.cell 0
  have q2 := S1.out.y.cell 0
  have o0 := S1.out.o.cell 0
  have o1 := S1.out.o.cell 1
  have o2 := S1.out.o.cell 2
  have o3 := S1.out.o.cell 3
  have o4 := S1.out.o.cell 4
  simp at p0 p1 p2 p3 p4 q1 q2 o0 o1 o2 o3 o4
  have l0 := S1.out.a.lt
  have l1 := S1.out.x.lt
  have l2 := S1.out.y.lt
  have l3 := S1.out.p.lt
  have l4 := S1.out.o.lt
  have f1 := S1.out.o.frozen 1
  go_wp2_with fail
  refine (KH.out _).mono ?_
  rintro e w2 ⟨rfl, b2⟩
  have S2 := Lib.hid (S1.out.below b2)
  clear b2 S1 KH
  clear p0 p1 p2 p3 p4 q1 q2 o0 o1 o2 o3 o4 l0 l1 l2 l3 l4 f1
  have p0 := S2.out.a.cell 0
  have p1 := S2.out.a.cell 1
  have p2 := S2.out.a.cell 2
  have p3 := S2.out.a.cell 3
  have p4 := S2.out.a.cell 4
  have q1 := S2.out.x.cell 0
  have q2 := S2.out.y.cell 0
  have o0 := S2.out.o.cell 0
  have o1 := S2.out.o.cell 1
  have o2 := S2.out.o.cell 2
  have o3 := S2.out.o.cell 3
  have o4 := S2.out.o.cell 4
  simp at p0 p1 p2 p3 p4 q1 q2 o0 o1 o2 o3 o4
  have l0 := S2.out.a.lt
  have l1 := S2.out.x.lt
  have l2 := S2.out.y.lt
  have l3 := S2.out.p.lt
  have l4 := S2.out.o.lt
  have f1 := S2.out.o.frozen 1
  go_upto_region 5 with fail
  have S3 := Lib.hid (S2.out.seed s2)
  generalize w2.setCell ⟨w.heap.size + 1 + 1 + 1 + 1, 1, none⟩ (.int .u32 s2) = w3 at *
  clear S2
  clear p0 p1 p2 p3 p4 q1 q2 o0 o1 o2 o3 o4 l0 l1 l2 l3 l4 f1
  refine wp_region_noPanic ?_
  refine wp_region_heldT (WqS w kd seed cell n g a x y s2) 8 (by kernel_rfl) S3.out.drew (fun hHeld => ?_)
  refine wpAnyT_takeL [8] (i := 0) (v := ?_) rfl (by kernel_rfl) (by kernel_rfl) (by kernel_rfl) (by kernel_rfl) (fun _ _ _ h => h) (Or.inl ⟨by rfl, ?_⟩) (by with_reducible assumption) ?_
  rotate_left
  · intro w hSw
    have z0 := hSw.x.cell 0
    have z1 := hSw.y.cell 0
    simp at z0 z1
    go_simp
    try with_reducible rfl
  try simp only [Act.put, List.setIfInBounds_toArray, List.set_cons_zero, List.set_cons_succ]
  refine wpAnyT_takeL [8] (i := 1) (v := ?_) rfl (by kernel_rfl) (by kernel_rfl) (by kernel_rfl) (by kernel_rfl) (fun _ _ _ h => h) (Or.inl ⟨by rfl, ?_⟩) (by with_reducible assumption) ?_
  rotate_left
  · intro w hSw
    have z0 := hSw.x.cell 0
    have z1 := hSw.y.cell 0
    simp at z0 z1
    go_simp
    try with_reducible rfl
  try simp only [Act.put, List.setIfInBounds_toArray, List.set_cons_zero, List.set_cons_succ]
  refine wpAnyT_takeL [8] (i := 2) (v := ?_) rfl (by kernel_rfl) (by kernel_rfl) (by kernel_rfl) (by kernel_rfl) (fun _ _ _ h => h) (Or.inl ⟨by rfl, ?_⟩) (by with_reducible assumption) ?_
  rotate_left
  · intro w hSw
    have z0 := hSw.x.cell 0
    have z1 := hSw.y.cell 0
    simp at z0 z1
    go_simp
    try with_reducible rfl
  try simp only [Act.put, List.setIfInBounds_toArray, List.set_cons_zero, List.set_cons_succ]
  refine wpAnyT_takeL [8] (i := 3) (v := ?_) rfl (by kernel_rfl) (by kernel_rfl) (by kernel_rfl) (by kernel_rfl) (fun _ _ _ h => h) (Or.inl ⟨by rfl, ?_⟩) (by with_reducible assumption) ?_
  rotate_left
  · intro w hSw
    have z0 := hSw.x.cell 0
    have z1 := hSw.y.cell 0
    simp at z0 z1
    go_simp
    try with_reducible rfl
  try simp only [Act.put, List.setIfInBounds_toArray, List.set_cons_zero, List.set_cons_succ]
  refine wpAnyT_takeL [8] (i := 4) (v := ?_) rfl (by kernel_rfl) (by kernel_rfl) (by kernel_rfl) (by kernel_rfl) (fun _ _ _ h => h) (Or.inl ⟨by rfl, ?_⟩) (by with_reducible assumption) ?_
  rotate_left
  · intro w hSw
    have z0 := hSw.x.cell 0
    have z1 := hSw.y.cell 0
    simp at z0 z1
    go_simp
    try with_reducible rfl
  try simp only [Act.put, List.setIfInBounds_toArray, List.set_cons_zero, List.set_cons_succ]
  refine wpAnyT_ready (rs := [5]) (by kernel_rfl) (by simp) ?_
  refine AllReadyT.cons rfl (fun K hK => ?_) AllReadyT.nil
  go_simp
  (with_reducible refine (KM2.out _ _ _ _ _ hHeld.o hHeld.x hHeld.y hHeld.a).mono ?_)
  rintro e w2 ⟨rfl, hb⟩
  have hN := hHeld.below hb
  go_wp2_with fail
  refine hK.out _ _ (fun _ => hN) (fun hS_ => ?_)
  have hHeld := hS_ (by omega)
  clear hS_ hK K
  try simp only [Act.put, List.setIfInBounds_toArray, List.set_cons_zero, List.set_cons_succ]
  refine wpAnyT_takeL [8] (i := 6) (v := ?_) rfl (by kernel_rfl) (by kernel_rfl) (by kernel_rfl) (by kernel_rfl) (fun _ _ _ h => h) (Or.inl ⟨by rfl, ?_⟩) (by with_reducible assumption) ?_
  rotate_left
  · intro w hSw
    have z0 := hSw.x.cell 0
    have z1 := hSw.y.cell 0
    simp at z0 z1
    go_simp
    try with_reducible rfl
  try simp only [Act.put, List.setIfInBounds_toArray, List.set_cons_zero, List.set_cons_succ]
  refine wpAnyT_takeL [8] (i := 7) (v := ?_) rfl (by kernel_rfl) (by kernel_rfl) (by kernel_rfl) (by kernel_rfl) (fun _ _ _ h => h) (Or.inl ⟨by rfl, ?_⟩) (by with_reducible assumption) ?_
  rotate_left
  · intro w hSw
    have z0 := hSw.x.cell 0
    have z1 := hSw.y.cell 0
    simp at z0 z1
    go_simp
    try with_reducible rfl
  try simp only [Act.put, List.setIfInBounds_toArray, List.set_cons_zero, List.set_cons_succ]
  refine wpAnyT_ready (rs := [8]) (by kernel_rfl) (by simp) ?_
  refine AllReadyT.cons rfl (fun K hK => ?_) AllReadyT.nil
  have hP := hHeld.p
  have f0 := hP.frozen 0
  have f1 := hP.frozen 1
  have p0 := hP.cell 0
  have p1 := hP.cell 1
  simp at p0 p1
  have HB := Lib.hid hHeld.b
  have lt := hP.lt
  have HQ := Lib.hid (pt_store hP (x + z1) (y + z2)).1
  have HQB := Lib.hid (pt_store hP (x + z1) (y + z2)).2
  clear hP
  go_simp
  refine hK.out _ _ (fun h => absurd h (by omega)) (fun _ => ?_)
  clear hK K
  try simp only [Act.put, List.setIfInBounds_toArray, List.set_cons_zero, List.set_cons_succ]
  refine wpAnyT_done (by kernel_rfl) ?_ _
  refine NoPanic.normal ?_
  have B0 := HB.out.trans (HQB.out.mono (by omega))
  have q0 := HQ.out.cell 0
  have q1 := HQ.out.cell 1
  simp at q0 q1
  go_wp2_with fail
  refine bodyPost_ret (v := .agg #[.int .i64 (x + z1), .int .i64 (y + z2)]) (by simp [results, Tryz.results23, go_sem, *]) rfl ⟨rfl, B0⟩
end Go.Proofs.YtkmcinibaffpmaaGreat

namespace Go.Proofs.YtkmcinibaffpmaaGreat
open Go.ChangeShapes Go.WideShapes Go.ChangeAt Go.RowKit
open Ieee.Format (fin finE htE allFin allHt all_true all_false mulF subF addF Ht Bd divF rootF floorF easeF mixF)
set_option linter.unusedVariables false
open Wide
open Ieee.Format (const_half MoveOk reachF)

/-- what a warped field has at a place -/
def wpdV (kd seed cell : Int) (n g a : Nat) (X Y : Int) (Wn Hn : Nat) (l : List Nat) (x y : Int) : Nat :=
  if inR X Y Wn Hn (warpP kd seed cell n g a x y).1 (warpP kd seed cell n g a x y).2 then l.getD (cellNo X Y Wn (warpP kd seed cell n g a x y).1 (warpP kd seed cell n g a x y).2).toNat 0 else 0
def wpdB (kd seed cell : Int) (n g a : Nat) (X Y : Int) (Wn Hn : Nat) (x y : Int) : Bool := decide (inR X Y Wn Hn (warpP kd seed cell n g a x y).1 (warpP kd seed cell n g a x y).2)
theorem wset_but (B : Nat) (q : Nat → Prop) (w : World) (p : Addr) (u : Value) (h : q p.block) : But B q w (w.setCell p u) :=
  ⟨rfl, rfl, rfl, by simp, fun k _ hk => Below.heap_setCell w p u k (fun e => hk (e ▸ h))⟩
theorem wrow_set {W : World} {b : Nat} {l : List Nat} (h : SRow W (some ⟨b, 0, none⟩) l) (p : Addr) (u : Value) (hp : b ≠ p.block) : SRow (W.setCell p u) (some ⟨b, 0, none⟩) l := by
  obtain ⟨h1, h2⟩ := h
  refine ⟨h1, ?_⟩
  rcases h2 with h2 | ⟨b', o', e, hc⟩
  · exact .inl h2
  · refine .inr ⟨b', o', e, fun i hi => ?_⟩
    have : b' = b := by simp at e; exact e.1.symm
    subst this
    exact (World.cell?_of_block (Below.heap_setCell W p u b' hp)).trans (hc i hi)
/-- what the warped field's function holds -/
structure WpJ (N0 kw kf ko b c : Nat) (kd seed cell n : Int) (g a : Nat) (X Y : Int) (Wn Hn : Nat) (l : List Nat) (B : Bool) (W : World) : Prop where
  wp : Blk W kw #[.int .i64 kd, .int .u32 seed, .int .i64 cell, .int .i64 n, .float .f32 g, .float .f32 a] 27
  fo : Fld W kf X Y Wn Hn (.slice (some ⟨b, 0, none⟩) l.length c)
  ok : W.heap[ko]? = some (.cells #[.bool B] 4 (0, 0))
  row : SRow W (some ⟨b, 0, none⟩) l
  lt : kw < N0 ∧ kf < N0 ∧ ko < N0 ∧ b < N0
  ne : kw ≠ ko ∧ kf ≠ ko ∧ b ≠ ko
  sz : N0 ≤ W.heap.size
section
variable {N0 kw kf ko b c : Nat} {kd seed cell n : Int} {g a : Nat} {X Y : Int} {Wn Hn : Nat} {l : List Nat} {B : Bool} {W W' : World}
theorem WpJ.under (h : WpJ N0 kw kf ko b c kd seed cell n g a X Y Wn Hn l B W) (hb : Below N0 W W') : WpJ N0 kw kf ko b c kd seed cell n g a X Y Wn Hn l B W' := by
  obtain ⟨l1, l2, l3, l4⟩ := h.lt
  exact ⟨h.wp.below hb l1, h.fo.below hb l2, (hb.block _ l3).trans h.ok, h.row.under hb l4, h.lt, h.ne, Nat.le_trans h.sz hb.size⟩
theorem WpJ.set (h : WpJ N0 kw kf ko b c kd seed cell n g a X Y Wn Hn l B W) (B' : Bool) : WpJ N0 kw kf ko b c kd seed cell n g a X Y Wn Hn l B' (W.setCell ⟨ko, 0, none⟩ (.bool B')) := by
  obtain ⟨n1, n2, n3⟩ := h.ne
  refine ⟨?_, h.fo.setCell n2 _, heap_setCell_same W ko 0 _ _ _ h.ok, wrow_set h.row _ _ n3, h.lt, h.ne, by simpa using h.sz⟩
  have := h.wp
  unfold Blk at *
  exact (Below.heap_setCell W _ _ kw n1).trans this
theorem WpJ.cellok (h : WpJ N0 kw kf ko b c kd seed cell n g a X Y Wn Hn l B W) : W.cell? ⟨ko, 0, none⟩ = some (.bool B) ∧ W.frozen? ⟨ko, 0, none⟩ = false := ⟨cell_of_row W ko 0 _ _ _ h.ok, frozen_of_row W ko 0 _ _ h.ok⟩
end
set_option maxRecDepth 100000 in
set_option maxHeartbeats 2000000 in
theorem wpfld_any {N0 kw kf ko b c : Nat} {kd seed cell : Int} {n g a : Nat} {X Y : Int} {Wn Hn : Nat} {l : List Nat} {B : Bool} (x y : Int) (w : World) (h : WpJ N0 kw kf ko b c kd seed cell n g a X Y Wn Hn l B w) (hr : Right X Y Wn Hn l)
    (h1 : 1 ≤ n) (hn : n ≤ 10) (hg : Share g) (c1 : 1 ≤ cell) (c2 : cell ≤ 4096) (ha : fin Ieee.single a ∧ 0 ≤ Ieee.single.V a ∧ Ieee.single.V a ≤ 64) (hx : -8388608 ≤ x) (hx2 : x ≤ 8388608) (hy : -8388608 ≤ y) (hy2 : y ≤ 8388608) :
    Calls Tryz.prog 29 #[.int .i64 x, .int .i64 y, .pointer (some ⟨kw, 0, none⟩), .pointer (some ⟨kf, 0, none⟩), .pointer (some ⟨ko, 0, none⟩)] w fun e w' => e = .returned (.float .f32 (wpdV kd seed cell n g a X Y Wn Hn l x y)) ∧ But w.heap.size (fun k => k = ko) w w' ∧ WpJ N0 kw kf ko b c kd seed cell n g a X Y Wn Hn l (B && wpdB kd seed cell n g a X Y Wn Hn x y) w' := by
  have KW := Lib.hid (fun w => warp_any kd seed cell x y n g a w h1 hn hg c1 c2 ha hx hx2 hy hy2)
  have g1 := hr.w1; have g2 := hr.w2; have g3 := hr.h1; have g4 := hr.h2; have g5 := hr.x1; have g6 := hr.x2; have g7 := hr.y1; have g8 := hr.y2
  unfold wpdV wpdB
  obtain ⟨m1, m2, m3, m4⟩ : -8390657 ≤ (warpP kd seed cell n g a x y).1 ∧ (warpP kd seed cell n g a x y).1 ≤ 8390657 ∧ -8390657 ≤ (warpP kd seed cell n g a x y).2 ∧ (warpP kd seed cell n g a x y).2 ≤ 8390657 := by
    obtain ⟨o1, _⟩ := warp_ok kd seed cell x y h1 hn hg c1 c2 ha
    obtain ⟨o2, _⟩ := warp_ok kd (hashTo seed 1 1 5 3) cell x y h1 hn hg c1 c2 ha
    have q1 := move_in o1
    have q2 := move_in o2
    unfold warpP
    simp only
    omega
  unfold ptV at KW
  have HJ0 := Lib.hid h
  clear h h1 hn hg c1 c2 ha hx hx2 hy hy2
  generalize (warpP kd seed cell n g a x y).1 = px at *
  generalize (warpP kd seed cell n g a x y).2 = py at *
  unfold wpV at KW
  generalize (n : Int) = n at *
  by_cases hin : inR X Y Wn Hn px py
  · obtain ⟨ek, kl⟩ := cell_in g1 g2 g3 g4 hin
    rw [if_pos hin, decide_eq_true hin]
    have KP := Lib.hid (fun w => place_in X Y Wn Hn px py _ w g1 g2 g3 g4 (by omega) (by omega) (by omega) (by omega) hin ek)
    rw [← hr.len] at kl
    generalize (cellNo X Y Wn px py).toNat = k at *
    obtain ⟨v, hv⟩ : ∃ v, v = l.getD k 0 := ⟨_, rfl⟩
    rw [← hv]
    have HV := Lib.hid hv
    clear hin ek g1 g2 g3 g4 g5 g6 g7 g8 hr m1 m2 m3 m4 hv
    cases B
    · have p0 := HJ0.out.wp.cell 0
      have p1 := HJ0.out.wp.cell 1
      have p2 := HJ0.out.wp.cell 2
      have p3 := HJ0.out.wp.cell 3
      have p4 := HJ0.out.wp.cell 4
      have p5 := HJ0.out.wp.cell 5
      simp at p0 p1 p2 p3 p4 p5
      have l0 := HJ0.out.wp.lt
      go_enter Tryz.func29, Tryz.ntmps29
      go_wp2_with fail
      refine (KW.out _).mono ?_
      rintro e w1 ⟨rfl, b1⟩
      have HB1 := Lib.hid b1
      have HJ1 := Lib.hid (HJ0.out.under (b1.mono HJ0.out.sz))
      clear b1 HJ0 KW
      clear p0 p1 p2 p3 p4 p5 l0
      go_upto_region 2 with fail
      have A2 := (Blk.new w1 #[.int .i64 px, .int .i64 py] 37)
      have b2 : Below w1.heap.size w1 (w1.alloc (.cells #[.int .i64 px, .int .i64 py] 37)) := (by repeat (first | with_reducible exact Below.refl _ _ | with_reducible apply Below.drew | with_reducible refine below_drewN ?_ _ | (with_reducible refine Below.setCell ?_ ?_ _; rotate_left; focus (first | omega | (simp <;> omega))) | (with_reducible refine Below.alloc ?_ ?_ _; rotate_left; focus (first | omega | (simp <;> omega)))))
      have HB2 := Lib.hid (HB1.out.trans (b2.mono HB1.out.size))
      have HJ2 := Lib.hid (HJ1.out.under (b2.mono HJ1.out.sz))
      clear b2 HB1 HJ1
      generalize w1.alloc (.cells #[.int .i64 px, .int .i64 py] 37) = w2 at *
      obtain ⟨f0, f1, f2, f3, f4⟩ := HJ2.out.fo.cells
      have lf := HJ2.out.fo.lt
      have t0 := A2.cell 0
      have t1 := A2.cell 1
      simp at t0 t1
      have lt' := A2.lt
      clear A2
      generalize w1.heap.size = k9 at *
      go_wp2_with fail
      refine (KP.out _).mono ?_
      rintro e w3 ⟨rfl, b3⟩
      have HB3 := Lib.hid (HB2.out.trans (b3.mono HB2.out.size))
      have HJ3 := Lib.hid (HJ2.out.under (b3.mono HJ2.out.sz))
      clear b3 HB2 HJ2 f0 f1 f2 f3 f4 lf t0 t1 lt' KP
      obtain ⟨o1, o2⟩ := HJ3.out.cellok
      go_upto_region 4 with fail
      have HJ4 := Lib.hid (HJ3.out.set false)
      have HU4 := Lib.hid ((But.of HB3.out).trans (wset_but w3.heap.size (fun k => k = ko) w3 ⟨ko, 0, none⟩ (.bool false) rfl |>.mono HB3.out.size))
      generalize w3.setCell ⟨ko, 0, none⟩ (.bool false) = w4 at *
      clear HJ3 HB3 o1 o2
      have hcl := HJ4.out.row.at_ kl
      rw [Nat.zero_add, ← HV.out] at hcl
      have hbl := HJ4.out.lt.2.2.2
      have hsz := HJ4.out.sz
      have lb : b < w4.heap.size := by omega
      obtain ⟨f0, f1, f2, f3, f4⟩ := HJ4.out.fo.cells
      have lf := HJ4.out.fo.lt
      have kI : (k : Int) < (l.length : Int) := by omega
      go_wp2_with fail
      go_ret
      exact ⟨rfl, HU4.out, HJ4.out⟩
    · have p0 := HJ0.out.wp.cell 0
      have p1 := HJ0.out.wp.cell 1
      have p2 := HJ0.out.wp.cell 2
      have p3 := HJ0.out.wp.cell 3
      have p4 := HJ0.out.wp.cell 4
      have p5 := HJ0.out.wp.cell 5
      simp at p0 p1 p2 p3 p4 p5
      have l0 := HJ0.out.wp.lt
      go_enter Tryz.func29, Tryz.ntmps29
      go_wp2_with fail
      refine (KW.out _).mono ?_
      rintro e w1 ⟨rfl, b1⟩
      have HB1 := Lib.hid b1
      have HJ1 := Lib.hid (HJ0.out.under (b1.mono HJ0.out.sz))
      clear b1 HJ0 KW
      clear p0 p1 p2 p3 p4 p5 l0
      go_upto_region 2 with fail
      have A2 := (Blk.new w1 #[.int .i64 px, .int .i64 py] 37)
      have b2 : Below w1.heap.size w1 (w1.alloc (.cells #[.int .i64 px, .int .i64 py] 37)) := (by repeat (first | with_reducible exact Below.refl _ _ | with_reducible apply Below.drew | with_reducible refine below_drewN ?_ _ | (with_reducible refine Below.setCell ?_ ?_ _; rotate_left; focus (first | omega | (simp <;> omega))) | (with_reducible refine Below.alloc ?_ ?_ _; rotate_left; focus (first | omega | (simp <;> omega)))))
      have HB2 := Lib.hid (HB1.out.trans (b2.mono HB1.out.size))
      have HJ2 := Lib.hid (HJ1.out.under (b2.mono HJ1.out.sz))
      clear b2 HB1 HJ1
      generalize w1.alloc (.cells #[.int .i64 px, .int .i64 py] 37) = w2 at *
      obtain ⟨f0, f1, f2, f3, f4⟩ := HJ2.out.fo.cells
      have lf := HJ2.out.fo.lt
      have t0 := A2.cell 0
      have t1 := A2.cell 1
      simp at t0 t1
      have lt' := A2.lt
      clear A2
      generalize w1.heap.size = k9 at *
      go_wp2_with fail
      refine (KP.out _).mono ?_
      rintro e w3 ⟨rfl, b3⟩
      have HB3 := Lib.hid (HB2.out.trans (b3.mono HB2.out.size))
      have HJ3 := Lib.hid (HJ2.out.under (b3.mono HJ2.out.sz))
      clear b3 HB2 HJ2 f0 f1 f2 f3 f4 lf t0 t1 lt' KP
      obtain ⟨o1, o2⟩ := HJ3.out.cellok
      go_upto_region 4 with fail
      have HJ4 := Lib.hid (HJ3.out.set true)
      have HU4 := Lib.hid ((But.of HB3.out).trans (wset_but w3.heap.size (fun k => k = ko) w3 ⟨ko, 0, none⟩ (.bool true) rfl |>.mono HB3.out.size))
      generalize w3.setCell ⟨ko, 0, none⟩ (.bool true) = w4 at *
      clear HJ3 HB3 o1 o2
      have hcl := HJ4.out.row.at_ kl
      rw [Nat.zero_add, ← HV.out] at hcl
      have hbl := HJ4.out.lt.2.2.2
      have hsz := HJ4.out.sz
      have lb : b < w4.heap.size := by omega
      obtain ⟨f0, f1, f2, f3, f4⟩ := HJ4.out.fo.cells
      have lf := HJ4.out.fo.lt
      have kI : (k : Int) < (l.length : Int) := by omega
      go_wp2_with fail
      go_ret
      exact ⟨rfl, HU4.out, HJ4.out⟩
  · rw [if_neg hin, decide_eq_false hin]
    have KP := Lib.hid (fun w => place_out X Y Wn Hn px py w g1 g2 g3 g4 (by omega) (by omega) (by omega) (by omega) hin)
    clear hin g1 g2 g3 g4 g5 g6 g7 g8 hr m1 m2 m3 m4
    cases B
    · have p0 := HJ0.out.wp.cell 0
      have p1 := HJ0.out.wp.cell 1
      have p2 := HJ0.out.wp.cell 2
      have p3 := HJ0.out.wp.cell 3
      have p4 := HJ0.out.wp.cell 4
      have p5 := HJ0.out.wp.cell 5
      simp at p0 p1 p2 p3 p4 p5
      have l0 := HJ0.out.wp.lt
      go_enter Tryz.func29, Tryz.ntmps29
      go_wp2_with fail
      refine (KW.out _).mono ?_
      rintro e w1 ⟨rfl, b1⟩
      have HB1 := Lib.hid b1
      have HJ1 := Lib.hid (HJ0.out.under (b1.mono HJ0.out.sz))
      clear b1 HJ0 KW
      clear p0 p1 p2 p3 p4 p5 l0
      go_upto_region 2 with fail
      have A2 := (Blk.new w1 #[.int .i64 px, .int .i64 py] 37)
      have b2 : Below w1.heap.size w1 (w1.alloc (.cells #[.int .i64 px, .int .i64 py] 37)) := (by repeat (first | with_reducible exact Below.refl _ _ | with_reducible apply Below.drew | with_reducible refine below_drewN ?_ _ | (with_reducible refine Below.setCell ?_ ?_ _; rotate_left; focus (first | omega | (simp <;> omega))) | (with_reducible refine Below.alloc ?_ ?_ _; rotate_left; focus (first | omega | (simp <;> omega)))))
      have HB2 := Lib.hid (HB1.out.trans (b2.mono HB1.out.size))
      have HJ2 := Lib.hid (HJ1.out.under (b2.mono HJ1.out.sz))
      clear b2 HB1 HJ1
      generalize w1.alloc (.cells #[.int .i64 px, .int .i64 py] 37) = w2 at *
      obtain ⟨f0, f1, f2, f3, f4⟩ := HJ2.out.fo.cells
      have lf := HJ2.out.fo.lt
      have t0 := A2.cell 0
      have t1 := A2.cell 1
      simp at t0 t1
      have lt' := A2.lt
      clear A2
      generalize w1.heap.size = k9 at *
      go_wp2_with fail
      refine (KP.out _).mono ?_
      rintro e w3 ⟨rfl, b3⟩
      have HB3 := Lib.hid (HB2.out.trans (b3.mono HB2.out.size))
      have HJ3 := Lib.hid (HJ2.out.under (b3.mono HJ2.out.sz))
      clear b3 HB2 HJ2 f0 f1 f2 f3 f4 lf t0 t1 lt' KP
      obtain ⟨o1, o2⟩ := HJ3.out.cellok
      go_upto_region 4 with fail
      have HJ4 := Lib.hid (HJ3.out.set false)
      have HU4 := Lib.hid ((But.of HB3.out).trans (wset_but w3.heap.size (fun k => k = ko) w3 ⟨ko, 0, none⟩ (.bool false) rfl |>.mono HB3.out.size))
      generalize w3.setCell ⟨ko, 0, none⟩ (.bool false) = w4 at *
      clear HJ3 HB3 o1 o2
      go_wp2_with fail
      go_ret
      exact ⟨rfl, HU4.out, HJ4.out⟩
    · have p0 := HJ0.out.wp.cell 0
      have p1 := HJ0.out.wp.cell 1
      have p2 := HJ0.out.wp.cell 2
      have p3 := HJ0.out.wp.cell 3
      have p4 := HJ0.out.wp.cell 4
      have p5 := HJ0.out.wp.cell 5
      simp at p0 p1 p2 p3 p4 p5
      have l0 := HJ0.out.wp.lt
      go_enter Tryz.func29, Tryz.ntmps29
      go_wp2_with fail
      refine (KW.out _).mono ?_
      rintro e w1 ⟨rfl, b1⟩
      have HB1 := Lib.hid b1
      have HJ1 := Lib.hid (HJ0.out.under (b1.mono HJ0.out.sz))
      clear b1 HJ0 KW
      clear p0 p1 p2 p3 p4 p5 l0
      go_upto_region 2 with fail
      have A2 := (Blk.new w1 #[.int .i64 px, .int .i64 py] 37)
      have b2 : Below w1.heap.size w1 (w1.alloc (.cells #[.int .i64 px, .int .i64 py] 37)) := (by repeat (first | with_reducible exact Below.refl _ _ | with_reducible apply Below.drew | with_reducible refine below_drewN ?_ _ | (with_reducible refine Below.setCell ?_ ?_ _; rotate_left; focus (first | omega | (simp <;> omega))) | (with_reducible refine Below.alloc ?_ ?_ _; rotate_left; focus (first | omega | (simp <;> omega)))))
      have HB2 := Lib.hid (HB1.out.trans (b2.mono HB1.out.size))
      have HJ2 := Lib.hid (HJ1.out.under (b2.mono HJ1.out.sz))
      clear b2 HB1 HJ1
      generalize w1.alloc (.cells #[.int .i64 px, .int .i64 py] 37) = w2 at *
      obtain ⟨f0, f1, f2, f3, f4⟩ := HJ2.out.fo.cells
      have lf := HJ2.out.fo.lt
      have t0 := A2.cell 0
      have t1 := A2.cell 1
      simp at t0 t1
      have lt' := A2.lt
      clear A2
      generalize w1.heap.size = k9 at *
      go_wp2_with fail
      refine (KP.out _).mono ?_
      rintro e w3 ⟨rfl, b3⟩
      have HB3 := Lib.hid (HB2.out.trans (b3.mono HB2.out.size))
      have HJ3 := Lib.hid (HJ2.out.under (b3.mono HJ2.out.sz))
      clear b3 HB2 HJ2 f0 f1 f2 f3 f4 lf t0 t1 lt' KP
      obtain ⟨o1, o2⟩ := HJ3.out.cellok
      go_upto_region 4 with fail
      have HJ4 := Lib.hid (HJ3.out.set false)
      have HU4 := Lib.hid ((But.of HB3.out).trans (wset_but w3.heap.size (fun k => k = ko) w3 ⟨ko, 0, none⟩ (.bool false) rfl |>.mono HB3.out.size))
      generalize w3.setCell ⟨ko, 0, none⟩ (.bool false) = w4 at *
      clear HJ3 HB3 o1 o2
      go_wp2_with fail
      go_ret
      exact ⟨rfl, HU4.out, HJ4.out⟩
end Go.Proofs.YtkmcinibaffpmaaGreat

namespace Go.Proofs.YtkmcinibaffpmaaGreat
open Go.ChangeShapes Go.WideShapes Go.ChangeAt Go.RowKit
open Ieee.Format (fin finE htE allFin allHt all_true all_false mulF subF addF Ht Bd divF rootF floorF easeF mixF)
set_option linter.unusedVariables false
open Wide
open Ieee.Format (const_half MoveOk reachF)

set_option maxRecDepth 100000 in
set_option maxHeartbeats 2000000 in
theorem refwpfld_any {N0 kw kf ko b c : Nat} {kd seed cell : Int} {n g a : Nat} {X Y : Int} {Wn Hn : Nat} {l : List Nat} {B : Bool} (x y : Int) (w : World) (h : WpJ N0 kw kf ko b c kd seed cell n g a X Y Wn Hn l B w) (hr : Right X Y Wn Hn l)
    (h1 : 1 ≤ n) (hn : n ≤ 10) (hg : Share g) (c1 : 1 ≤ cell) (c2 : cell ≤ 4096) (ha : fin Ieee.single a ∧ 0 ≤ Ieee.single.V a ∧ Ieee.single.V a ≤ 64) (hx : -8388608 ≤ x) (hx2 : x ≤ 8388608) (hy : -8388608 ≤ y) (hy2 : y ≤ 8388608) :
    Calls Tryz.prog 36 #[.int .i64 x, .int .i64 y, .pointer (some ⟨kw, 0, none⟩), .pointer (some ⟨kf, 0, none⟩), .pointer (some ⟨ko, 0, none⟩)] w fun e w' => e = .returned (.float .f32 (wpdV kd seed cell n g a X Y Wn Hn l x y)) ∧ But w.heap.size (fun k => k = ko) w w' ∧ WpJ N0 kw kf ko b c kd seed cell n g a X Y Wn Hn l (B || !wpdB kd seed cell n g a X Y Wn Hn x y) w' := by
  have KW := Lib.hid (fun w => refwarp_any kd seed cell x y n g a w h1 hn hg c1 c2 ha hx hx2 hy hy2)
  have g1 := hr.w1; have g2 := hr.w2; have g3 := hr.h1; have g4 := hr.h2; have g5 := hr.x1; have g6 := hr.x2; have g7 := hr.y1; have g8 := hr.y2
  unfold wpdV wpdB
  obtain ⟨m1, m2, m3, m4⟩ : -8390657 ≤ (warpP kd seed cell n g a x y).1 ∧ (warpP kd seed cell n g a x y).1 ≤ 8390657 ∧ -8390657 ≤ (warpP kd seed cell n g a x y).2 ∧ (warpP kd seed cell n g a x y).2 ≤ 8390657 := by
    obtain ⟨o1, _⟩ := warp_ok kd seed cell x y h1 hn hg c1 c2 ha
    obtain ⟨o2, _⟩ := warp_ok kd (hashTo seed 1 1 5 3) cell x y h1 hn hg c1 c2 ha
    have q1 := move_in o1
    have q2 := move_in o2
    unfold warpP
    simp only
    omega
  unfold ptV at KW
  have HJ0 := Lib.hid h
  clear h h1 hn hg c1 c2 ha hx hx2 hy hy2
  generalize (warpP kd seed cell n g a x y).1 = px at *
  generalize (warpP kd seed cell n g a x y).2 = py at *
  unfold wpV at KW
  generalize (n : Int) = n at *
  have KT := Lib.hid (fun w => there_any X Y Wn Hn px py (some ⟨b, 0, none⟩) l.length c w g1 g2 g3 g4 (by omega) (by omega) (by omega) (by omega) (by omega) (by omega) (by omega) (by omega))
  by_cases hin : inR X Y Wn Hn px py
  · rw [if_pos hin, decide_eq_true hin]
    rw [decide_eq_true hin] at KT
    have KA := Lib.hid (fun w hl => at_right X Y Wn Hn px py b 0 c l w hl hr hin.1 hin.2.1 hin.2.2.1 hin.2.2.2)
    clear hin g1 g2 g3 g4 g5 g6 g7 g8 hr m1 m2 m3 m4
    generalize l.getD (cellNo X Y Wn px py).toNat 0 = v at *
    rw [Bool.not_true, Bool.or_false]
    have p0 := HJ0.out.wp.cell 0
    have p1 := HJ0.out.wp.cell 1
    have p2 := HJ0.out.wp.cell 2
    have p3 := HJ0.out.wp.cell 3
    have p4 := HJ0.out.wp.cell 4
    have p5 := HJ0.out.wp.cell 5
    simp at p0 p1 p2 p3 p4 p5
    have l0 := HJ0.out.wp.lt
    go_enter Tryz.func36, Tryz.ntmps36
    go_wp2_with fail
    refine (KW.out _).mono ?_
    rintro e w1 ⟨rfl, b1⟩
    have HB1 := Lib.hid b1
    have HJ1 := Lib.hid (HJ0.out.under (b1.mono HJ0.out.sz))
    clear b1 HJ0 KW
    clear p0 p1 p2 p3 p4 p5 l0
    go_upto_region 2 with fail
    have A2 := Lib.hid (Blk.new w1 #[.int .i64 px, .int .i64 py] 37)
    have b2 : Below w1.heap.size w1 (w1.alloc (.cells #[.int .i64 px, .int .i64 py] 37)) := (by repeat (first | with_reducible exact Below.refl _ _ | with_reducible apply Below.drew | with_reducible refine below_drewN ?_ _ | (with_reducible refine Below.setCell ?_ ?_ _; rotate_left; focus (first | omega | (simp <;> omega))) | (with_reducible refine Below.alloc ?_ ?_ _; rotate_left; focus (first | omega | (simp <;> omega)))))
    have HB2 := Lib.hid (HB1.out.trans (b2.mono HB1.out.size))
    have HJ2 := Lib.hid (HJ1.out.under (b2.mono HJ1.out.sz))
    clear b2 HB1 HJ1
    generalize w1.alloc (.cells #[.int .i64 px, .int .i64 py] 37) = w2 at *
    obtain ⟨f0, f1, f2, f3, f4⟩ := HJ2.out.fo.cells
    have lf := HJ2.out.fo.lt
    have t0 := A2.out.cell 0
    have t1 := A2.out.cell 1
    simp at t0 t1
    have lt' := A2.out.lt
    generalize w1.heap.size = k9 at *
    go_wp2_with fail
    refine (KT.out _).mono ?_
    rintro e w3 ⟨rfl, b3⟩
    have HB3 := Lib.hid (HB2.out.trans (b3.mono HB2.out.size))
    have HJ3 := Lib.hid (HJ2.out.under (b3.mono HJ2.out.sz))
    have A3 := Lib.hid (A2.out.below b3 A2.out.lt)
    clear b3 HB2 HJ2 f0 f1 f2 f3 f4 lf t0 t1 lt' KT A2
    obtain ⟨f0, f1, f2, f3, f4⟩ := HJ3.out.fo.cells
    have lf := HJ3.out.fo.lt
    have t0 := A3.out.cell 0
    have t1 := A3.out.cell 1
    simp at t0 t1
    have lt' := A3.out.lt
    go_wp2_with fail
    refine (KA.out _ HJ3.out.row).mono ?_
    rintro e w4 ⟨rfl, b4⟩
    have HB4 := Lib.hid (HB3.out.trans (b4.mono HB3.out.size))
    have HJ4 := Lib.hid (HJ3.out.under (b4.mono HJ3.out.sz))
    clear b4 HB3 HJ3 A3 f0 f1 f2 f3 f4 lf t0 t1 lt'
    go_wp2_with fail
    go_ret
    exact ⟨rfl, But.of HB4.out, HJ4.out⟩
  · rw [if_neg hin, decide_eq_false hin]
    rw [decide_eq_false hin] at KT
    clear hin g1 g2 g3 g4 g5 g6 g7 g8 hr m1 m2 m3 m4
    rw [Bool.not_false, Bool.or_true]
    have p0 := HJ0.out.wp.cell 0
    have p1 := HJ0.out.wp.cell 1
    have p2 := HJ0.out.wp.cell 2
    have p3 := HJ0.out.wp.cell 3
    have p4 := HJ0.out.wp.cell 4
    have p5 := HJ0.out.wp.cell 5
    simp at p0 p1 p2 p3 p4 p5
    have l0 := HJ0.out.wp.lt
    go_enter Tryz.func36, Tryz.ntmps36
    go_wp2_with fail
    refine (KW.out _).mono ?_
    rintro e w1 ⟨rfl, b1⟩
    have HB1 := Lib.hid b1
    have HJ1 := Lib.hid (HJ0.out.under (b1.mono HJ0.out.sz))
    clear b1 HJ0 KW
    clear p0 p1 p2 p3 p4 p5 l0
    go_upto_region 2 with fail
    have A2 := Lib.hid (Blk.new w1 #[.int .i64 px, .int .i64 py] 37)
    have b2 : Below w1.heap.size w1 (w1.alloc (.cells #[.int .i64 px, .int .i64 py] 37)) := (by repeat (first | with_reducible exact Below.refl _ _ | with_reducible apply Below.drew | with_reducible refine below_drewN ?_ _ | (with_reducible refine Below.setCell ?_ ?_ _; rotate_left; focus (first | omega | (simp <;> omega))) | (with_reducible refine Below.alloc ?_ ?_ _; rotate_left; focus (first | omega | (simp <;> omega)))))
    have HB2 := Lib.hid (HB1.out.trans (b2.mono HB1.out.size))
    have HJ2 := Lib.hid (HJ1.out.under (b2.mono HJ1.out.sz))
    clear b2 HB1 HJ1
    generalize w1.alloc (.cells #[.int .i64 px, .int .i64 py] 37) = w2 at *
    obtain ⟨f0, f1, f2, f3, f4⟩ := HJ2.out.fo.cells
    have lf := HJ2.out.fo.lt
    have t0 := A2.out.cell 0
    have t1 := A2.out.cell 1
    simp at t0 t1
    have lt' := A2.out.lt
    generalize w1.heap.size = k9 at *
    go_wp2_with fail
    refine (KT.out _).mono ?_
    rintro e w3 ⟨rfl, b3⟩
    have HB3 := Lib.hid (HB2.out.trans (b3.mono HB2.out.size))
    have HJ3 := Lib.hid (HJ2.out.under (b3.mono HJ2.out.sz))
    have A3 := Lib.hid (A2.out.below b3 A2.out.lt)
    clear b3 HB2 HJ2 f0 f1 f2 f3 f4 lf t0 t1 lt' KT A2
    obtain ⟨o1, o2⟩ := HJ3.out.cellok
    go_upto_region 4 with fail
    have HJ4 := Lib.hid (HJ3.out.set true)
    have HU4 := Lib.hid ((But.of HB3.out).trans (wset_but w3.heap.size (fun k => k = ko) w3 ⟨ko, 0, none⟩ (.bool true) rfl |>.mono HB3.out.size))
    generalize w3.setCell ⟨ko, 0, none⟩ (.bool true) = w4 at *
    clear HJ3 HB3 o1 o2
    go_wp2_with fail
    go_ret
    exact ⟨rfl, HU4.out, HJ4.out⟩
end Go.Proofs.YtkmcinibaffpmaaGreat

namespace Go.Proofs.YtkmcinibaffpmaaGreat
open Go.ChangeShapes Go.WideShapes Go.ChangeAt Go.RowKit
open Ieee.Format (fin finE htE allFin allHt all_true all_false mulF subF addF Ht Bd divF rootF floorF easeF mixF)
set_option linter.unusedVariables false
open Wide
open Ieee.Format (const_half MoveOk move_ok reachF bits_mul)

/-- the error of a warp and a place -/
def wxE (kd cell n : Int) (g a : Nat) (x y : Int) : Int := if wpE kd cell n g a = 0 then plP x y else wpE kd cell n g a
theorem wpE_zero {kd cell n : Int} {g a : Nat} (h : wpE kd cell n g a = 0) : frE kd cell n g = 0 ∧ wsE a = 0 := by
  unfold wpE at h
  by_cases hE : frE kd cell n g = 0
  · rw [if_pos hE] at h; exact ⟨hE, h⟩
  · rw [if_neg hE] at h; exact absurd h hE
/-- what Warp answers -/
def warpO (kd seed cell n : Int) (g a : Nat) (x y : Int) : Value := if wxE kd cell n g a x y = 0 then .tuple #[ptV (warpP kd seed cell n.toNat g a x y), .int .i64 0] else .tuple #[.agg #[.int .i64 0, .int .i64 0], .int .i64 (wxE kd cell n g a x y)]
theorem wx_world (w : World) (c0 c1 : Array Value) (t0 t1 : TypeId) : ∀ W0, W0 = (w.alloc (.cells c0 t0)).alloc (.cells c1 t1) → Blk W0 w.heap.size c0 t0 ∧ Blk W0 (w.heap.size + 1) c1 t1 ∧ Below w.heap.size w W0 := by
  rintro _ rfl
  refine ⟨(Blk.new _ _ _).alloc _, ?_, (by repeat (first | with_reducible exact Below.refl _ _ | with_reducible apply Below.drew | with_reducible refine below_drewN ?_ _ | (with_reducible refine Below.setCell ?_ ?_ _; rotate_left; focus (first | omega | (simp <;> omega))) | (with_reducible refine Below.alloc ?_ ?_ _; rotate_left; focus (first | omega | (simp <;> omega)))))⟩
  have := Blk.new (w.alloc (.cells c0 t0)) c1 t1
  simpa using this
set_option maxRecDepth 100000 in
set_option maxHeartbeats 1000000 in
theorem warpop_any (kd seed cell n x y : Int) (g a : Nat) (hg : g < 4294967296) (ha : a < 4294967296) (w : World) :
    Calls Tryz.prog 7 #[wpV kd seed cell n g a, .int .i64 x, .int .i64 y] w fun e w' => e = .returned (warpO kd seed cell n g a x y) ∧ Below w.heap.size w w' := by
  have KC := Lib.hid (fun w => wpcheck_any kd seed cell n g a hg ha w)
  have KP := Lib.hid (fun w => place_any x y w)
  try rw [plE_one] at KP
  unfold warpO wxE
  by_cases hE : wpE kd cell n g a = 0
  · rw [if_pos hE]
    rw [hE] at KC
    obtain ⟨hF, hS⟩ := wpE_zero hE
    by_cases hP : plP x y = 0
    · obtain ⟨m, rfl, m1, m2⟩ := frE_nat hF
      obtain ⟨_, ⟨c1, c2⟩, _, sg⟩ := frE_zero hF
      have sa := wsE_zero hS
      obtain ⟨⟨x1, x2, y1, y2⟩, _⟩ := plE_zero ((plE_one x y).trans hP)
      have KF := Lib.hid (fun w => warp_any kd seed cell x y m g a w m1 m2 sg c1 c2 sa (by omega) (by omega) (by omega) (by omega))
      rw [if_pos hP, Int.toNat_natCast]
      rw [hP] at KP
      clear hE hP hF hS m1 m2 c1 c2 sg sa x1 x2 y1 y2 hg ha
      unfold ptV at *
      generalize (warpP kd seed cell m g a x y).1 = px at *
      generalize (warpP kd seed cell m g a x y).2 = py at *
      generalize (m : Int) = n at *
      unfold wpV at *
      go_enter Tryz.func7, Tryz.ntmps7
      go_upto_region 1 with fail
      generalize hW0 : (w.alloc (.cells #[.int .i64 kd, .int .u32 seed, .int .i64 cell, .int .i64 n, .float .f32 g, .float .f32 a] 27)).alloc (.cells #[.int .i64 0, .int .i64 0] 37) = W0 at *
      obtain ⟨A0, P0, B0⟩ := wx_world w #[.int .i64 kd, .int .u32 seed, .int .i64 cell, .int .i64 n, .float .f32 g, .float .f32 a] #[.int .i64 0, .int .i64 0] 27 37 W0 hW0.symm
      have HA0 := Lib.hid A0
      have HP0 := Lib.hid P0
      have HB0 := Lib.hid B0
      clear A0 P0 B0 hW0
      have p0 := HA0.out.cell 0
      have p1 := HA0.out.cell 1
      have p2 := HA0.out.cell 2
      have p3 := HA0.out.cell 3
      have p4 := HA0.out.cell 4
      have p5 := HA0.out.cell 5
      simp at p0 p1 p2 p3 p4 p5
      have l0 := HA0.out.lt
      go_wp2_with fail
      refine (KC.out _).mono ?_
      rintro e w1 ⟨rfl, b1⟩
      have HA1 := Lib.hid (HA0.out.below b1 HA0.out.lt)
      have HP1 := Lib.hid (HP0.out.below b1 HP0.out.lt)
      have HB1 := Lib.hid (HB0.out.trans (b1.mono HB0.out.size))
      clear b1 HA0 HP0 HB0 KC p0 p1 p2 p3 p4 p5 l0
      go_wp2_with fail
      refine (KP.out _).mono ?_
      rintro e w2 ⟨rfl, rfl⟩
      have p0 := HA1.out.cell 0
      have p1 := HA1.out.cell 1
      have p2 := HA1.out.cell 2
      have p3 := HA1.out.cell 3
      have p4 := HA1.out.cell 4
      have p5 := HA1.out.cell 5
      simp at p0 p1 p2 p3 p4 p5
      have l0 := HA1.out.lt
      go_wp2_with fail
      refine (KF.out _).mono ?_
      rintro e w3 ⟨rfl, b3⟩
      have HP3 := Lib.hid (HP1.out.below b3 HP1.out.lt)
      have HB3 := Lib.hid (HB1.out.trans (b3.mono HB1.out.size))
      clear b3 HA1 HP1 HB1 KF p0 p1 p2 p3 p4 p5 l0
      obtain ⟨a9, b9⟩ := pt_store HP3.out px py
      have HA9 := Lib.hid a9
      have HB9 := Lib.hid (HB3.out.trans (b9.mono (by omega)))
      have f0 := HP3.out.frozen 0
      have f1 := HP3.out.frozen 1
      have t0 := HP3.out.cell 0
      have t1 := HP3.out.cell 1
      simp at t0 t1
      have lt := HP3.out.lt
      clear a9 b9
      go_wp2_with fail
      have q0 := HA9.out.cell 0
      have q1 := HA9.out.cell 1
      simp at q0 q1
      refine bodyPost_ret (v := .tuple #[.agg #[.int .i64 px, .int .i64 py], .int .i64 0]) (by simp [results, Tryz.results7, go_sem, *]) rfl ⟨rfl, HB9.out⟩
    · rw [if_neg hP]
      rw [plP_ne hP] at KP ⊢
      clear hP hE hF hS hg ha
      unfold wpV at *
      go_enter Tryz.func7, Tryz.ntmps7
      go_upto_region 1 with fail
      generalize hW0 : (w.alloc (.cells #[.int .i64 kd, .int .u32 seed, .int .i64 cell, .int .i64 n, .float .f32 g, .float .f32 a] 27)).alloc (.cells #[.int .i64 0, .int .i64 0] 37) = W0 at *
      obtain ⟨A0, P0, B0⟩ := wx_world w #[.int .i64 kd, .int .u32 seed, .int .i64 cell, .int .i64 n, .float .f32 g, .float .f32 a] #[.int .i64 0, .int .i64 0] 27 37 W0 hW0.symm
      have HA0 := Lib.hid A0
      have HP0 := Lib.hid P0
      have HB0 := Lib.hid B0
      clear A0 P0 B0 hW0
      have p0 := HA0.out.cell 0
      have p1 := HA0.out.cell 1
      have p2 := HA0.out.cell 2
      have p3 := HA0.out.cell 3
      have p4 := HA0.out.cell 4
      have p5 := HA0.out.cell 5
      simp at p0 p1 p2 p3 p4 p5
      have l0 := HA0.out.lt
      go_wp2_with fail
      refine (KC.out _).mono ?_
      rintro e w1 ⟨rfl, b1⟩
      have HA1 := Lib.hid (HA0.out.below b1 HA0.out.lt)
      have HP1 := Lib.hid (HP0.out.below b1 HP0.out.lt)
      have HB1 := Lib.hid (HB0.out.trans (b1.mono HB0.out.size))
      clear b1 HA0 HP0 HB0 KC p0 p1 p2 p3 p4 p5 l0
      go_wp2_with fail
      refine (KP.out _).mono ?_
      rintro e w2 ⟨rfl, rfl⟩
      obtain ⟨a9, b9⟩ := pt_store HP1.out 0 0
      have HA9 := Lib.hid a9
      have HB9 := Lib.hid (HB1.out.trans (b9.mono (by omega)))
      have f0 := HP1.out.frozen 0
      have f1 := HP1.out.frozen 1
      have t0 := HP1.out.cell 0
      have t1 := HP1.out.cell 1
      simp at t0 t1
      have lt := HP1.out.lt
      clear a9 b9
      go_wp2_with fail
      have q0 := HA9.out.cell 0
      have q1 := HA9.out.cell 1
      simp at q0 q1
      refine bodyPost_ret (v := .tuple #[.agg #[.int .i64 0, .int .i64 0], .int .i64 5]) (by simp [results, Tryz.results7, go_sem, *]) rfl ⟨rfl, HB9.out⟩
  · rw [if_neg hE, if_neg hE]
    have hb : (wpE kd cell n g a != 0) = true := by simpa using hE
    clear hE hg ha KP
    generalize wpE kd cell n g a = z at *
    unfold wpV at *
    go_enter Tryz.func7, Tryz.ntmps7
    go_upto_region 1 with fail
    generalize hW0 : (w.alloc (.cells #[.int .i64 kd, .int .u32 seed, .int .i64 cell, .int .i64 n, .float .f32 g, .float .f32 a] 27)).alloc (.cells #[.int .i64 0, .int .i64 0] 37) = W0 at *
    obtain ⟨A0, P0, B0⟩ := wx_world w #[.int .i64 kd, .int .u32 seed, .int .i64 cell, .int .i64 n, .float .f32 g, .float .f32 a] #[.int .i64 0, .int .i64 0] 27 37 W0 hW0.symm
    have HA0 := Lib.hid A0
    have HP0 := Lib.hid P0
    have HB0 := Lib.hid B0
    clear A0 P0 B0 hW0
    have p0 := HA0.out.cell 0
    have p1 := HA0.out.cell 1
    have p2 := HA0.out.cell 2
    have p3 := HA0.out.cell 3
    have p4 := HA0.out.cell 4
    have p5 := HA0.out.cell 5
    simp at p0 p1 p2 p3 p4 p5
    have l0 := HA0.out.lt
    go_wp2_with fail
    refine (KC.out _).mono ?_
    rintro e w1 ⟨rfl, b1⟩
    have HA1 := Lib.hid (HA0.out.below b1 HA0.out.lt)
    have HP1 := Lib.hid (HP0.out.below b1 HP0.out.lt)
    have HB1 := Lib.hid (HB0.out.trans (b1.mono HB0.out.size))
    clear b1 HA0 HP0 HB0 KC p0 p1 p2 p3 p4 p5 l0
    obtain ⟨a9, b9⟩ := pt_store HP1.out 0 0
    have HA9 := Lib.hid a9
    have HB9 := Lib.hid (HB1.out.trans (b9.mono (by omega)))
    have f0 := HP1.out.frozen 0
    have f1 := HP1.out.frozen 1
    have t0 := HP1.out.cell 0
    have t1 := HP1.out.cell 1
    simp at t0 t1
    have lt := HP1.out.lt
    clear a9 b9
    go_wp2_with fail
    have q0 := HA9.out.cell 0
    have q1 := HA9.out.cell 1
    simp at q0 q1
    refine bodyPost_ret (v := .tuple #[.agg #[.int .i64 0, .int .i64 0], .int .i64 z]) (by simp [results, Tryz.results7, go_sem, *]) rfl ⟨rfl, HB9.out⟩
set_option maxRecDepth 100000 in
set_option maxHeartbeats 1000000 in
theorem refwarpop_any (kd seed cell n x y : Int) (g a : Nat) (hg : g < 4294967296) (ha : a < 4294967296) (w : World) :
    Calls Tryz.prog 8 #[wpV kd seed cell n g a, .int .i64 x, .int .i64 y] w fun e w' => e = .returned (warpO kd seed cell n g a x y) ∧ Below w.heap.size w w' := by
  have KC := Lib.hid (fun w => refwpcheck_any kd seed cell n g a hg ha w)
  have KP := Lib.hid (fun w => refplace_any x y 1 w)
  try rw [plE_one] at KP
  unfold warpO wxE
  by_cases hE : wpE kd cell n g a = 0
  · rw [if_pos hE]
    rw [hE] at KC
    obtain ⟨hF, hS⟩ := wpE_zero hE
    by_cases hP : plP x y = 0
    · obtain ⟨m, rfl, m1, m2⟩ := frE_nat hF
      obtain ⟨_, ⟨c1, c2⟩, _, sg⟩ := frE_zero hF
      have sa := wsE_zero hS
      obtain ⟨⟨x1, x2, y1, y2⟩, _⟩ := plE_zero ((plE_one x y).trans hP)
      have KF := Lib.hid (fun w => refwarp_any kd seed cell x y m g a w m1 m2 sg c1 c2 sa (by omega) (by omega) (by omega) (by omega))
      rw [if_pos hP, Int.toNat_natCast]
      rw [hP] at KP
      clear hE hP hF hS m1 m2 c1 c2 sg sa x1 x2 y1 y2 hg ha
      unfold ptV at *
      generalize (warpP kd seed cell m g a x y).1 = px at *
      generalize (warpP kd seed cell m g a x y).2 = py at *
      generalize (m : Int) = n at *
      unfold wpV at *
      go_enter Tryz.func8, Tryz.ntmps8
      go_upto_region 1 with fail
      generalize hW0 : (w.alloc (.cells #[.int .i64 kd, .int .u32 seed, .int .i64 cell, .int .i64 n, .float .f32 g, .float .f32 a] 27)).alloc (.cells #[.int .i64 0, .int .i64 0] 37) = W0 at *
      obtain ⟨A0, P0, B0⟩ := wx_world w #[.int .i64 kd, .int .u32 seed, .int .i64 cell, .int .i64 n, .float .f32 g, .float .f32 a] #[.int .i64 0, .int .i64 0] 27 37 W0 hW0.symm
      have HA0 := Lib.hid A0
      have HP0 := Lib.hid P0
      have HB0 := Lib.hid B0
      clear A0 P0 B0 hW0
      have p0 := HA0.out.cell 0
      have p1 := HA0.out.cell 1
      have p2 := HA0.out.cell 2
      have p3 := HA0.out.cell 3
      have p4 := HA0.out.cell 4
      have p5 := HA0.out.cell 5
      simp at p0 p1 p2 p3 p4 p5
      have l0 := HA0.out.lt
      go_wp2_with fail
      refine (KC.out _).mono ?_
      rintro e w1 ⟨rfl, b1⟩
      have HA1 := Lib.hid (HA0.out.below b1 HA0.out.lt)
      have HP1 := Lib.hid (HP0.out.below b1 HP0.out.lt)
      have HB1 := Lib.hid (HB0.out.trans (b1.mono HB0.out.size))
      clear b1 HA0 HP0 HB0 KC p0 p1 p2 p3 p4 p5 l0
      go_wp2_with fail
      refine (KP.out _).mono ?_
      rintro e w2 ⟨rfl, rfl⟩
      have p0 := HA1.out.cell 0
      have p1 := HA1.out.cell 1
      have p2 := HA1.out.cell 2
      have p3 := HA1.out.cell 3
      have p4 := HA1.out.cell 4
      have p5 := HA1.out.cell 5
      simp at p0 p1 p2 p3 p4 p5
      have l0 := HA1.out.lt
      go_wp2_with fail
      refine (KF.out _).mono ?_
      rintro e w3 ⟨rfl, b3⟩
      have HP3 := Lib.hid (HP1.out.below b3 HP1.out.lt)
      have HB3 := Lib.hid (HB1.out.trans (b3.mono HB1.out.size))
      clear b3 HA1 HP1 HB1 KF p0 p1 p2 p3 p4 p5 l0
      obtain ⟨a9, b9⟩ := pt_store HP3.out px py
      have HA9 := Lib.hid a9
      have HB9 := Lib.hid (HB3.out.trans (b9.mono (by omega)))
      have f0 := HP3.out.frozen 0
      have f1 := HP3.out.frozen 1
      have t0 := HP3.out.cell 0
      have t1 := HP3.out.cell 1
      simp at t0 t1
      have lt := HP3.out.lt
      clear a9 b9
      go_wp2_with fail
      have q0 := HA9.out.cell 0
      have q1 := HA9.out.cell 1
      simp at q0 q1
      refine bodyPost_ret (v := .tuple #[.agg #[.int .i64 px, .int .i64 py], .int .i64 0]) (by simp [results, Tryz.results8, go_sem, *]) rfl ⟨rfl, HB9.out⟩
    · rw [if_neg hP]
      rw [plP_ne hP] at KP ⊢
      clear hP hE hF hS hg ha
      unfold wpV at *
      go_enter Tryz.func8, Tryz.ntmps8
      go_upto_region 1 with fail
      generalize hW0 : (w.alloc (.cells #[.int .i64 kd, .int .u32 seed, .int .i64 cell, .int .i64 n, .float .f32 g, .float .f32 a] 27)).alloc (.cells #[.int .i64 0, .int .i64 0] 37) = W0 at *
      obtain ⟨A0, P0, B0⟩ := wx_world w #[.int .i64 kd, .int .u32 seed, .int .i64 cell, .int .i64 n, .float .f32 g, .float .f32 a] #[.int .i64 0, .int .i64 0] 27 37 W0 hW0.symm
      have HA0 := Lib.hid A0
      have HP0 := Lib.hid P0
      have HB0 := Lib.hid B0
      clear A0 P0 B0 hW0
      have p0 := HA0.out.cell 0
      have p1 := HA0.out.cell 1
      have p2 := HA0.out.cell 2
      have p3 := HA0.out.cell 3
      have p4 := HA0.out.cell 4
      have p5 := HA0.out.cell 5
      simp at p0 p1 p2 p3 p4 p5
      have l0 := HA0.out.lt
      go_wp2_with fail
      refine (KC.out _).mono ?_
      rintro e w1 ⟨rfl, b1⟩
      have HA1 := Lib.hid (HA0.out.below b1 HA0.out.lt)
      have HP1 := Lib.hid (HP0.out.below b1 HP0.out.lt)
      have HB1 := Lib.hid (HB0.out.trans (b1.mono HB0.out.size))
      clear b1 HA0 HP0 HB0 KC p0 p1 p2 p3 p4 p5 l0
      go_wp2_with fail
      refine (KP.out _).mono ?_
      rintro e w2 ⟨rfl, rfl⟩
      obtain ⟨a9, b9⟩ := pt_store HP1.out 0 0
      have HA9 := Lib.hid a9
      have HB9 := Lib.hid (HB1.out.trans (b9.mono (by omega)))
      have f0 := HP1.out.frozen 0
      have f1 := HP1.out.frozen 1
      have t0 := HP1.out.cell 0
      have t1 := HP1.out.cell 1
      simp at t0 t1
      have lt := HP1.out.lt
      clear a9 b9
      go_wp2_with fail
      have q0 := HA9.out.cell 0
      have q1 := HA9.out.cell 1
      simp at q0 q1
      refine bodyPost_ret (v := .tuple #[.agg #[.int .i64 0, .int .i64 0], .int .i64 5]) (by simp [results, Tryz.results8, go_sem, *]) rfl ⟨rfl, HB9.out⟩
  · rw [if_neg hE, if_neg hE]
    have hb : (wpE kd cell n g a != 0) = true := by simpa using hE
    clear hE hg ha KP
    generalize wpE kd cell n g a = z at *
    unfold wpV at *
    go_enter Tryz.func8, Tryz.ntmps8
    go_upto_region 1 with fail
    generalize hW0 : (w.alloc (.cells #[.int .i64 kd, .int .u32 seed, .int .i64 cell, .int .i64 n, .float .f32 g, .float .f32 a] 27)).alloc (.cells #[.int .i64 0, .int .i64 0] 37) = W0 at *
    obtain ⟨A0, P0, B0⟩ := wx_world w #[.int .i64 kd, .int .u32 seed, .int .i64 cell, .int .i64 n, .float .f32 g, .float .f32 a] #[.int .i64 0, .int .i64 0] 27 37 W0 hW0.symm
    have HA0 := Lib.hid A0
    have HP0 := Lib.hid P0
    have HB0 := Lib.hid B0
    clear A0 P0 B0 hW0
    have p0 := HA0.out.cell 0
    have p1 := HA0.out.cell 1
    have p2 := HA0.out.cell 2
    have p3 := HA0.out.cell 3
    have p4 := HA0.out.cell 4
    have p5 := HA0.out.cell 5
    simp at p0 p1 p2 p3 p4 p5
    have l0 := HA0.out.lt
    go_wp2_with fail
    refine (KC.out _).mono ?_
    rintro e w1 ⟨rfl, b1⟩
    have HA1 := Lib.hid (HA0.out.below b1 HA0.out.lt)
    have HP1 := Lib.hid (HP0.out.below b1 HP0.out.lt)
    have HB1 := Lib.hid (HB0.out.trans (b1.mono HB0.out.size))
    clear b1 HA0 HP0 HB0 KC p0 p1 p2 p3 p4 p5 l0
    obtain ⟨a9, b9⟩ := pt_store HP1.out 0 0
    have HA9 := Lib.hid a9
    have HB9 := Lib.hid (HB1.out.trans (b9.mono (by omega)))
    have f0 := HP1.out.frozen 0
    have f1 := HP1.out.frozen 1
    have t0 := HP1.out.cell 0
    have t1 := HP1.out.cell 1
    simp at t0 t1
    have lt := HP1.out.lt
    clear a9 b9
    go_wp2_with fail
    have q0 := HA9.out.cell 0
    have q1 := HA9.out.cell 1
    simp at q0 q1
    refine bodyPost_ret (v := .tuple #[.agg #[.int .i64 0, .int .i64 0], .int .i64 z]) (by simp [results, Tryz.results8, go_sem, *]) rfl ⟨rfl, HB9.out⟩

/-! ### how far a warp moves at most -/
theorem warp_marg {kd seed cell : Int} {n g a : Nat} (h1 : 1 ≤ n) (hn : n ≤ 10) (hg : Share g) (c1 : 1 ≤ cell) (c2 : cell ≤ 4096) (ha : fin Ieee.single a ∧ 0 ≤ Ieee.single.V a ∧ Ieee.single.V a ≤ 64) :
    fin Ieee.single (reachF g (bndF kd) n) ∧ MoveOk (fracF kd seed cell n g 0 0) a (reachF g (bndF kd) n) := by
  obtain ⟨f1, f2, r1, r2, r3, r4⟩ := frac_within kd seed cell 0 0 h1 hn hg c1 c2
  exact ⟨f2, move_ok f1 f2 ha.1 ha.2.1 ha.2.2 r1 r2 r3⟩
set_option maxRecDepth 100000 in
set_option maxHeartbeats 1000000 in
theorem marginop_any (kd seed cell n : Int) (g a : Nat) (hg : g < 4294967296) (ha : a < 4294967296) (w : World) :
    Calls Tryz.prog 9 #[wpV kd seed cell n g a] w fun e w' => e = .returned (.tuple #[.int .i64 (if wpE kd cell n g a = 0 then margZ (reachF g (bndF kd) n.toNat) a else 0), .int .i64 (wpE kd cell n g a)]) ∧ Below w.heap.size w w' := by
  have KC := Lib.hid (fun w => wpcheck_any kd seed cell n g a hg ha w)
  by_cases hE : wpE kd cell n g a = 0
  · rw [if_pos hE, hE]
    rw [hE] at KC
    obtain ⟨hF, hS⟩ := wpE_zero hE
    obtain ⟨m, rfl, m1, m2⟩ := frE_nat hF
    obtain ⟨_, ⟨c1, c2⟩, _, sg⟩ := frE_zero hF
    have sa := wsE_zero hS
    obtain ⟨fr, ok⟩ := warp_marg (kd := kd) (seed := seed) m1 m2 sg c1 c2 sa
    have KR := Lib.hid (fun w => reach_any kd seed cell m g w m2 m1 sg)
    have mi := move_in ok
    have KL := Lib.hid (fun w => floor_any (mulF (reachF g (bndF kd) m) a) ok.fr (Ieee.Format.mulF_lt _ _) w)
    have k1 := fun w' => run_float_arith (P := Tryz.prog) w' .mul 23 .f32 _ _ _ (bits_mul fr sa.1)
    have kc := fun w => run_convert_float_int (P := Tryz.prog) w 23 3 .f32 .i64 (floorF (mulF (reachF g (bndF kd) m) a)) (floorZ (mulF (reachF g (bndF kd) m) a)) (by kernel_rfl) Tryz.underlying3 mi.2.1
    have hM : margZ (reachF g (bndF kd) m) a = floorZ (mulF (reachF g (bndF kd) m) a) + 1 := rfl
    rw [Int.toNat_natCast]
    have wz : IntKind.i64.wrap (floorZ (mulF (reachF g (bndF kd) m) a) + 1) = margZ (reachF g (bndF kd) m) a := by rw [← hM]; exact IntWalk.i64_in _ (by omega)
    clear hE hF hS m1 m2 c1 c2 sg sa hg ha fr ok mi hM
    generalize margZ (reachF g (bndF kd) m) a = z at *
    generalize floorZ (mulF (reachF g (bndF kd) m) a) = z3 at *
    generalize floorF (mulF (reachF g (bndF kd) m) a) = f3 at *
    generalize mulF (reachF g (bndF kd) m) a = f2 at *
    generalize reachF g (bndF kd) m = f1 at *
    generalize (m : Int) = n at *
    unfold wpV frV at *
    go_enter Tryz.func9, Tryz.ntmps9
    go_upto_region 1 with fail
    generalize hW0 : w.alloc (.cells #[.int .i64 kd, .int .u32 seed, .int .i64 cell, .int .i64 n, .float .f32 g, .float .f32 a] 27) = W0 at *
    have A0 : Blk W0 w.heap.size #[.int .i64 kd, .int .u32 seed, .int .i64 cell, .int .i64 n, .float .f32 g, .float .f32 a] 27 := by subst hW0; exact Blk.new _ _ _
    have b0 : Below w.heap.size w W0 := by subst hW0; exact (by repeat (first | with_reducible exact Below.refl _ _ | with_reducible apply Below.drew | with_reducible refine below_drewN ?_ _ | (with_reducible refine Below.setCell ?_ ?_ _; rotate_left; focus (first | omega | (simp <;> omega))) | (with_reducible refine Below.alloc ?_ ?_ _; rotate_left; focus (first | omega | (simp <;> omega)))))
    have HA0 := Lib.hid A0
    have HB0 := Lib.hid b0
    clear A0 b0 hW0
    have p0 := HA0.out.cell 0
    have p1 := HA0.out.cell 1
    have p2 := HA0.out.cell 2
    have p3 := HA0.out.cell 3
    have p4 := HA0.out.cell 4
    have p5 := HA0.out.cell 5
    simp at p0 p1 p2 p3 p4 p5
    have l0 := HA0.out.lt
    go_wp2_with fail
    refine (KC.out _).mono ?_
    rintro e w1 ⟨rfl, b1⟩
    have HA1 := Lib.hid (HA0.out.below b1 HA0.out.lt)
    have HB1 := Lib.hid (HB0.out.trans (b1.mono HB0.out.size))
    clear b1 HA0 HB0 KC p0 p1 p2 p3 p4 p5 l0
    have p0 := HA1.out.cell 0
    have p1 := HA1.out.cell 1
    have p2 := HA1.out.cell 2
    have p3 := HA1.out.cell 3
    have p4 := HA1.out.cell 4
    have p5 := HA1.out.cell 5
    simp at p0 p1 p2 p3 p4 p5
    have l0 := HA1.out.lt
    go_wp2_with fail
    go_region_held3 (fun w' => w'.cell? ⟨w.heap.size, 0, none⟩ = some (.int .i64 kd) ∧ w'.cell? ⟨w.heap.size, 1, none⟩ = some (.int .u32 seed) ∧ w'.cell? ⟨w.heap.size, 2, none⟩ = some (.int .i64 cell) ∧ w'.cell? ⟨w.heap.size, 3, none⟩ = some (.int .i64 n) ∧ w'.cell? ⟨w.heap.size, 4, none⟩ = some (.float .f32 g) ∧ w'.cell? ⟨w.heap.size, 5, none⟩ = some (.float .f32 a) ∧ Below w1.heap.size w1 w')
      (first
        | exact ⟨p0, p1, p2, p3, p4, p5, (Below.refl _ _).drew⟩
        | (go_split_ands
           have hs := hb.size
           have hs2 := (show Below w1.heap.size w1 _ by assumption).size
           refine ⟨?_, ?_, ?_, ?_, ?_, ?_, ?_⟩
           all_goals first
             | (rw [hb.cell (by simp; omega)]; assumption)
             | exact Below.trans (by assumption) (hb.mono (by omega)))
        | (go_split_ands; refine ⟨?_, ?_, ?_, ?_, ?_, ?_, ?_⟩ <;> assumption))
      (first
        | (go_at_call 25; go_split_ands; refine (KR.out _).mono ?_; rintro e2 w2 ⟨rfl, hb⟩)
        | (go_at_call 24; go_split_ands; refine (KL.out _).mono ?_; rintro e2 w2 ⟨rfl, rfl⟩)
        | (go_at_call 33; go_split_ands; refine (KR.out _).mono ?_; rintro e2 w2 ⟨rfl, hb⟩)
        | (go_at_call 32; go_split_ands; refine (KM.out _).mono ?_; rintro e2 w2 ⟨rfl, rfl⟩)
        | (go_at_call 31; go_split_ands; refine (KL.out _).mono ?_; rintro e2 w2 ⟨rfl, rfl⟩))
    all_goals
      rename_i hHeld
      have HB3 := Lib.hid (HB1.out.trans (hHeld.2.2.2.2.2.2.mono HB1.out.size))
      clear hHeld
      go_wp2_with fail
      go_ret2
      exact ⟨rfl, HB3.out⟩
  · rw [if_neg hE]
    have hb : (wpE kd cell n g a != 0) = true := by simpa using hE
    clear hE hg ha
    generalize wpE kd cell n g a = z at *
    unfold wpV at *
    go_enter Tryz.func9, Tryz.ntmps9
    go_upto_region 1 with fail
    generalize hW0 : w.alloc (.cells #[.int .i64 kd, .int .u32 seed, .int .i64 cell, .int .i64 n, .float .f32 g, .float .f32 a] 27) = W0 at *
    have A0 : Blk W0 w.heap.size #[.int .i64 kd, .int .u32 seed, .int .i64 cell, .int .i64 n, .float .f32 g, .float .f32 a] 27 := by subst hW0; exact Blk.new _ _ _
    have b0 : Below w.heap.size w W0 := by subst hW0; exact (by repeat (first | with_reducible exact Below.refl _ _ | with_reducible apply Below.drew | with_reducible refine below_drewN ?_ _ | (with_reducible refine Below.setCell ?_ ?_ _; rotate_left; focus (first | omega | (simp <;> omega))) | (with_reducible refine Below.alloc ?_ ?_ _; rotate_left; focus (first | omega | (simp <;> omega)))))
    have HA0 := Lib.hid A0
    have HB0 := Lib.hid b0
    clear A0 b0 hW0
    have p0 := HA0.out.cell 0
    have p1 := HA0.out.cell 1
    have p2 := HA0.out.cell 2
    have p3 := HA0.out.cell 3
    have p4 := HA0.out.cell 4
    have p5 := HA0.out.cell 5
    simp at p0 p1 p2 p3 p4 p5
    have l0 := HA0.out.lt
    go_wp2_with fail
    refine (KC.out _).mono ?_
    rintro e w1 ⟨rfl, b1⟩
    have HA1 := Lib.hid (HA0.out.below b1 HA0.out.lt)
    have HB1 := Lib.hid (HB0.out.trans (b1.mono HB0.out.size))
    clear b1 HA0 HB0 KC p0 p1 p2 p3 p4 p5 l0
    have p0 := HA1.out.cell 0
    have p1 := HA1.out.cell 1
    have p2 := HA1.out.cell 2
    have p3 := HA1.out.cell 3
    have p4 := HA1.out.cell 4
    have p5 := HA1.out.cell 5
    simp at p0 p1 p2 p3 p4 p5
    have l0 := HA1.out.lt
    go_wp2_with fail
    go_ret2
    exact ⟨rfl, HB1.out⟩
set_option maxRecDepth 100000 in
set_option maxHeartbeats 1000000 in
theorem refmargin_any (kd seed cell : Int) (n g a : Nat) (w : World) (k1 : 1 ≤ kd) (k2 : kd ≤ 4) (h1 : 1 ≤ n) (hn : n ≤ 10) (hg : Share g) (c1 : 1 ≤ cell) (c2 : cell ≤ 4096) (sa : fin Ieee.single a ∧ 0 ≤ Ieee.single.V a ∧ Ieee.single.V a ≤ 64) :
    Calls Tryz.prog 12 #[wpV kd seed cell n g a] w fun e w' => e = .returned (.int .i64 (margZ (reachF g (bndF kd) n) a)) ∧ Below w.heap.size w w' := by
  obtain ⟨fr, ok⟩ := warp_marg (kd := kd) (seed := seed) h1 hn hg c1 c2 sa
  have KR := Lib.hid (fun w => refreach_any kd seed cell n g w k1 k2 hn h1 hg)
  have mi := move_in ok
  have KL := Lib.hid (fun w => reffloor_any (mulF (reachF g (bndF kd) n) a) ok.fr (Ieee.Format.mulF_lt _ _) w)
  have KM := Lib.hid (fun w => ref_mul_ok (reachF g (bndF kd) n) a w fr sa.1 ok.fr)
  have kc := fun w => run_convert_float_int (P := Tryz.prog) w 23 3 .f32 .i64 (floorF (mulF (reachF g (bndF kd) n) a)) (floorZ (mulF (reachF g (bndF kd) n) a)) (by kernel_rfl) Tryz.underlying3 mi.2.1
  have hM : margZ (reachF g (bndF kd) n) a = floorZ (mulF (reachF g (bndF kd) n) a) + 1 := rfl
  have wz : IntKind.i64.wrap (floorZ (mulF (reachF g (bndF kd) n) a) + 1) = margZ (reachF g (bndF kd) n) a := by rw [← hM]; exact IntWalk.i64_in _ (by omega)
  clear h1 hn c1 c2 hg sa fr ok mi hM k1 k2
  generalize margZ (reachF g (bndF kd) n) a = z at *
  generalize floorZ (mulF (reachF g (bndF kd) n) a) = z3 at *
  generalize floorF (mulF (reachF g (bndF kd) n) a) = f3 at *
  generalize mulF (reachF g (bndF kd) n) a = f2 at *
  generalize reachF g (bndF kd) n = f1 at *
  generalize (n : Int) = n at *
  unfold wpV frV at *
  go_enter Tryz.func12, Tryz.ntmps12
  go_upto_region 1 with fail
  generalize hW0 : w.alloc (.cells #[.int .i64 kd, .int .u32 seed, .int .i64 cell, .int .i64 n, .float .f32 g, .float .f32 a] 27) = W0 at *
  have A0 : Blk W0 w.heap.size #[.int .i64 kd, .int .u32 seed, .int .i64 cell, .int .i64 n, .float .f32 g, .float .f32 a] 27 := by subst hW0; exact Blk.new _ _ _
  have b0 : Below w.heap.size w W0 := by subst hW0; exact (by repeat (first | with_reducible exact Below.refl _ _ | with_reducible apply Below.drew | with_reducible refine below_drewN ?_ _ | (with_reducible refine Below.setCell ?_ ?_ _; rotate_left; focus (first | omega | (simp <;> omega))) | (with_reducible refine Below.alloc ?_ ?_ _; rotate_left; focus (first | omega | (simp <;> omega)))))
  have HA0 := Lib.hid A0
  have HB0 := Lib.hid b0
  clear A0 b0 hW0
  have p0 := HA0.out.cell 0
  have p1 := HA0.out.cell 1
  have p2 := HA0.out.cell 2
  have p3 := HA0.out.cell 3
  have p4 := HA0.out.cell 4
  have p5 := HA0.out.cell 5
  simp at p0 p1 p2 p3 p4 p5
  have l0 := HA0.out.lt
  go_wp2_with fail
  go_region_held3 (fun w' => w'.cell? ⟨w.heap.size, 0, none⟩ = some (.int .i64 kd) ∧ w'.cell? ⟨w.heap.size, 1, none⟩ = some (.int .u32 seed) ∧ w'.cell? ⟨w.heap.size, 2, none⟩ = some (.int .i64 cell) ∧ w'.cell? ⟨w.heap.size, 3, none⟩ = some (.int .i64 n) ∧ w'.cell? ⟨w.heap.size, 4, none⟩ = some (.float .f32 g) ∧ w'.cell? ⟨w.heap.size, 5, none⟩ = some (.float .f32 a) ∧ Below W0.heap.size W0 w')
    (first
      | exact ⟨p0, p1, p2, p3, p4, p5, (Below.refl _ _).drew⟩
      | (go_split_ands
         have hs := hb.size
         have hs2 := (show Below W0.heap.size W0 _ by assumption).size
         refine ⟨?_, ?_, ?_, ?_, ?_, ?_, ?_⟩
         all_goals first
           | (rw [hb.cell (by simp; omega)]; assumption)
           | exact Below.trans (by assumption) (hb.mono (by omega)))
      | (go_split_ands; refine ⟨?_, ?_, ?_, ?_, ?_, ?_, ?_⟩ <;> assumption))
    (first
      | (go_at_call 25; go_split_ands; refine (KR.out _).mono ?_; rintro e2 w2 ⟨rfl, hb⟩)
      | (go_at_call 24; go_split_ands; refine (KL.out _).mono ?_; rintro e2 w2 ⟨rfl, rfl⟩)
      | (go_at_call 33; go_split_ands; refine (KR.out _).mono ?_; rintro e2 w2 ⟨rfl, hb⟩)
      | (go_at_call 32; go_split_ands; refine (KM.out _).mono ?_; rintro e2 w2 ⟨rfl, rfl⟩)
      | (go_at_call 31; go_split_ands; refine (KL.out _).mono ?_; rintro e2 w2 ⟨rfl, rfl⟩))
  all_goals
    rename_i hHeld
    have HB3 := Lib.hid (HB0.out.trans (hHeld.2.2.2.2.2.2.mono HB0.out.size))
    clear hHeld
    go_wp2_with fail
    go_ret
    exact ⟨rfl, HB3.out⟩
end Go.Proofs.YtkmcinibaffpmaaGreat

namespace Go.Proofs.YtkmcinibaffpmaaGreat
open Go.ChangeShapes Go.WideShapes Go.ChangeAt Go.RowKit
open Ieee.Format (fin finE htE allFin allHt all_true all_false mulF subF addF Ht Bd divF rootF floorF easeF mixF)
set_option linter.unusedVariables false
open Wide
open Ieee.Format (const_half MoveOk reachF)

theorem but_low {B B' : Nat} {q : Nat → Prop} {w w' : World} (h : But B q w w') (hB : B' ≤ B) (hq : ∀ k, k < B' → ¬ q k) : Below B' w w' :=
  ⟨h.os, h.tape, h.output, h.size, fun k hk => h.block k (by omega) (hq k hk)⟩
def allB (β : Int → Int → Bool) (X Y : Int) (W n : Nat) : Bool := (List.range n).all fun k => β (X + ((k % W : Nat) : Int)) (Y + ((k / W : Nat) : Int))
theorem allB_succ (β : Int → Int → Bool) (X Y : Int) (W i j : Nat) (hi : i < W) : allB β X Y W (j * W + i + 1) = (allB β X Y W (j * W + i) && β (X + (i : Int)) (Y + (j : Int))) := by
  unfold allB
  rw [List.range_succ, List.all_append]
  have e1 : (j * W + i) % W = i := by rw [Nat.add_comm, Nat.add_mul_mod_self_right]; exact Nat.mod_eq_of_lt hi
  have e2 : (j * W + i) / W = j := by rw [Nat.add_comm, Nat.add_mul_div_right _ _ (by omega), Nat.div_eq_of_lt hi]; omega
  simp only [List.all_cons, List.all_nil, Bool.and_true, e1, e2]
def wpdL (kd seed cell : Int) (n g a : Nat) (X Y : Int) (Wn Hn : Nat) (l : List Nat) (A B : Int) (P Q : Nat) : List Nat := madeL (fun x y => wpdV kd seed cell n g a X Y Wn Hn l x y) A B P (Q * P)
def wpdA (kd seed cell : Int) (n g a : Nat) (X Y : Int) (Wn Hn : Nat) (A B : Int) (P Q : Nat) : Bool := allB (fun x y => wpdB kd seed cell n g a X Y Wn Hn x y) A B P (Q * P)
/-- what Warped keeps -/
structure WmS (w : World) (X Y : Int) (Wn Hn b c : Nat) (l : List Nat) (kd seed cell n : Int) (g a : Nat) (A B P Q : Int) (wr : World) : Prop where
  f : Fld wr w.heap.size X Y Wn Hn (.slice (some ⟨b, 0, none⟩) l.length c)
  a : Blk wr (w.heap.size + 1) #[.int .i64 kd, .int .u32 seed, .int .i64 cell, .int .i64 n, .float .f32 g, .float .f32 a] 27
  r : Reg wr (w.heap.size + 1 + 1) A B P Q
  z : Fld wr (w.heap.size + 1 + 1 + 1) 0 0 0 0 (.slice none 0 0)
  row : SRow wr (some ⟨b, 0, none⟩) l
  b : Below w.heap.size w wr
theorem WmS.below {w wr w2 : World} {X Y : Int} {Wn Hn b c : Nat} {l : List Nat} {kd seed cell n : Int} {g a : Nat} {A B P Q : Int} (h : WmS w X Y Wn Hn b c l kd seed cell n g a A B P Q wr) (hb : Below wr.heap.size wr w2) : WmS w X Y Wn Hn b c l kd seed cell n g a A B P Q w2 :=
  ⟨h.f.below hb h.f.lt, h.a.below hb h.a.lt, h.r.below hb h.r.lt, h.z.below hb h.z.lt, h.row.below hb, h.b.trans (hb.mono h.b.size)⟩
theorem wm_start (w : World) (X Y : Int) (Wn Hn b c : Nat) (l : List Nat) (kd seed cell n : Int) (g a : Nat) (A B P Q : Int) (hl : SRow w (some ⟨b, 0, none⟩) l) : ∀ W0, W0 = (((w.alloc (.cells #[.int .i64 X, .int .i64 Y, .int .i64 Wn, .int .i64 Hn, .slice (some ⟨b, 0, none⟩) l.length c] 32)).alloc (.cells #[.int .i64 kd, .int .u32 seed, .int .i64 cell, .int .i64 n, .float .f32 g, .float .f32 a] 27)).alloc (.cells #[.int .i64 A, .int .i64 B, .int .i64 P, .int .i64 Q] 29)).alloc (.cells #[.int .i64 0, .int .i64 0, .int .i64 0, .int .i64 0, .slice none 0 0] 32) → WmS w X Y Wn Hn b c l kd seed cell n g a A B P Q W0 := by
  rintro _ rfl
  have hb : Below w.heap.size w ((((w.alloc (.cells #[.int .i64 X, .int .i64 Y, .int .i64 Wn, .int .i64 Hn, .slice (some ⟨b, 0, none⟩) l.length c] 32)).alloc (.cells #[.int .i64 kd, .int .u32 seed, .int .i64 cell, .int .i64 n, .float .f32 g, .float .f32 a] 27)).alloc (.cells #[.int .i64 A, .int .i64 B, .int .i64 P, .int .i64 Q] 29)).alloc (.cells #[.int .i64 0, .int .i64 0, .int .i64 0, .int .i64 0, .slice none 0 0] 32)) := (by repeat (first | with_reducible exact Below.refl _ _ | with_reducible apply Below.drew | with_reducible refine below_drewN ?_ _ | (with_reducible refine Below.setCell ?_ ?_ _; rotate_left; focus (first | omega | (simp <;> omega))) | (with_reducible refine Below.alloc ?_ ?_ _; rotate_left; focus (first | omega | (simp <;> omega)))))
  refine ⟨(((Fld.new w X Y Wn Hn _).alloc _).alloc _).alloc _, ?_, ?_, ?_, hl.below hb, hb⟩
  · have := ((Blk.new (w.alloc (.cells #[.int .i64 X, .int .i64 Y, .int .i64 Wn, .int .i64 Hn, .slice (some ⟨b, 0, none⟩) l.length c] 32)) #[.int .i64 kd, .int .u32 seed, .int .i64 cell, .int .i64 n, .float .f32 g, .float .f32 a] 27).alloc (.cells #[.int .i64 A, .int .i64 B, .int .i64 P, .int .i64 Q] 29)).alloc (.cells #[.int .i64 0, .int .i64 0, .int .i64 0, .int .i64 0, .slice none 0 0] 32)
    simpa using this
  · have := (Reg.new ((w.alloc (.cells #[.int .i64 X, .int .i64 Y, .int .i64 Wn, .int .i64 Hn, .slice (some ⟨b, 0, none⟩) l.length c] 32)).alloc (.cells #[.int .i64 kd, .int .u32 seed, .int .i64 cell, .int .i64 n, .float .f32 g, .float .f32 a] 27)) A B P Q).alloc (.cells #[.int .i64 0, .int .i64 0, .int .i64 0, .int .i64 0, .slice none 0 0] 32)
    simpa using this
  · have := Fld.new (((w.alloc (.cells #[.int .i64 X, .int .i64 Y, .int .i64 Wn, .int .i64 Hn, .slice (some ⟨b, 0, none⟩) l.length c] 32)).alloc (.cells #[.int .i64 kd, .int .u32 seed, .int .i64 cell, .int .i64 n, .float .f32 g, .float .f32 a] 27)).alloc (.cells #[.int .i64 A, .int .i64 B, .int .i64 P, .int .i64 Q] 29)) 0 0 0 0 (.slice none 0 0)
    simpa using this
set_option maxRecDepth 100000 in
set_option maxHeartbeats 1000000 in
theorem warped_err (kd seed cell n : Int) (g a : Nat) (X Y : Int) (Wn Hn b c : Nat) (l : List Nat) (A B P Q : Int) (w : World) (hl : SRow w (some ⟨b, 0, none⟩) l) (hg : g < 4294967296) (ha : a < 4294967296) (hE : wpE kd cell n g a ≠ 0) :
    Calls Tryz.prog 11 #[fldV X Y Wn Hn (some ⟨b, 0, none⟩) l.length c, wpV kd seed cell n g a, reg A B P Q] w fun e w' => e = .returned (.tuple #[fldV 0 0 0 0 none 0 0, .int .i64 (wpE kd cell n g a)]) ∧ Below w.heap.size w w' := by
  have KC := Lib.hid (fun w => wpcheck_any kd seed cell n g a hg ha w)
  have HL := Lib.hid hl
  have hb : (wpE kd cell n g a != 0) = true := by simpa using hE
  clear hE hg ha hl
  generalize wpE kd cell n g a = z at *
  unfold wpV at *
  go_enter Tryz.func11, Tryz.ntmps11
  go_upto_region 1 with fail
  generalize hW0 : (((w.alloc (.cells #[.int .i64 X, .int .i64 Y, .int .i64 Wn, .int .i64 Hn, .slice (some ⟨b, 0, none⟩) l.length c] 32)).alloc (.cells #[.int .i64 kd, .int .u32 seed, .int .i64 cell, .int .i64 n, .float .f32 g, .float .f32 a] 27)).alloc (.cells #[.int .i64 A, .int .i64 B, .int .i64 P, .int .i64 Q] 29)).alloc (.cells #[.int .i64 0, .int .i64 0, .int .i64 0, .int .i64 0, .slice none 0 0] 32) = W0 at *
  have S0 := Lib.hid (wm_start w X Y Wn Hn b c l kd seed cell n g a A B P Q HL.out W0 hW0.symm)
  clear hW0 HL
  have p0 := S0.out.a.cell 0
  have p1 := S0.out.a.cell 1
  have p2 := S0.out.a.cell 2
  have p3 := S0.out.a.cell 3
  have p4 := S0.out.a.cell 4
  have p5 := S0.out.a.cell 5
  simp at p0 p1 p2 p3 p4 p5
  have l0 := S0.out.a.lt
  obtain ⟨f0, f1, f2, f3, f4⟩ := S0.out.f.cells
  obtain ⟨r0, r1, r2, r3⟩ := S0.out.r.cells
  have l1 := S0.out.f.lt
  have l2 := S0.out.r.lt
  go_wp2_with fail
  refine (KC.out _).mono ?_
  rintro e w1 ⟨rfl, b1⟩
  have S1 := Lib.hid (S0.out.below b1)
  clear b1 S0 KC
  clear p0 p1 p2 p3 p4 p5 l0 f0 f1 f2 f3 f4 r0 r1 r2 r3 l1 l2
  obtain ⟨g0, g1, g2, g3, g4⟩ := S1.out.z.cells
  have qf0 := S1.out.z.frozen 0
  have qf1 := S1.out.z.frozen 1
  have qf2 := S1.out.z.frozen 2
  have qf3 := S1.out.z.frozen 3
  have qf4 := S1.out.z.frozen 4
  have lz := S1.out.z.lt
  go_wp2_with fail
  have B3 := S1.out.b
  exact bodyPost_ret (v := .tuple #[fldV 0 0 0 0 none 0 0, .int .i64 z]) (by simp [results, Tryz.results11, go_sem, *]) rfl ⟨rfl, (by have hszz := B3.size; repeat (first | with_reducible exact B3 | with_reducible apply Below.drew | with_reducible refine below_drewN ?_ _ | (with_reducible refine Below.setCell ?_ ?_ _; rotate_left; focus (first | omega | (simp <;> omega))) | (with_reducible refine Below.alloc ?_ ?_ _; rotate_left; focus (first | omega | (simp <;> omega)))))⟩
set_option maxRecDepth 100000 in
set_option maxHeartbeats 1000000 in
theorem warped_chk (kd seed cell n : Int) (g a : Nat) (X Y : Int) (Wn Hn b c : Nat) (l : List Nat) (A B P Q : Int) (w : World) (hl : SRow w (some ⟨b, 0, none⟩) l) (hr : Right X Y Wn Hn l) (hg : g < 4294967296) (ha : a < 4294967296) (hE : wpE kd cell n g a = 0) (hC : chk A B P Q ≠ 0) :
    Calls Tryz.prog 11 #[fldV X Y Wn Hn (some ⟨b, 0, none⟩) l.length c, wpV kd seed cell n g a, reg A B P Q] w fun e w' => e = .returned (.tuple #[fldV 0 0 0 0 none 0 0, .int .i64 (chk A B P Q)]) ∧ Below w.heap.size w w' := by
  have KC := Lib.hid (fun w => wpcheck_any kd seed cell n g a hg ha w)
  rw [hE] at KC
  have K := Lib.hid (fun w h => check_field X Y Wn Hn (some ⟨b, 0, none⟩) c l w h)
  rw [hr.chk] at K
  have KR := Lib.hid (fun w => check1 A B P Q w)
  have HL := Lib.hid hl
  have hb : (chk A B P Q != 0) = true := by simpa using hC
  clear hE hg ha hl hC hr
  generalize chk A B P Q = z at *
  unfold wpV at *
  go_enter Tryz.func11, Tryz.ntmps11
  go_upto_region 1 with fail
  generalize hW0 : (((w.alloc (.cells #[.int .i64 X, .int .i64 Y, .int .i64 Wn, .int .i64 Hn, .slice (some ⟨b, 0, none⟩) l.length c] 32)).alloc (.cells #[.int .i64 kd, .int .u32 seed, .int .i64 cell, .int .i64 n, .float .f32 g, .float .f32 a] 27)).alloc (.cells #[.int .i64 A, .int .i64 B, .int .i64 P, .int .i64 Q] 29)).alloc (.cells #[.int .i64 0, .int .i64 0, .int .i64 0, .int .i64 0, .slice none 0 0] 32) = W0 at *
  have S0 := Lib.hid (wm_start w X Y Wn Hn b c l kd seed cell n g a A B P Q HL.out W0 hW0.symm)
  clear hW0 HL
  have p0 := S0.out.a.cell 0
  have p1 := S0.out.a.cell 1
  have p2 := S0.out.a.cell 2
  have p3 := S0.out.a.cell 3
  have p4 := S0.out.a.cell 4
  have p5 := S0.out.a.cell 5
  simp at p0 p1 p2 p3 p4 p5
  have l0 := S0.out.a.lt
  obtain ⟨f0, f1, f2, f3, f4⟩ := S0.out.f.cells
  obtain ⟨r0, r1, r2, r3⟩ := S0.out.r.cells
  have l1 := S0.out.f.lt
  have l2 := S0.out.r.lt
  go_wp2_with fail
  refine (KC.out _).mono ?_
  rintro e w1 ⟨rfl, b1⟩
  have S1 := Lib.hid (S0.out.below b1)
  clear b1 S0 KC
  clear p0 p1 p2 p3 p4 p5 l0 f0 f1 f2 f3 f4 r0 r1 r2 r3 l1 l2
  have p0 := S1.out.a.cell 0
  have p1 := S1.out.a.cell 1
  have p2 := S1.out.a.cell 2
  have p3 := S1.out.a.cell 3
  have p4 := S1.out.a.cell 4
  have p5 := S1.out.a.cell 5
  simp at p0 p1 p2 p3 p4 p5
  have l0 := S1.out.a.lt
  obtain ⟨f0, f1, f2, f3, f4⟩ := S1.out.f.cells
  obtain ⟨r0, r1, r2, r3⟩ := S1.out.r.cells
  have l1 := S1.out.f.lt
  have l2 := S1.out.r.lt
  go_wp2_with fail
  refine (K.out _ S1.out.row).mono ?_
  rintro e w2 ⟨rfl, b2⟩
  have S2 := Lib.hid (S1.out.below b2)
  clear b2 S1 K
  clear p0 p1 p2 p3 p4 p5 l0 f0 f1 f2 f3 f4 r0 r1 r2 r3 l1 l2
  have p0 := S2.out.a.cell 0
  have p1 := S2.out.a.cell 1
  have p2 := S2.out.a.cell 2
  have p3 := S2.out.a.cell 3
  have p4 := S2.out.a.cell 4
  have p5 := S2.out.a.cell 5
  simp at p0 p1 p2 p3 p4 p5
  have l0 := S2.out.a.lt
  obtain ⟨f0, f1, f2, f3, f4⟩ := S2.out.f.cells
  obtain ⟨r0, r1, r2, r3⟩ := S2.out.r.cells
  have l1 := S2.out.f.lt
  have l2 := S2.out.r.lt
  go_wp2_with fail
  refine (KR.out _).mono ?_
  rintro e w3 ⟨rfl, b3⟩
  have S3 := Lib.hid (S2.out.below b3)
  clear b3 S2 KR
  clear p0 p1 p2 p3 p4 p5 l0 f0 f1 f2 f3 f4 r0 r1 r2 r3 l1 l2
  obtain ⟨g0, g1, g2, g3, g4⟩ := S3.out.z.cells
  have qf0 := S3.out.z.frozen 0
  have qf1 := S3.out.z.frozen 1
  have qf2 := S3.out.z.frozen 2
  have qf3 := S3.out.z.frozen 3
  have qf4 := S3.out.z.frozen 4
  have lz := S3.out.z.lt
  go_wp2_with fail
  have B3 := S3.out.b
  exact bodyPost_ret (v := .tuple #[fldV 0 0 0 0 none 0 0, .int .i64 z]) (by simp [results, Tryz.results11, go_sem, *]) rfl ⟨rfl, (by have hszz := B3.size; repeat (first | with_reducible exact B3 | with_reducible apply Below.drew | with_reducible refine below_drewN ?_ _ | (with_reducible refine Below.setCell ?_ ?_ _; rotate_left; focus (first | omega | (simp <;> omega))) | (with_reducible refine Below.alloc ?_ ?_ _; rotate_left; focus (first | omega | (simp <;> omega)))))⟩
set_option maxRecDepth 100000 in
set_option maxHeartbeats 1000000 in
theorem refwarped_chk (kd seed cell n : Int) (g a : Nat) (X Y : Int) (Wn Hn b c : Nat) (l : List Nat) (A B P Q : Int) (w : World) (hl : SRow w (some ⟨b, 0, none⟩) l) (hC : chk A B P Q ≠ 0) :
    Calls Tryz.prog 13 #[fldV X Y Wn Hn (some ⟨b, 0, none⟩) l.length c, wpV kd seed cell n g a, reg A B P Q] w fun e w' => e = .returned (.tuple #[fldV 0 0 0 0 none 0 0, .int .i64 (chk A B P Q)]) ∧ Below w.heap.size w w' := by
  have KR := Lib.hid (fun w => check2 A B P Q w)
  have HL := Lib.hid hl
  have hb : (chk A B P Q != 0) = true := by simpa using hC
  clear hl hC
  generalize chk A B P Q = z at *
  unfold wpV at *
  go_enter Tryz.func13, Tryz.ntmps13
  go_upto_region 1 with fail
  generalize hW0 : (((w.alloc (.cells #[.int .i64 X, .int .i64 Y, .int .i64 Wn, .int .i64 Hn, .slice (some ⟨b, 0, none⟩) l.length c] 32)).alloc (.cells #[.int .i64 kd, .int .u32 seed, .int .i64 cell, .int .i64 n, .float .f32 g, .float .f32 a] 27)).alloc (.cells #[.int .i64 A, .int .i64 B, .int .i64 P, .int .i64 Q] 29)).alloc (.cells #[.int .i64 0, .int .i64 0, .int .i64 0, .int .i64 0, .slice none 0 0] 32) = W0 at *
  have S0 := Lib.hid (wm_start w X Y Wn Hn b c l kd seed cell n g a A B P Q HL.out W0 hW0.symm)
  clear hW0 HL
  have p0 := S0.out.a.cell 0
  have p1 := S0.out.a.cell 1
  have p2 := S0.out.a.cell 2
  have p3 := S0.out.a.cell 3
  have p4 := S0.out.a.cell 4
  have p5 := S0.out.a.cell 5
  simp at p0 p1 p2 p3 p4 p5
  have l0 := S0.out.a.lt
  obtain ⟨f0, f1, f2, f3, f4⟩ := S0.out.f.cells
  obtain ⟨r0, r1, r2, r3⟩ := S0.out.r.cells
  have l1 := S0.out.f.lt
  have l2 := S0.out.r.lt
  go_wp2_with fail
  refine (KR.out _).mono ?_
  rintro e w3 ⟨rfl, b3⟩
  have S3 := Lib.hid (S0.out.below b3)
  clear b3 S0 KR
  clear p0 p1 p2 p3 p4 p5 l0 f0 f1 f2 f3 f4 r0 r1 r2 r3 l1 l2
  obtain ⟨g0, g1, g2, g3, g4⟩ := S3.out.z.cells
  have qf0 := S3.out.z.frozen 0
  have qf1 := S3.out.z.frozen 1
  have qf2 := S3.out.z.frozen 2
  have qf3 := S3.out.z.frozen 3
  have qf4 := S3.out.z.frozen 4
  have lz := S3.out.z.lt
  go_wp2_with fail
  have B3 := S3.out.b
  exact bodyPost_ret (v := .tuple #[fldV 0 0 0 0 none 0 0, .int .i64 z]) (by simp [results, Tryz.results13, go_sem, *]) rfl ⟨rfl, (by have hszz := B3.size; repeat (first | with_reducible exact B3 | with_reducible apply Below.drew | with_reducible refine below_drewN ?_ _ | (with_reducible refine Below.setCell ?_ ?_ _; rotate_left; focus (first | omega | (simp <;> omega))) | (with_reducible refine Below.alloc ?_ ?_ _; rotate_left; focus (first | omega | (simp <;> omega)))))⟩
theorem wpdV_ht {kd seed cell : Int} {n g a : Nat} {X Y : Int} {Wn Hn : Nat} {l : List Nat} (hr : Right X Y Wn Hn l) (x y : Int) : Ht (wpdV kd seed cell n g a X Y Wn Hn l x y) := by
  unfold wpdV
  split
  · exact hr.getD _
  · exact Ieee.Format.Ht.of ⟨by rw [Ieee.Format.const_0.2.1]; have := Ieee.P2_pos 20; grind, by rw [Ieee.Format.const_0.2.1]; have := Ieee.P2_pos 20; grind⟩
theorem wpdV_lt {kd seed cell : Int} {n g a : Nat} {X Y : Int} {Wn Hn : Nat} {l : List Nat} (hl : ∀ x ∈ l, x < 4294967296) (x y : Int) : wpdV kd seed cell n g a X Y Wn Hn l x y < 4294967296 := by
  unfold wpdV
  split
  · generalize (cellNo X Y Wn (warpP kd seed cell n g a x y).1 (warpP kd seed cell n g a x y).2).toNat = k
    by_cases hk : k < l.length
    · rw [List.getD_eq_getElem?_getD, List.getElem?_eq_getElem hk]; exact hl _ (List.getElem_mem hk)
    · rw [List.getD_eq_getElem?_getD, List.getElem?_eq_none (by omega)]; decide
  · decide
theorem wpdL_small (kd seed cell : Int) (n g a : Nat) (X Y : Int) (Wn Hn : Nat) (l : List Nat) (A B : Int) (P Q : Nat) (h2 : P ≤ 512) (h4 : Q ≤ 512) : (wpdL kd seed cell n g a X Y Wn Hn l A B P Q).length ≤ 1099511627776 := by
  unfold wpdL
  rw [madeL_len]
  have := Nat.mul_le_mul h4 h2
  omega
theorem wpdL_out {kd seed cell : Int} {n g a : Nat} {X Y : Int} {Wn Hn : Nat} {l : List Nat} (hr : Right X Y Wn Hn l) (A B : Int) (P Q : Nat) : outE (wpdL kd seed cell n g a X Y Wn Hn l A B P Q) = 0 := by
  unfold outE
  rw [if_pos (Ieee.Format.htE_of_ht (Ieee.Format.allHt_iff.2 ?_))]
  intro x hx
  unfold wpdL madeL at hx
  obtain ⟨k, _, rfl⟩ := List.mem_map.1 hx
  exact wpdV_ht hr _ _
set_option maxRecDepth 100000 in
set_option maxHeartbeats 2000000 in
theorem warped_ok (kd seed cell : Int) (n g a : Nat) (X Y : Int) (Wn Hn b c : Nat) (l : List Nat) (A B : Int) (P Q : Nat) (w : World) (hl : SRow w (some ⟨b, 0, none⟩) l) (hbl : b < w.heap.size) (hr : Right X Y Wn Hn l) (hg : g < 4294967296) (ha : a < 4294967296) (hE : wpE kd cell n g a = 0) (hC : chk A B P Q = 0) :
    Calls Tryz.prog 11 #[fldV X Y Wn Hn (some ⟨b, 0, none⟩) l.length c, wpV kd seed cell n g a, reg A B P Q] w fun e w' => OpP (if wpdA kd seed cell n g a X Y Wn Hn A B P Q = true then 0 else 5) A B P Q (wpdL kd seed cell n g a X Y Wn Hn l A B P Q) w e w' := by
  have KC := Lib.hid (fun w => wpcheck_any kd seed cell n g a hg ha w)
  rw [hE] at KC
  have K := Lib.hid (fun w h => check_field X Y Wn Hn (some ⟨b, 0, none⟩) c l w h)
  rw [hr.chk] at K
  have KR := Lib.hid (fun w => check1 A B P Q w)
  rw [hC] at KR
  obtain ⟨hF, hS⟩ := wpE_zero hE
  obtain ⟨_, ⟨c1, c2⟩, ⟨n1, n2⟩, sg⟩ := frE_zero hF
  have sa := wsE_zero hS
  obtain ⟨q1, q2, q3, q4, q5, q6, q7, q8, _⟩ := chk_zero hC
  have HL := Lib.hid hl
  have HLT := Lib.hid hl.1.2
  have HSM := Lib.hid (wpdL_small kd seed cell n g a X Y Wn Hn l A B P Q (by omega) (by omega))
  have KM := Lib.hid (fun (W : World) (kw kf ko N0 : Nat) (hN : N0 = W.heap.size) (J0 : WpJ N0 kw kf ko b c kd seed cell n g a X Y Wn Hn l true W) =>
    make_st 29 #[.pointer (some ⟨kw, 0, none⟩), .pointer (some ⟨kf, 0, none⟩), .pointer (some ⟨ko, 0, none⟩)] (fun k => k = ko) (fun m => WpJ N0 kw kf ko b c kd seed cell n g a X Y Wn Hn l (allB (fun x y => wpdB kd seed cell n g a X Y Wn Hn x y) A B P m)) (fun x y => wpdV kd seed cell n g a X Y Wn Hn l x y) A B P Q W (by omega) (by omega) (by omega) (by omega) (by omega) (by omega) (by omega) (by omega)
      (enters_of Tryz.func29 (by kernel_rfl) rfl) (fun k hk => by rw [hk, ← hN]; exact J0.lt.2.2.1) J0 (fun m W1 W2 hz hj hb => hj.under (by rw [hN]; exact hb)) (fun x y _ _ _ _ => wpdV_lt hl.1.2 x y)
      (fun i j hi hj W' hbut hJ => (wpfld_any (A + (i : Int)) (B + (j : Int)) W' hJ hr (by omega) (by omega) sg c1 c2 sa (by omega) (by omega) (by omega) (by omega)).mono fun e w' ⟨x1, x2, x3⟩ => ⟨x1, x2, by rw [allB_succ _ _ _ _ _ _ hi]; exact x3⟩))
  change Hid (∀ (W : World) (kw kf ko N0 : Nat) (hN : N0 = W.heap.size) (J0 : WpJ N0 kw kf ko b c kd seed cell n g a X Y Wn Hn l true W), Calls Tryz.prog 28 #[reg A B P Q, .func (.func 29) #[] #[.pointer (some ⟨kw, 0, none⟩), .pointer (some ⟨kf, 0, none⟩), .pointer (some ⟨ko, 0, none⟩)]] W fun e w' => MakeSP (fun k => k = ko) (WpJ N0 kw kf ko b c kd seed cell n g a X Y Wn Hn l (wpdA kd seed cell n g a X Y Wn Hn A B P Q)) A B P Q (wpdL kd seed cell n g a X Y Wn Hn l A B P Q) W e w') at KM
  clear hE hg ha hl hC hr hF hS n1 n2 sg sa c1 c2 q1 q2 q3 q4 q5 q6 q7 q8 HLT
  have HBL := Lib.hid hbl
  clear hbl
  generalize wpdL kd seed cell n g a X Y Wn Hn l A B P Q = L at *
  generalize wpdA kd seed cell n g a X Y Wn Hn A B P Q = al at *
  unfold wpV at *
  generalize (n : Int) = n at *
  go_enter Tryz.func11, Tryz.ntmps11
  go_upto_region 1 with fail
  generalize hW0 : (((w.alloc (.cells #[.int .i64 X, .int .i64 Y, .int .i64 Wn, .int .i64 Hn, .slice (some ⟨b, 0, none⟩) l.length c] 32)).alloc (.cells #[.int .i64 kd, .int .u32 seed, .int .i64 cell, .int .i64 n, .float .f32 g, .float .f32 a] 27)).alloc (.cells #[.int .i64 A, .int .i64 B, .int .i64 P, .int .i64 Q] 29)).alloc (.cells #[.int .i64 0, .int .i64 0, .int .i64 0, .int .i64 0, .slice none 0 0] 32) = W0 at *
  have S0 := Lib.hid (wm_start w X Y Wn Hn b c l kd seed cell n g a A B P Q HL.out W0 hW0.symm)
  clear hW0 HL
  have p0 := S0.out.a.cell 0
  have p1 := S0.out.a.cell 1
  have p2 := S0.out.a.cell 2
  have p3 := S0.out.a.cell 3
  have p4 := S0.out.a.cell 4
  have p5 := S0.out.a.cell 5
  simp at p0 p1 p2 p3 p4 p5
  have l0 := S0.out.a.lt
  obtain ⟨f0, f1, f2, f3, f4⟩ := S0.out.f.cells
  obtain ⟨r0, r1, r2, r3⟩ := S0.out.r.cells
  have l1 := S0.out.f.lt
  have l2 := S0.out.r.lt
  go_wp2_with fail
  refine (KC.out _).mono ?_
  rintro e w1 ⟨rfl, b1⟩
  have S1 := Lib.hid (S0.out.below b1)
  clear b1 S0 KC
  clear p0 p1 p2 p3 p4 p5 l0 f0 f1 f2 f3 f4 r0 r1 r2 r3 l1 l2
  have p0 := S1.out.a.cell 0
  have p1 := S1.out.a.cell 1
  have p2 := S1.out.a.cell 2
  have p3 := S1.out.a.cell 3
  have p4 := S1.out.a.cell 4
  have p5 := S1.out.a.cell 5
  simp at p0 p1 p2 p3 p4 p5
  have l0 := S1.out.a.lt
  obtain ⟨f0, f1, f2, f3, f4⟩ := S1.out.f.cells
  obtain ⟨r0, r1, r2, r3⟩ := S1.out.r.cells
  have l1 := S1.out.f.lt
  have l2 := S1.out.r.lt
  go_wp2_with fail
  refine (K.out _ S1.out.row).mono ?_
  rintro e w2 ⟨rfl, b2⟩
  have S2 := Lib.hid (S1.out.below b2)
  clear b2 S1 K
  clear p0 p1 p2 p3 p4 p5 l0 f0 f1 f2 f3 f4 r0 r1 r2 r3 l1 l2
  have p0 := S2.out.a.cell 0
  have p1 := S2.out.a.cell 1
  have p2 := S2.out.a.cell 2
  have p3 := S2.out.a.cell 3
  have p4 := S2.out.a.cell 4
  have p5 := S2.out.a.cell 5
  simp at p0 p1 p2 p3 p4 p5
  have l0 := S2.out.a.lt
  obtain ⟨f0, f1, f2, f3, f4⟩ := S2.out.f.cells
  obtain ⟨r0, r1, r2, r3⟩ := S2.out.r.cells
  have l1 := S2.out.f.lt
  have l2 := S2.out.r.lt
  go_wp2_with fail
  refine (KR.out _).mono ?_
  rintro e w3 ⟨rfl, b3⟩
  have S3 := Lib.hid (S2.out.below b3)
  clear b3 S2 KR
  clear p0 p1 p2 p3 p4 p5 l0 f0 f1 f2 f3 f4 r0 r1 r2 r3 l1 l2
  go_upto_region 11 with fail
  have b4 : Below w3.heap.size w3 (w3.alloc (.cells #[.bool true] 4)) := (by repeat (first | with_reducible exact Below.refl _ _ | with_reducible apply Below.drew | with_reducible refine below_drewN ?_ _ | (with_reducible refine Below.setCell ?_ ?_ _; rotate_left; focus (first | omega | (simp <;> omega))) | (with_reducible refine Below.alloc ?_ ?_ _; rotate_left; focus (first | omega | (simp <;> omega)))))
  have S4 := Lib.hid (S3.out.below b4)
  have ok4 : (w3.alloc (.cells #[.bool true] 4)).heap[w3.heap.size]? = some (.cells #[.bool true] 4 (0, 0)) := heap_alloc_new w3 _
  have z4 : (w3.alloc (.cells #[.bool true] 4)).heap.size = w3.heap.size + 1 := by simp
  have zl := S3.out.z.lt
  have hbl := HBL.out
  have J0 : WpJ (w3.alloc (.cells #[.bool true] 4)).heap.size (w.heap.size + 1) w.heap.size w3.heap.size b c kd seed cell n g a X Y Wn Hn l true (w3.alloc (.cells #[.bool true] 4)) :=
    ⟨S4.out.a, S4.out.f, ok4, S4.out.row, ⟨by omega, by omega, by omega, by omega⟩, ⟨by omega, by omega, by omega⟩, Nat.le_refl _⟩
  have HJ0 := Lib.hid J0
  have HZ4 := Lib.hid (show w.heap.size + 1 + 1 + 1 < w3.heap.size from zl)
  have HY4 := Lib.hid z4
  clear b4 S3 ok4 z4 zl hbl J0
  generalize w3.alloc (.cells #[.bool true] 4) = w4 at *
  generalize w3.heap.size = k3 at *
  have p0 := S4.out.a.cell 0
  have p1 := S4.out.a.cell 1
  have p2 := S4.out.a.cell 2
  have p3 := S4.out.a.cell 3
  have p4 := S4.out.a.cell 4
  have p5 := S4.out.a.cell 5
  simp at p0 p1 p2 p3 p4 p5
  have l0 := S4.out.a.lt
  obtain ⟨f0, f1, f2, f3, f4⟩ := S4.out.f.cells
  obtain ⟨r0, r1, r2, r3⟩ := S4.out.r.cells
  have l1 := S4.out.f.lt
  have l2 := S4.out.r.lt
  go_wp2_with fail
  refine (KM.out _ _ _ _ _ rfl HJ0.out).mono ?_
  rintro e w5 ⟨⟨gg, cap, rfl, ho⟩, hbut, hJ⟩
  clear p0 p1 p2 p3 p4 p5 l0 f0 f1 f2 f3 f4 r0 r1 r2 r3 l1 l2
  go_upto_region 12 with fail
  have hz4 := HZ4.out
  have hy4 := HY4.out
  have zz : Fld w5 (w.heap.size + 1 + 1 + 1) 0 0 0 0 (.slice none 0 0) := (hbut.block _ (by omega) (by omega)).trans S4.out.z
  have bb : Below w.heap.size w w5 := S4.out.b.trans (but_low hbut (B' := w.heap.size) (by omega) (fun k hk => by omega))
  have oo : OwnF w5 w.heap.size gg cap L := ho.base (by omega)
  have gl := ho.lt
  obtain ⟨cok, _⟩ := hJ.cellok
  have z5 := hbut.size
  have b6 : Below w5.heap.size w5 (w5.alloc (.cells #[.int .i64 A, .int .i64 B, .int .i64 P, .int .i64 Q, .slice (some ⟨gg, 0, none⟩) L.length cap] 32)) := (by repeat (first | with_reducible exact Below.refl _ _ | with_reducible apply Below.drew | with_reducible refine below_drewN ?_ _ | (with_reducible refine Below.setCell ?_ ?_ _; rotate_left; focus (first | omega | (simp <;> omega))) | (with_reducible refine Below.alloc ?_ ?_ _; rotate_left; focus (first | omega | (simp <;> omega)))))
  have Z6 := Lib.hid (zz.below b6 zz.lt)
  have B6 := Lib.hid (bb.trans (b6.mono bb.size))
  have O6 := Lib.hid (oo.below b6 oo.lt.2)
  have F6 := Lib.hid (Fld.new w5 A B P Q (.slice (some ⟨gg, 0, none⟩) L.length cap))
  have cok6 := (b6.cell (p := ⟨k3, 0, none⟩) (by simp; omega)).trans cok
  have lk : k3 < (w5.alloc (.cells #[.int .i64 A, .int .i64 B, .int .i64 P, .int .i64 Q, .slice (some ⟨gg, 0, none⟩) L.length cap] 32)).heap.size := by have := b6.size; omega
  have HGZ : Hid (w.heap.size + 1 + 1 + 1 < gg) := by unfold Hid; omega
  have HZ5 : Hid (w.heap.size + 1 + 1 + 1 < w5.heap.size) := by unfold Hid; omega
  clear zz bb oo cok z5 b6 ho hbut hJ S4 HJ0 hz4 hy4 HZ4 HY4 KM gl
  generalize w5.alloc (.cells #[.int .i64 A, .int .i64 B, .int .i64 P, .int .i64 Q, .slice (some ⟨gg, 0, none⟩) L.length cap] 32) = w6 at *
  generalize w5.heap.size = k5 at *
  cases al with
  | false =>
    obtain ⟨g0, g1, g2, g3, g4⟩ := Z6.out.cells
    have qf0 := Z6.out.frozen 0
    have qf1 := Z6.out.frozen 1
    have qf2 := Z6.out.frozen 2
    have qf3 := Z6.out.frozen 3
    have qf4 := Z6.out.frozen 4
    have lz := Z6.out.lt
    go_wp2_with fail
    have B3 := B6.out
    exact bodyPost_ret (v := .tuple #[fldV 0 0 0 0 none 0 0, .int .i64 5]) (by simp [results, Tryz.results11, go_sem, *]) rfl (OpP.err (c := 5) (by decide) rfl (by have hszz := B3.size; repeat (first | with_reducible exact B3 | with_reducible apply Below.drew | with_reducible refine below_drewN ?_ _ | (with_reducible refine Below.setCell ?_ ?_ _; rotate_left; focus (first | omega | (simp <;> omega))) | (with_reducible refine Below.alloc ?_ ?_ _; rotate_left; focus (first | omega | (simp <;> omega))))))
  | true =>
    obtain ⟨g0, g1, g2, g3, g4⟩ := Z6.out.cells
    have qf0 := Z6.out.frozen 0
    have qf1 := Z6.out.frozen 1
    have qf2 := Z6.out.frozen 2
    have qf3 := Z6.out.frozen 3
    have qf4 := Z6.out.frozen 4
    have lz := Z6.out.lt
    obtain ⟨f0, f1, f2, f3, f4⟩ := F6.out.cells
    have lf := F6.out.lt
    have hkz : w.heap.size + 1 + 1 + 1 < k5 := HZ5.out
    go_wp2_with fail
    generalize hW5 : ((((w6.setCell ⟨w.heap.size + 1 + 1 + 1, 0, none⟩ (.int .i64 A)).setCell ⟨w.heap.size + 1 + 1 + 1, 1, none⟩ (.int .i64 B)).setCell ⟨w.heap.size + 1 + 1 + 1, 2, none⟩ (.int .i64 P)).setCell ⟨w.heap.size + 1 + 1 + 1, 3, none⟩ (.int .i64 Q)).setCell ⟨w.heap.size + 1 + 1 + 1, 4, none⟩ (.slice (some ⟨gg, 0, none⟩) L.length cap) = W5 at *
    obtain ⟨h5, bb5, oo5, _, zz5⟩ := fld_store w6 (w.heap.size + 1 + 1 + 1) 0 0 0 0 _ A B P Q (.slice (some ⟨gg, 0, none⟩) L.length cap) Z6.out W5 hW5.symm
    have hO5 := oo5 _ _ _ _ O6.out (by have := HGZ.out; omega)
    have hB5 := B6.out.trans (bb5.mono (by omega))
    clear g0 g1 g2 g3 g4 qf0 qf1 qf2 qf3 qf4 hW5 oo5 f0 f1 f2 f3 f4
    obtain ⟨d0, d1, d2, d3, d4⟩ := h5.cells
    exact bodyPost_ret (v := .tuple #[fldV A B P Q (some ⟨gg, 0, none⟩) L.length cap, .int .i64 0]) (by simp [results, Tryz.results11, go_sem, *]) rfl ⟨⟨A, B, P, Q, _, _, cap, rfl, .inr ⟨rfl, rfl, rfl, rfl, rfl, gg, rfl, rfl, hO5⟩⟩, hB5⟩
end Go.Proofs.YtkmcinibaffpmaaGreat

namespace Go.Proofs.YtkmcinibaffpmaaGreat
open Go.ChangeShapes Go.WideShapes Go.ChangeAt Go.RowKit
open Ieee.Format (fin finE htE allFin allHt all_true all_false mulF subF addF Ht Bd divF rootF floorF easeF mixF)
set_option linter.unusedVariables false
open Wide
open Ieee.Format (const_half MoveOk reachF)

set_option maxRecDepth 100000 in
set_option maxHeartbeats 2000000 in
theorem refwarped_ok (kd seed cell : Int) (n g a : Nat) (X Y : Int) (Wn Hn b c : Nat) (l : List Nat) (A B : Int) (P Q : Nat) (w : World) (hl : SRow w (some ⟨b, 0, none⟩) l) (hbl : b < w.heap.size) (hr : Right X Y Wn Hn l) (hg : g < 4294967296) (ha : a < 4294967296) (hE : wpE kd cell n g a = 0) (hC : chk A B P Q = 0) :
    Calls Tryz.prog 13 #[fldV X Y Wn Hn (some ⟨b, 0, none⟩) l.length c, wpV kd seed cell n g a, reg A B P Q] w fun e w' => OpP (if wpdA kd seed cell n g a X Y Wn Hn A B P Q = true then 0 else 5) A B P Q (wpdL kd seed cell n g a X Y Wn Hn l A B P Q) w e w' := by
  have KR := Lib.hid (fun w => check2 A B P Q w)
  rw [hC] at KR
  obtain ⟨hF, hS⟩ := wpE_zero hE
  obtain ⟨_, ⟨c1, c2⟩, ⟨n1, n2⟩, sg⟩ := frE_zero hF
  have sa := wsE_zero hS
  obtain ⟨q1, q2, q3, q4, q5, q6, q7, q8, _⟩ := chk_zero hC
  have HL := Lib.hid hl
  have HLT := Lib.hid hl.1.2
  have HSM := Lib.hid (wpdL_small kd seed cell n g a X Y Wn Hn l A B P Q (by omega) (by omega))
  have KM := Lib.hid (fun (W : World) (kw kf ko N0 : Nat) (hN : N0 = W.heap.size) (J0 : WpJ N0 kw kf ko b c kd seed cell n g a X Y Wn Hn l false W) =>
    made_st 36 #[.pointer (some ⟨kw, 0, none⟩), .pointer (some ⟨kf, 0, none⟩), .pointer (some ⟨ko, 0, none⟩)] (fun k => k = ko) (fun m => WpJ N0 kw kf ko b c kd seed cell n g a X Y Wn Hn l (!allB (fun x y => wpdB kd seed cell n g a X Y Wn Hn x y) A B P m)) (fun x y => wpdV kd seed cell n g a X Y Wn Hn l x y) A B P Q W (by omega) (by omega) (by omega) (by omega) (by omega) (by omega) (by omega) (by omega)
      (enters_of Tryz.func36 (by kernel_rfl) rfl) (fun k hk => by rw [hk, ← hN]; exact J0.lt.2.2.1) J0 (fun m W1 W2 hz hj hb => hj.under (by rw [hN]; exact hb)) (fun x y _ _ _ _ => wpdV_lt hl.1.2 x y)
      (fun i j hi hj W' hbut hJ => (refwpfld_any (A + (i : Int)) (B + (j : Int)) W' hJ hr (by omega) (by omega) sg c1 c2 sa (by omega) (by omega) (by omega) (by omega)).mono fun e w' ⟨x1, x2, x3⟩ => ⟨x1, x2, by rw [allB_succ _ _ _ _ _ _ hi, Bool.not_and]; exact x3⟩))
  change Hid (∀ (W : World) (kw kf ko N0 : Nat) (hN : N0 = W.heap.size) (J0 : WpJ N0 kw kf ko b c kd seed cell n g a X Y Wn Hn l false W), Calls Tryz.prog 35 #[reg A B P Q, .func (.func 36) #[] #[.pointer (some ⟨kw, 0, none⟩), .pointer (some ⟨kf, 0, none⟩), .pointer (some ⟨ko, 0, none⟩)]] W fun e w' => MadeSP (fun k => k = ko) (WpJ N0 kw kf ko b c kd seed cell n g a X Y Wn Hn l (!wpdA kd seed cell n g a X Y Wn Hn A B P Q)) A B P Q (wpdL kd seed cell n g a X Y Wn Hn l A B P Q) W e w') at KM
  have HOU := Lib.hid (wpdL_out (kd := kd) (seed := seed) (cell := cell) (n := n) (g := g) (a := a) hr A B P Q)
  clear hE hg ha hl hC hr hF hS n1 n2 sg sa c1 c2 q1 q2 q3 q4 q5 q6 q7 q8 HLT
  have HBL := Lib.hid hbl
  clear hbl
  generalize wpdL kd seed cell n g a X Y Wn Hn l A B P Q = L at *
  generalize wpdA kd seed cell n g a X Y Wn Hn A B P Q = al at *
  unfold wpV at *
  generalize (n : Int) = n at *
  go_enter Tryz.func13, Tryz.ntmps13
  go_upto_region 1 with fail
  generalize hW0 : (((w.alloc (.cells #[.int .i64 X, .int .i64 Y, .int .i64 Wn, .int .i64 Hn, .slice (some ⟨b, 0, none⟩) l.length c] 32)).alloc (.cells #[.int .i64 kd, .int .u32 seed, .int .i64 cell, .int .i64 n, .float .f32 g, .float .f32 a] 27)).alloc (.cells #[.int .i64 A, .int .i64 B, .int .i64 P, .int .i64 Q] 29)).alloc (.cells #[.int .i64 0, .int .i64 0, .int .i64 0, .int .i64 0, .slice none 0 0] 32) = W0 at *
  have S0 := Lib.hid (wm_start w X Y Wn Hn b c l kd seed cell n g a A B P Q HL.out W0 hW0.symm)
  clear hW0 HL
  have p0 := S0.out.a.cell 0
  have p1 := S0.out.a.cell 1
  have p2 := S0.out.a.cell 2
  have p3 := S0.out.a.cell 3
  have p4 := S0.out.a.cell 4
  have p5 := S0.out.a.cell 5
  simp at p0 p1 p2 p3 p4 p5
  have l0 := S0.out.a.lt
  obtain ⟨f0, f1, f2, f3, f4⟩ := S0.out.f.cells
  obtain ⟨r0, r1, r2, r3⟩ := S0.out.r.cells
  have l1 := S0.out.f.lt
  have l2 := S0.out.r.lt
  go_wp2_with fail
  refine (KR.out _).mono ?_
  rintro e w3 ⟨rfl, b3⟩
  have S3 := Lib.hid (S0.out.below b3)
  clear b3 S0 KR
  clear p0 p1 p2 p3 p4 p5 l0 f0 f1 f2 f3 f4 r0 r1 r2 r3 l1 l2
  go_upto_region 5 with fail
  have b4 : Below w3.heap.size w3 (w3.alloc (.cells #[.bool false] 4)) := (by repeat (first | with_reducible exact Below.refl _ _ | with_reducible apply Below.drew | with_reducible refine below_drewN ?_ _ | (with_reducible refine Below.setCell ?_ ?_ _; rotate_left; focus (first | omega | (simp <;> omega))) | (with_reducible refine Below.alloc ?_ ?_ _; rotate_left; focus (first | omega | (simp <;> omega)))))
  have S4 := Lib.hid (S3.out.below b4)
  have ok4 : (w3.alloc (.cells #[.bool false] 4)).heap[w3.heap.size]? = some (.cells #[.bool false] 4 (0, 0)) := heap_alloc_new w3 _
  have z4 : (w3.alloc (.cells #[.bool false] 4)).heap.size = w3.heap.size + 1 := by simp
  have zl := S3.out.z.lt
  have hbl := HBL.out
  have J0 : WpJ (w3.alloc (.cells #[.bool false] 4)).heap.size (w.heap.size + 1) w.heap.size w3.heap.size b c kd seed cell n g a X Y Wn Hn l false (w3.alloc (.cells #[.bool false] 4)) :=
    ⟨S4.out.a, S4.out.f, ok4, S4.out.row, ⟨by omega, by omega, by omega, by omega⟩, ⟨by omega, by omega, by omega⟩, Nat.le_refl _⟩
  have HJ0 := Lib.hid J0
  have HZ4 := Lib.hid (show w.heap.size + 1 + 1 + 1 < w3.heap.size from zl)
  have HY4 := Lib.hid z4
  clear b4 S3 ok4 z4 zl hbl J0
  generalize w3.alloc (.cells #[.bool false] 4) = w4 at *
  generalize w3.heap.size = k3 at *
  have p0 := S4.out.a.cell 0
  have p1 := S4.out.a.cell 1
  have p2 := S4.out.a.cell 2
  have p3 := S4.out.a.cell 3
  have p4 := S4.out.a.cell 4
  have p5 := S4.out.a.cell 5
  simp at p0 p1 p2 p3 p4 p5
  have l0 := S4.out.a.lt
  obtain ⟨f0, f1, f2, f3, f4⟩ := S4.out.f.cells
  obtain ⟨r0, r1, r2, r3⟩ := S4.out.r.cells
  have l1 := S4.out.f.lt
  have l2 := S4.out.r.lt
  go_wp2_with fail
  refine (KM.out _ _ _ _ _ rfl HJ0.out).mono ?_
  rintro e w5 ⟨hz0, _, hbut, hJ⟩
  obtain ⟨gg, cap, rfl, ho⟩ := hz0 HOU.out
  clear p0 p1 p2 p3 p4 p5 l0 f0 f1 f2 f3 f4 r0 r1 r2 r3 l1 l2
  go_upto_region 6 with fail
  have hz4 := HZ4.out
  have hy4 := HY4.out
  have zz : Fld w5 (w.heap.size + 1 + 1 + 1) 0 0 0 0 (.slice none 0 0) := (hbut.block _ (by omega) (by omega)).trans S4.out.z
  have bb : Below w.heap.size w w5 := S4.out.b.trans (but_low hbut (B' := w.heap.size) (by omega) (fun k hk => by omega))
  have oo : OwnF w5 w.heap.size gg cap L := ho.base (by omega)
  have gl := ho.lt
  obtain ⟨cok, _⟩ := hJ.cellok
  have z5 := hbut.size
  have b6 : Below w5.heap.size w5 (w5.alloc (.cells #[.int .i64 A, .int .i64 B, .int .i64 P, .int .i64 Q, .slice (some ⟨gg, 0, none⟩) L.length cap] 32)) := (by repeat (first | with_reducible exact Below.refl _ _ | with_reducible apply Below.drew | with_reducible refine below_drewN ?_ _ | (with_reducible refine Below.setCell ?_ ?_ _; rotate_left; focus (first | omega | (simp <;> omega))) | (with_reducible refine Below.alloc ?_ ?_ _; rotate_left; focus (first | omega | (simp <;> omega)))))
  have Z6 := Lib.hid (zz.below b6 zz.lt)
  have B6 := Lib.hid (bb.trans (b6.mono bb.size))
  have O6 := Lib.hid (oo.below b6 oo.lt.2)
  have F6 := Lib.hid (Fld.new w5 A B P Q (.slice (some ⟨gg, 0, none⟩) L.length cap))
  have cok6 := (b6.cell (p := ⟨k3, 0, none⟩) (by simp; omega)).trans cok
  have lk : k3 < (w5.alloc (.cells #[.int .i64 A, .int .i64 B, .int .i64 P, .int .i64 Q, .slice (some ⟨gg, 0, none⟩) L.length cap] 32)).heap.size := by have := b6.size; omega
  have HGZ : Hid (w.heap.size + 1 + 1 + 1 < gg) := by unfold Hid; omega
  have HZ5 : Hid (w.heap.size + 1 + 1 + 1 < w5.heap.size) := by unfold Hid; omega
  clear zz bb oo cok z5 b6 ho hbut hJ S4 HJ0 hz4 hy4 HZ4 HY4 KM gl
  generalize w5.alloc (.cells #[.int .i64 A, .int .i64 B, .int .i64 P, .int .i64 Q, .slice (some ⟨gg, 0, none⟩) L.length cap] 32) = w6 at *
  generalize w5.heap.size = k5 at *
  cases al with
  | false =>
    obtain ⟨g0, g1, g2, g3, g4⟩ := Z6.out.cells
    have qf0 := Z6.out.frozen 0
    have qf1 := Z6.out.frozen 1
    have qf2 := Z6.out.frozen 2
    have qf3 := Z6.out.frozen 3
    have qf4 := Z6.out.frozen 4
    have lz := Z6.out.lt
    go_wp2_with fail
    have B3 := B6.out
    exact bodyPost_ret (v := .tuple #[fldV 0 0 0 0 none 0 0, .int .i64 5]) (by simp [results, Tryz.results13, go_sem, *]) rfl (OpP.err (c := 5) (by decide) rfl (by have hszz := B3.size; repeat (first | with_reducible exact B3 | with_reducible apply Below.drew | with_reducible refine below_drewN ?_ _ | (with_reducible refine Below.setCell ?_ ?_ _; rotate_left; focus (first | omega | (simp <;> omega))) | (with_reducible refine Below.alloc ?_ ?_ _; rotate_left; focus (first | omega | (simp <;> omega))))))
  | true =>
    obtain ⟨g0, g1, g2, g3, g4⟩ := Z6.out.cells
    have qf0 := Z6.out.frozen 0
    have qf1 := Z6.out.frozen 1
    have qf2 := Z6.out.frozen 2
    have qf3 := Z6.out.frozen 3
    have qf4 := Z6.out.frozen 4
    have lz := Z6.out.lt
    obtain ⟨f0, f1, f2, f3, f4⟩ := F6.out.cells
    have lf := F6.out.lt
    have hkz : w.heap.size + 1 + 1 + 1 < k5 := HZ5.out
    go_wp2_with fail
    generalize hW5 : ((((w6.setCell ⟨w.heap.size + 1 + 1 + 1, 0, none⟩ (.int .i64 A)).setCell ⟨w.heap.size + 1 + 1 + 1, 1, none⟩ (.int .i64 B)).setCell ⟨w.heap.size + 1 + 1 + 1, 2, none⟩ (.int .i64 P)).setCell ⟨w.heap.size + 1 + 1 + 1, 3, none⟩ (.int .i64 Q)).setCell ⟨w.heap.size + 1 + 1 + 1, 4, none⟩ (.slice (some ⟨gg, 0, none⟩) L.length cap) = W5 at *
    obtain ⟨h5, bb5, oo5, _, zz5⟩ := fld_store w6 (w.heap.size + 1 + 1 + 1) 0 0 0 0 _ A B P Q (.slice (some ⟨gg, 0, none⟩) L.length cap) Z6.out W5 hW5.symm
    have hO5 := oo5 _ _ _ _ O6.out (by have := HGZ.out; omega)
    have hB5 := B6.out.trans (bb5.mono (by omega))
    clear g0 g1 g2 g3 g4 qf0 qf1 qf2 qf3 qf4 hW5 oo5 f0 f1 f2 f3 f4
    obtain ⟨d0, d1, d2, d3, d4⟩ := h5.cells
    exact bodyPost_ret (v := .tuple #[fldV A B P Q (some ⟨gg, 0, none⟩) L.length cap, .int .i64 0]) (by simp [results, Tryz.results13, go_sem, *]) rfl ⟨⟨A, B, P, Q, _, _, cap, rfl, .inr ⟨rfl, rfl, rfl, rfl, rfl, gg, rfl, rfl, hO5⟩⟩, hB5⟩
end Go.Proofs.YtkmcinibaffpmaaGreat

namespace Go.Proofs.YtkmcinibaffpmaaGreat
open Go.ChangeShapes Go.WideShapes Go.ChangeAt Go.RowKit
open Ieee.Format (fin finE htE allFin allHt all_true all_false mulF subF addF Ht Bd divF rootF floorF easeF mixF)
set_option linter.unusedVariables false
open Wide
open Ieee.Format (reachF)

theorem and7 (n : Int) : ∃ k : Nat, k ≤ 7 ∧ bits .and .i64 n 7 = (k : Int) := by
  refine ⟨(BitVec.ofInt 64 n).toNat &&& 7, Nat.and_le_right, ?_⟩
  have hx : (BitVec.ofInt 64 n).toNat &&& 7 ≤ 7 := Nat.and_le_right
  show IntKind.i64.wrap ((BitVec.ofInt 64 n &&& BitVec.ofInt 64 7).toNat : Int) = _
  rw [BitVec.toNat_and, show (BitVec.ofInt 64 7).toNat = 7 from by decide, IntKind.wrap_i64]
  omega
theorem max_four (a b c d : Int) : ∃ M : Int, (∀ w' : World, (Builtin.max_ #[3, 3, 3, 3] 3 #[.int .i64 a, .int .i64 b, .int .i64 c, .int .i64 d]).run Tryz.prog w' = .ok (.int .i64 M) w') ∧ a ≤ M ∧ b ≤ M ∧ c ≤ M ∧ d ≤ M ∧ (M = a ∨ M = b ∨ M = c ∨ M = d) := by
  obtain ⟨m1, hm1⟩ : ∃ m1, m1 = if b > a then b else a := ⟨_, rfl⟩
  obtain ⟨m2, hm2⟩ : ∃ m2, m2 = if c > m1 then c else m1 := ⟨_, rfl⟩
  obtain ⟨m3, hm3⟩ : ∃ m3, m3 = if d > m2 then d else m2 := ⟨_, rfl⟩
  refine ⟨m3, fun w' => ?_, ?_⟩
  · subst hm3 hm2 hm1; rfl
  · split at hm1 <;> split at hm2 <;> split at hm3 <;> omega
theorem reg_store2 {w : World} {k : Nat} {X Y A B : Int} (h : Reg w k X Y A B) (p q : Int) : Reg ((w.setCell ⟨k, 2, none⟩ (.int .i64 p)).setCell ⟨k, 3, none⟩ (.int .i64 q)) k X Y p q ∧ Below k w ((w.setCell ⟨k, 2, none⟩ (.int .i64 p)).setCell ⟨k, 3, none⟩ (.int .i64 q)) := by
  refine ⟨?_, (by repeat (first | with_reducible exact Below.refl _ _ | with_reducible apply Below.drew | with_reducible refine below_drewN ?_ _ | (with_reducible refine Below.setCell ?_ ?_ _; rotate_left; focus (first | omega | (simp <;> omega))) | (with_reducible refine Below.alloc ?_ ?_ _; rotate_left; focus (first | omega | (simp <;> omega)))))⟩
  have h1 : Reg (w.setCell ⟨k, 2, none⟩ (.int .i64 p)) k X Y p B := by
    unfold Reg at *; exact heap_setCell_same w k 2 _ _ _ h
  unfold Reg at *; exact heap_setCell_same _ k 3 _ _ _ h1
theorem five_other (w : World) (k : Nat) (u0 u1 u2 u3 u4 : Value) : ∀ W', W' = ((((w.setCell ⟨k, 0, none⟩ u0).setCell ⟨k, 1, none⟩ u1).setCell ⟨k, 2, none⟩ u2).setCell ⟨k, 3, none⟩ u3).setCell ⟨k, 4, none⟩ u4 → ∀ j, j ≠ k → W'.heap[j]? = w.heap[j]? := by
  rintro _ rfl j hj
  exact (Below.heap_setCell _ _ _ j hj).trans ((Below.heap_setCell _ _ _ j hj).trans ((Below.heap_setCell _ _ _ j hj).trans ((Below.heap_setCell _ _ _ j hj).trans (Below.heap_setCell _ _ _ j hj))))
/-- what the law keeps -/
structure WlS (w : World) (kd seed cell n : Int) (g a : Nat) (X Y W H : Int) (v : Value) (A B P Q : Int) (wr : World) : Prop where
  a : Blk wr w.heap.size #[.int .i64 kd, .int .u32 seed, .int .i64 cell, .int .i64 n, .float .f32 g, .float .f32 a] 27
  f : Fld wr (w.heap.size + 1) X Y W H v
  r : Reg wr (w.heap.size + 1 + 1) A B P Q
  b : Below w.heap.size w wr
theorem WlS.below {w wr w2 : World} {kd seed cell n : Int} {g a : Nat} {X Y W H : Int} {v : Value} {A B P Q : Int} (h : WlS w kd seed cell n g a X Y W H v A B P Q wr) (hb : Below wr.heap.size wr w2) : WlS w kd seed cell n g a X Y W H v A B P Q w2 :=
  ⟨h.a.below hb h.a.lt, h.f.below hb h.f.lt, h.r.below hb h.r.lt, h.b.trans (hb.mono h.b.size)⟩
theorem WlS.store {w wr : World} {kd seed cell n : Int} {g a : Nat} {X Y W H : Int} {v : Value} {A B P Q : Int} (h : WlS w kd seed cell n g a X Y W H v A B P Q wr) (p q : Int) : WlS w kd seed cell n g a X Y W H v A B p q ((wr.setCell ⟨w.heap.size + 1 + 1, 2, none⟩ (.int .i64 p)).setCell ⟨w.heap.size + 1 + 1, 3, none⟩ (.int .i64 q)) := by
  obtain ⟨x, y⟩ := reg_store2 h.r p q
  exact ⟨h.a.below y (by omega), h.f.below y (by omega), x, h.b.trans (y.mono (by omega))⟩
theorem wl_start (w : World) (kd seed cell n : Int) (g a : Nat) (X Y W H : Int) (v : Value) (A B P Q : Int) : ∀ W0, W0 = ((w.alloc (.cells #[.int .i64 kd, .int .u32 seed, .int .i64 cell, .int .i64 n, .float .f32 g, .float .f32 a] 27)).alloc (.cells #[.int .i64 X, .int .i64 Y, .int .i64 W, .int .i64 H, v] 32)).alloc (.cells #[.int .i64 A, .int .i64 B, .int .i64 P, .int .i64 Q] 29) → WlS w kd seed cell n g a X Y W H v A B P Q W0 := by
  rintro _ rfl
  refine ⟨((Blk.new _ _ _).alloc _).alloc _, ?_, ?_, (by repeat (first | with_reducible exact Below.refl _ _ | with_reducible apply Below.drew | with_reducible refine below_drewN ?_ _ | (with_reducible refine Below.setCell ?_ ?_ _; rotate_left; focus (first | omega | (simp <;> omega))) | (with_reducible refine Below.alloc ?_ ?_ _; rotate_left; focus (first | omega | (simp <;> omega)))))⟩
  · have := (Fld.new (w.alloc (.cells #[.int .i64 kd, .int .u32 seed, .int .i64 cell, .int .i64 n, .float .f32 g, .float .f32 a] 27)) X Y W H v).alloc (.cells #[.int .i64 A, .int .i64 B, .int .i64 P, .int .i64 Q] 29)
    simpa using this
  · have := Reg.new ((w.alloc (.cells #[.int .i64 kd, .int .u32 seed, .int .i64 cell, .int .i64 n, .float .f32 g, .float .f32 a] 27)).alloc (.cells #[.int .i64 X, .int .i64 Y, .int .i64 W, .int .i64 H, v] 32)) A B P Q
    simpa using this
set_option maxRecDepth 100000 in
set_option maxHeartbeats 4000000 in
theorem warps_bad (kd seed cell n : Int) (g a : Nat) (X Y W H : Int) (aa : Option Addr) (cp : Nat) (l : List Nat) (A B P Q x y : Int) (w : World) (HL : Hid (Row63 w aa l)) (z px py : Int) (hz : z ≠ 0)
    (KC1 : Hid (∀ w, Calls Tryz.prog 5 #[wpV kd seed cell n g a] w fun e w' => e = .returned (.int .i64 z) ∧ Below w.heap.size w w'))
    (KC2 : Hid (∀ w, Calls Tryz.prog 6 #[wpV kd seed cell n g a] w fun e w' => e = .returned (.int .i64 z) ∧ Below w.heap.size w w'))
    (KX1 : Hid (∀ w, Calls Tryz.prog 7 #[wpV kd seed cell n g a, .int .i64 x, .int .i64 y] w fun e w' => e = .returned (.tuple #[.agg #[.int .i64 px, .int .i64 py], .int .i64 z]) ∧ Below w.heap.size w w'))
    (KX2 : Hid (∀ w, Calls Tryz.prog 8 #[wpV kd seed cell n g a, .int .i64 x, .int .i64 y] w fun e w' => e = .returned (.tuple #[.agg #[.int .i64 px, .int .i64 py], .int .i64 z]) ∧ Below w.heap.size w w'))
    (KM1 : Hid (∀ w, Calls Tryz.prog 9 #[wpV kd seed cell n g a] w fun e w' => e = .returned (.tuple #[.int .i64 0, .int .i64 z]) ∧ Below w.heap.size w w'))
    (KW1 : Hid (∀ (X Y : Int) (Wn Hn b c : Nat) (l : List Nat) (A B P Q : Int) (w : World), SRow w (some ⟨b, 0, none⟩) l → Calls Tryz.prog 11 #[fldV X Y Wn Hn (some ⟨b, 0, none⟩) l.length c, wpV kd seed cell n g a, reg A B P Q] w fun e w' => e = .returned (.tuple #[fldV 0 0 0 0 none 0 0, .int .i64 z]) ∧ Below w.heap.size w w')) :
    Calls Tryz.prog 3 #[wpV kd seed cell n g a, fldV X Y W H aa l.length cp, reg A B P Q, .int .i64 x, .int .i64 y] w fun e w' => e = .returned (.bool true) ∧ Below w.heap.size w w' := by
  have hne : (z != z) = false := by simp
  have hne0 : (z != 0) = true := by simpa using hz
  obtain ⟨p, hp, eA⟩ := and7 P
  obtain ⟨q, hq, eB⟩ := and7 Q
  unfold wpV at *
  have v1 : IntKind.i64.wrap (1 + (p : Int)) = 1 + (p : Int) := IntWalk.i64_in _ (by omega)
  have v2 : IntKind.i64.wrap (1 + (q : Int)) = 1 + (q : Int) := IntWalk.i64_in _ (by omega)
  go_enter Tryz.func3, Tryz.ntmps3
  go_upto_region 1 with fail
  generalize hW0 : ((w.alloc (.cells #[.int .i64 kd, .int .u32 seed, .int .i64 cell, .int .i64 n, .float .f32 g, .float .f32 a] 27)).alloc (.cells #[.int .i64 X, .int .i64 Y, .int .i64 W, .int .i64 H, .slice aa l.length cp] 32)).alloc (.cells #[.int .i64 A, .int .i64 B, .int .i64 P, .int .i64 Q] 29) = W0 at *
  have S0 := Lib.hid (wl_start w kd seed cell n g a X Y W H (.slice aa l.length cp) A B P Q W0 hW0.symm)
  clear hW0
  go_wp2_with fail
  refine (landed_bel _).mono ?_
  rintro e w1 ⟨rfl, b1⟩
  have S1 := Lib.hid (S0.out.below b1)
  clear b1 S0
  have p0 := S1.out.a.cell 0
  have p1 := S1.out.a.cell 1
  have p2 := S1.out.a.cell 2
  have p3 := S1.out.a.cell 3
  have p4 := S1.out.a.cell 4
  have p5 := S1.out.a.cell 5
  simp at p0 p1 p2 p3 p4 p5
  have l0 := S1.out.a.lt
  go_wp2_with fail
  refine (KC1.out _).mono ?_
  rintro e w2 ⟨rfl, b2⟩
  have S2 := Lib.hid (S1.out.below b2)
  clear b2 S1 KC1
  clear p0 p1 p2 p3 p4 p5 l0
  have p0 := S2.out.a.cell 0
  have p1 := S2.out.a.cell 1
  have p2 := S2.out.a.cell 2
  have p3 := S2.out.a.cell 3
  have p4 := S2.out.a.cell 4
  have p5 := S2.out.a.cell 5
  simp at p0 p1 p2 p3 p4 p5
  have l0 := S2.out.a.lt
  go_wp2_with fail
  refine (KC2.out _).mono ?_
  rintro e w3 ⟨rfl, b3⟩
  have S3 := Lib.hid (S2.out.below b3)
  clear b3 S2 KC2
  clear p0 p1 p2 p3 p4 p5 l0
  have p0 := S3.out.a.cell 0
  have p1 := S3.out.a.cell 1
  have p2 := S3.out.a.cell 2
  have p3 := S3.out.a.cell 3
  have p4 := S3.out.a.cell 4
  have p5 := S3.out.a.cell 5
  simp at p0 p1 p2 p3 p4 p5
  have l0 := S3.out.a.lt
  go_wp2_with fail
  refine (KX1.out _).mono ?_
  rintro e w4 ⟨rfl, b4⟩
  clear p0 p1 p2 p3 p4 p5 l0
  go_upto_region 7 with fail
  have c4 : Below w4.heap.size w4 (w4.alloc (.cells #[.int .i64 px, .int .i64 py] 37)) := (by repeat (first | with_reducible exact Below.refl _ _ | with_reducible apply Below.drew | with_reducible refine below_drewN ?_ _ | (with_reducible refine Below.setCell ?_ ?_ _; rotate_left; focus (first | omega | (simp <;> omega))) | (with_reducible refine Below.alloc ?_ ?_ _; rotate_left; focus (first | omega | (simp <;> omega)))))
  have S4 := Lib.hid ((S3.out.below b4).below c4)
  have P4 := Lib.hid (Blk.new w4 #[.int .i64 px, .int .i64 py] 37)
  have HPK : Hid (w.heap.size + 1 + 1 < w4.heap.size) := (S3.out.below b4).r.lt
  clear b4 c4 S3 KX1
  generalize w4.alloc (.cells #[.int .i64 px, .int .i64 py] 37) = w5 at *
  generalize w4.heap.size = k4 at *
  have p0 := S4.out.a.cell 0
  have p1 := S4.out.a.cell 1
  have p2 := S4.out.a.cell 2
  have p3 := S4.out.a.cell 3
  have p4 := S4.out.a.cell 4
  have p5 := S4.out.a.cell 5
  simp at p0 p1 p2 p3 p4 p5
  have l0 := S4.out.a.lt
  go_wp2_with fail
  refine (KX2.out _).mono ?_
  rintro e w6 ⟨rfl, b6⟩
  clear p0 p1 p2 p3 p4 p5 l0
  go_upto_region 8 with fail
  have c6 : Below w6.heap.size w6 (w6.alloc (.cells #[.int .i64 px, .int .i64 py] 37)) := (by repeat (first | with_reducible exact Below.refl _ _ | with_reducible apply Below.drew | with_reducible refine below_drewN ?_ _ | (with_reducible refine Below.setCell ?_ ?_ _; rotate_left; focus (first | omega | (simp <;> omega))) | (with_reducible refine Below.alloc ?_ ?_ _; rotate_left; focus (first | omega | (simp <;> omega)))))
  have S6 := Lib.hid ((S4.out.below b6).below c6)
  have P6 := Lib.hid ((P4.out.below b6 P4.out.lt).below c6 (P4.out.below b6 P4.out.lt).lt)
  have Q6 := Lib.hid (Blk.new w6 #[.int .i64 px, .int .i64 py] 37)
  clear b6 c6 S4 P4 KX2
  generalize w6.alloc (.cells #[.int .i64 px, .int .i64 py] 37) = w7 at *
  generalize w6.heap.size = k6 at *
  have p0 := S6.out.a.cell 0
  have p1 := S6.out.a.cell 1
  have p2 := S6.out.a.cell 2
  have p3 := S6.out.a.cell 3
  have p4 := S6.out.a.cell 4
  have p5 := S6.out.a.cell 5
  simp at p0 p1 p2 p3 p4 p5
  have l0 := S6.out.a.lt
  go_wp2_with fail
  refine (KM1.out _).mono ?_
  rintro e w8 ⟨rfl, b8⟩
  clear p0 p1 p2 p3 p4 p5 l0
  have S8 := Lib.hid (S6.out.below b8)
  have P8 := Lib.hid (P6.out.below b8 P6.out.lt)
  have Q8 := Lib.hid (Q6.out.below b8 Q6.out.lt)
  clear b8 S6 P6 Q6 KM1
  have t0 := P8.out.cell 0
  have t1 := P8.out.cell 1
  have u0 := Q8.out.cell 0
  have u1 := Q8.out.cell 1
  simp at t0 t1 u0 u1
  have lt := P8.out.lt
  have lu := Q8.out.lt
  go_upto_region 11 with fail
  clear t0 t1 u0 u1 lt lu
  obtain ⟨f0, f1, f2, f3, f4⟩ := S8.out.f.cells
  have lf := S8.out.f.lt
  have qf0 := S8.out.f.frozen 0
  have qf1 := S8.out.f.frozen 1
  have qf2 := S8.out.f.frozen 2
  have qf3 := S8.out.f.frozen 3
  have qf4 := S8.out.f.frozen 4
  go_wp2_with fail
  refine (fit_any X Y W H aa cp l w8 (HL.out.below S8.out.b)).mono ?_
  rintro e w9 ⟨X', Y', Wn, Hn, gg, cap', l', rfl, hr, hsm, ho, b9⟩
  clear f0 f1 f2 f3 f4 lf qf0 qf1 qf2 qf3 qf4
  have S9 := Lib.hid (S8.out.below b9)
  have P9 := Lib.hid (P8.out.below b9 P8.out.lt)
  have HR := Lib.hid hr
  have hml : l'.length ≤ 1099511627776 := by
    have h1 := Nat.mul_le_mul hr.h2 hr.w2
    rw [← hr.len] at h1
    omega
  have HML := Lib.hid hml
  have hgk : w.heap.size + 1 + 1 < gg := by have := ho.lt.1; have := S8.out.r.lt; omega
  have HGK := Lib.hid hgk
  have hpk : w.heap.size + 1 + 1 < k4 := HPK.out
  have HO := Lib.hid ho
  clear b9 S8 P8 Q8 hr hml ho hsm HL
  obtain ⟨f0, f1, f2, f3, f4⟩ := S9.out.f.cells
  have lf := S9.out.f.lt
  have qf0 := S9.out.f.frozen 0
  have qf1 := S9.out.f.frozen 1
  have qf2 := S9.out.f.frozen 2
  have qf3 := S9.out.f.frozen 3
  have qf4 := S9.out.f.frozen 4
  go_upto_region 12 with fail
  generalize hW10 : ((((w9.setCell ⟨w.heap.size + 1, 0, none⟩ (.int .i64 X')).setCell ⟨w.heap.size + 1, 1, none⟩ (.int .i64 Y')).setCell ⟨w.heap.size + 1, 2, none⟩ (.int .i64 (Wn : Int))).setCell ⟨w.heap.size + 1, 3, none⟩ (.int .i64 (Hn : Int))).setCell ⟨w.heap.size + 1, 4, none⟩ (.slice (some ⟨gg, 0, none⟩) l'.length cap') = w10 at *
  obtain ⟨f10, bb10, oo10, _, z10⟩ := fld_store w9 (w.heap.size + 1) X Y W H _ X' Y' Wn Hn (.slice (some ⟨gg, 0, none⟩) l'.length cap') S9.out.f w10 hW10.symm
  have ot := five_other w9 (w.heap.size + 1) (.int .i64 X') (.int .i64 Y') (.int .i64 (Wn : Int)) (.int .i64 (Hn : Int)) (.slice (some ⟨gg, 0, none⟩) l'.length cap') w10 hW10.symm
  have S10 : WlS w kd seed cell n g a X' Y' Wn Hn (.slice (some ⟨gg, 0, none⟩) l'.length cap') A B P Q w10 :=
    ⟨S9.out.a.below bb10 (by omega), f10, (ot _ (by omega)).trans S9.out.r, S9.out.b.trans (bb10.mono (by omega))⟩
  have S10 := Lib.hid S10
  have P10 : Blk w10 k4 #[.int .i64 px, .int .i64 py] 37 := (ot _ (by omega)).trans P9.out
  have P10 := Lib.hid P10
  have HO10 := Lib.hid (oo10 _ _ _ _ HO.out (by omega))
  clear hW10 f10 bb10 oo10 z10 ot S9 P9 HO f0 f1 f2 f3 f4 lf qf0 qf1 qf2 qf3 qf4
  obtain ⟨r0, r1, r2, r3⟩ := S10.out.r.cells
  have lr := S10.out.r.lt
  have fr2 := frozen_of_row _ _ 2 _ _ S10.out.r
  have fr3 := frozen_of_row _ _ 3 _ _ S10.out.r
  go_upto_region 13 with fail
  have S12 := Lib.hid (S10.out.store (1 + (p : Int)) (1 + (q : Int)))
  have P12 : Blk ((w10.setCell ⟨w.heap.size + 1 + 1, 2, none⟩ (.int .i64 (1 + (p : Int)))).setCell ⟨w.heap.size + 1 + 1, 3, none⟩ (.int .i64 (1 + (q : Int)))) k4 #[.int .i64 px, .int .i64 py] 37 :=
    (Below.heap_setCell _ _ _ k4 (by simp; omega)).trans ((Below.heap_setCell _ _ _ k4 (by simp; omega)).trans P10.out)
  have P12 := Lib.hid P12
  have ho10 := HO10.out
  have HO12 : OwnF ((w10.setCell ⟨w.heap.size + 1 + 1, 2, none⟩ (.int .i64 (1 + (p : Int)))).setCell ⟨w.heap.size + 1 + 1, 3, none⟩ (.int .i64 (1 + (q : Int)))) w8.heap.size gg cap' l' := (by have hgg := ho10.lt; repeat (first | with_reducible exact ho10 | with_reducible refine OwnF.drew ?_ | with_reducible refine OwnF.drewN ?_ _ | (with_reducible refine OwnF.setCell ?_ ?_ _; rotate_left; focus (first | omega | (simp <;> omega))) | with_reducible refine OwnF.alloc ?_ _))
  have HO12 := Lib.hid HO12
  generalize (w10.setCell ⟨w.heap.size + 1 + 1, 2, none⟩ (.int .i64 (1 + (p : Int)))).setCell ⟨w.heap.size + 1 + 1, 3, none⟩ (.int .i64 (1 + (q : Int))) = w12 at *
  clear r0 r1 r2 r3 lr fr2 fr3 S10 P10 HO10 ho10 hpk
  have HRW := Lib.hid (HO12.out.row HML.out)
  clear P12 HO12
  obtain ⟨f0, f1, f2, f3, f4⟩ := S12.out.f.cells
  have lf := S12.out.f.lt
  obtain ⟨r0, r1, r2, r3⟩ := S12.out.r.cells
  have lr := S12.out.r.lt
  have p0 := S12.out.a.cell 0
  have p1 := S12.out.a.cell 1
  have p2 := S12.out.a.cell 2
  have p3 := S12.out.a.cell 3
  have p4 := S12.out.a.cell 4
  have p5 := S12.out.a.cell 5
  simp at p0 p1 p2 p3 p4 p5
  have l0 := S12.out.a.lt
  go_wp2_with fail
  refine (KW1.out _ _ _ _ _ _ _ _ _ _ _ _ HRW.out).mono ?_
  rintro e w13 ⟨rfl, b13⟩
  go_upto_region 15 with fail
  have c13 : Below w13.heap.size w13 (w13.alloc (.cells #[.int .i64 0, .int .i64 0, .int .i64 0, .int .i64 0, .slice none 0 0] 32)) := (by repeat (first | with_reducible exact Below.refl _ _ | with_reducible apply Below.drew | with_reducible refine below_drewN ?_ _ | (with_reducible refine Below.setCell ?_ ?_ _; rotate_left; focus (first | omega | (simp <;> omega))) | (with_reducible refine Below.alloc ?_ ?_ _; rotate_left; focus (first | omega | (simp <;> omega)))))
  have B14 := Lib.hid (S12.out.b.trans ((b13.mono S12.out.b.size).trans (c13.mono (Nat.le_trans S12.out.b.size b13.size))))
  generalize w13.alloc (.cells #[.int .i64 0, .int .i64 0, .int .i64 0, .int .i64 0, .slice none 0 0] 32) = w14 at *
  go_wp2_with fail
  go_ret
  exact ⟨rfl, B14.out⟩
set_option maxRecDepth 100000 in
set_option maxHeartbeats 4000000 in
theorem warps_good (kd seed cell n : Int) (g a : Nat) (X Y W H : Int) (aa : Option Addr) (cp : Nat) (l : List Nat) (A B P Q x y : Int) (w : World) (HL : Hid (Row63 w aa l)) (z px py m : Int) (p q : Nat) (hp : p ≤ 7) (hq : q ≤ 7) (eA : bits .and .i64 P 7 = (p : Int)) (eB : bits .and .i64 Q 7 = (q : Int))
    (K : Int → Int → Nat → Nat → List Nat → Int) (L : Int → Int → Nat → Nat → List Nat → List Nat) (HS : Hid (∀ X Y Wn Hn l, (L X Y Wn Hn l).length ≤ 1099511627776))
    (HZ : Hid (z = 0 → (-4194304 ≤ x ∧ x ≤ 4194304 ∧ -4194304 ≤ y ∧ y ≤ 4194304 ∧ px - x ≤ m ∧ x - px ≤ m ∧ py - y ≤ m ∧ y - py ≤ m ∧ 0 ≤ m ∧ m ≤ 2049)))
    (KC1 : Hid (∀ w, Calls Tryz.prog 5 #[wpV kd seed cell n g a] w fun e w' => e = .returned (.int .i64 0) ∧ Below w.heap.size w w'))
    (KC2 : Hid (∀ w, Calls Tryz.prog 6 #[wpV kd seed cell n g a] w fun e w' => e = .returned (.int .i64 0) ∧ Below w.heap.size w w'))
    (KX1 : Hid (∀ w, Calls Tryz.prog 7 #[wpV kd seed cell n g a, .int .i64 x, .int .i64 y] w fun e w' => e = .returned (.tuple #[.agg #[.int .i64 px, .int .i64 py], .int .i64 z]) ∧ Below w.heap.size w w'))
    (KX2 : Hid (∀ w, Calls Tryz.prog 8 #[wpV kd seed cell n g a, .int .i64 x, .int .i64 y] w fun e w' => e = .returned (.tuple #[.agg #[.int .i64 px, .int .i64 py], .int .i64 z]) ∧ Below w.heap.size w w'))
    (KM1 : Hid (∀ w, Calls Tryz.prog 9 #[wpV kd seed cell n g a] w fun e w' => e = .returned (.tuple #[.int .i64 m, .int .i64 0]) ∧ Below w.heap.size w w'))
    (KM2 : Hid (∀ w, Calls Tryz.prog 12 #[wpV kd seed cell n g a] w fun e w' => e = .returned (.int .i64 m) ∧ Below w.heap.size w w'))
    (KW1 : Hid (∀ (X Y : Int) (Wn Hn b c : Nat) (l : List Nat) (w : World), SRow w (some ⟨b, 0, none⟩) l → b < w.heap.size → Right X Y Wn Hn l → Calls Tryz.prog 11 #[fldV X Y Wn Hn (some ⟨b, 0, none⟩) l.length c, wpV kd seed cell n g a, reg A B (1 + (p : Int)) (1 + (q : Int))] w fun e w' => OpP (K X Y Wn Hn l) A B (1 + (p : Int)) (1 + (q : Int)) (L X Y Wn Hn l) w e w'))
    (KW2 : Hid (∀ (X Y : Int) (Wn Hn b c : Nat) (l : List Nat) (w : World), SRow w (some ⟨b, 0, none⟩) l → b < w.heap.size → Right X Y Wn Hn l → Calls Tryz.prog 13 #[fldV X Y Wn Hn (some ⟨b, 0, none⟩) l.length c, wpV kd seed cell n g a, reg A B (1 + (p : Int)) (1 + (q : Int))] w fun e w' => OpP (K X Y Wn Hn l) A B (1 + (p : Int)) (1 + (q : Int)) (L X Y Wn Hn l) w e w')) :
    Calls Tryz.prog 3 #[wpV kd seed cell n g a, fldV X Y W H aa l.length cp, reg A B P Q, .int .i64 x, .int .i64 y] w fun e w' => e = .returned (.bool true) ∧ Below w.heap.size w w' := by
  have hne : (z != z) = false := by simp
  have hm : (m != m) = false := by simp
  have v1 : IntKind.i64.wrap (1 + (p : Int)) = 1 + (p : Int) := IntWalk.i64_in _ (by omega)
  have v2 : IntKind.i64.wrap (1 + (q : Int)) = 1 + (q : Int) := IntWalk.i64_in _ (by omega)
  unfold wpV at *
  go_enter Tryz.func3, Tryz.ntmps3
  go_upto_region 1 with fail
  generalize hW0 : ((w.alloc (.cells #[.int .i64 kd, .int .u32 seed, .int .i64 cell, .int .i64 n, .float .f32 g, .float .f32 a] 27)).alloc (.cells #[.int .i64 X, .int .i64 Y, .int .i64 W, .int .i64 H, .slice aa l.length cp] 32)).alloc (.cells #[.int .i64 A, .int .i64 B, .int .i64 P, .int .i64 Q] 29) = W0 at *
  have S0 := Lib.hid (wl_start w kd seed cell n g a X Y W H (.slice aa l.length cp) A B P Q W0 hW0.symm)
  clear hW0
  go_wp2_with fail
  refine (landed_bel _).mono ?_
  rintro e w1 ⟨rfl, b1⟩
  have S1 := Lib.hid (S0.out.below b1)
  clear b1 S0
  have p0 := S1.out.a.cell 0
  have p1 := S1.out.a.cell 1
  have p2 := S1.out.a.cell 2
  have p3 := S1.out.a.cell 3
  have p4 := S1.out.a.cell 4
  have p5 := S1.out.a.cell 5
  simp at p0 p1 p2 p3 p4 p5
  have l0 := S1.out.a.lt
  go_wp2_with fail
  refine (KC1.out _).mono ?_
  rintro e w2 ⟨rfl, b2⟩
  have S2 := Lib.hid (S1.out.below b2)
  clear b2 S1 KC1
  clear p0 p1 p2 p3 p4 p5 l0
  have p0 := S2.out.a.cell 0
  have p1 := S2.out.a.cell 1
  have p2 := S2.out.a.cell 2
  have p3 := S2.out.a.cell 3
  have p4 := S2.out.a.cell 4
  have p5 := S2.out.a.cell 5
  simp at p0 p1 p2 p3 p4 p5
  have l0 := S2.out.a.lt
  go_wp2_with fail
  refine (KC2.out _).mono ?_
  rintro e w3 ⟨rfl, b3⟩
  have S3 := Lib.hid (S2.out.below b3)
  clear b3 S2 KC2
  clear p0 p1 p2 p3 p4 p5 l0
  have p0 := S3.out.a.cell 0
  have p1 := S3.out.a.cell 1
  have p2 := S3.out.a.cell 2
  have p3 := S3.out.a.cell 3
  have p4 := S3.out.a.cell 4
  have p5 := S3.out.a.cell 5
  simp at p0 p1 p2 p3 p4 p5
  have l0 := S3.out.a.lt
  go_wp2_with fail
  refine (KX1.out _).mono ?_
  rintro e w4 ⟨rfl, b4⟩
  clear p0 p1 p2 p3 p4 p5 l0
  go_upto_region 7 with fail
  have c4 : Below w4.heap.size w4 (w4.alloc (.cells #[.int .i64 px, .int .i64 py] 37)) := (by repeat (first | with_reducible exact Below.refl _ _ | with_reducible apply Below.drew | with_reducible refine below_drewN ?_ _ | (with_reducible refine Below.setCell ?_ ?_ _; rotate_left; focus (first | omega | (simp <;> omega))) | (with_reducible refine Below.alloc ?_ ?_ _; rotate_left; focus (first | omega | (simp <;> omega)))))
  have S4 := Lib.hid ((S3.out.below b4).below c4)
  have P4 := Lib.hid (Blk.new w4 #[.int .i64 px, .int .i64 py] 37)
  have HPK : Hid (w.heap.size + 1 + 1 < w4.heap.size) := (S3.out.below b4).r.lt
  clear b4 c4 S3 KX1
  generalize w4.alloc (.cells #[.int .i64 px, .int .i64 py] 37) = w5 at *
  generalize w4.heap.size = k4 at *
  have p0 := S4.out.a.cell 0
  have p1 := S4.out.a.cell 1
  have p2 := S4.out.a.cell 2
  have p3 := S4.out.a.cell 3
  have p4 := S4.out.a.cell 4
  have p5 := S4.out.a.cell 5
  simp at p0 p1 p2 p3 p4 p5
  have l0 := S4.out.a.lt
  go_wp2_with fail
  refine (KX2.out _).mono ?_
  rintro e w6 ⟨rfl, b6⟩
  clear p0 p1 p2 p3 p4 p5 l0
  go_upto_region 8 with fail
  have c6 : Below w6.heap.size w6 (w6.alloc (.cells #[.int .i64 px, .int .i64 py] 37)) := (by repeat (first | with_reducible exact Below.refl _ _ | with_reducible apply Below.drew | with_reducible refine below_drewN ?_ _ | (with_reducible refine Below.setCell ?_ ?_ _; rotate_left; focus (first | omega | (simp <;> omega))) | (with_reducible refine Below.alloc ?_ ?_ _; rotate_left; focus (first | omega | (simp <;> omega)))))
  have S6 := Lib.hid ((S4.out.below b6).below c6)
  have P6 := Lib.hid ((P4.out.below b6 P4.out.lt).below c6 (P4.out.below b6 P4.out.lt).lt)
  have Q6 := Lib.hid (Blk.new w6 #[.int .i64 px, .int .i64 py] 37)
  clear b6 c6 S4 P4 KX2
  generalize w6.alloc (.cells #[.int .i64 px, .int .i64 py] 37) = w7 at *
  generalize w6.heap.size = k6 at *
  have p0 := S6.out.a.cell 0
  have p1 := S6.out.a.cell 1
  have p2 := S6.out.a.cell 2
  have p3 := S6.out.a.cell 3
  have p4 := S6.out.a.cell 4
  have p5 := S6.out.a.cell 5
  simp at p0 p1 p2 p3 p4 p5
  have l0 := S6.out.a.lt
  go_wp2_with fail
  refine (KM1.out _).mono ?_
  rintro e w8 ⟨rfl, b8⟩
  clear p0 p1 p2 p3 p4 p5 l0
  have S8 := Lib.hid (S6.out.below b8)
  have P8 := Lib.hid (P6.out.below b8 P6.out.lt)
  have Q8 := Lib.hid (Q6.out.below b8 Q6.out.lt)
  clear b8 S6 P6 Q6 KM1
  have t0 := P8.out.cell 0
  have t1 := P8.out.cell 1
  have u0 := Q8.out.cell 0
  have u1 := Q8.out.cell 1
  simp at t0 t1 u0 u1
  have lt := P8.out.lt
  have lu := Q8.out.lt
  go_upto_region 11 with fail
  clear t0 t1 u0 u1 lt lu
  obtain ⟨f0, f1, f2, f3, f4⟩ := S8.out.f.cells
  have lf := S8.out.f.lt
  have qf0 := S8.out.f.frozen 0
  have qf1 := S8.out.f.frozen 1
  have qf2 := S8.out.f.frozen 2
  have qf3 := S8.out.f.frozen 3
  have qf4 := S8.out.f.frozen 4
  go_wp2_with fail
  refine (fit_any X Y W H aa cp l w8 (HL.out.below S8.out.b)).mono ?_
  rintro e w9 ⟨X', Y', Wn, Hn, gg, cap', l', rfl, hr, hsm, ho, b9⟩
  clear f0 f1 f2 f3 f4 lf qf0 qf1 qf2 qf3 qf4
  have S9 := Lib.hid (S8.out.below b9)
  have P9 := Lib.hid (P8.out.below b9 P8.out.lt)
  have HR := Lib.hid hr
  have hml : l'.length ≤ 1099511627776 := by
    have h1 := Nat.mul_le_mul hr.h2 hr.w2
    rw [← hr.len] at h1
    omega
  have HML := Lib.hid hml
  have hgk : w.heap.size + 1 + 1 < gg := by have := ho.lt.1; have := S8.out.r.lt; omega
  have HGK := Lib.hid hgk
  have hpk : w.heap.size + 1 + 1 < k4 := HPK.out
  have HO := Lib.hid ho
  clear b9 S8 P8 Q8 hr hml ho hsm HL
  obtain ⟨f0, f1, f2, f3, f4⟩ := S9.out.f.cells
  have lf := S9.out.f.lt
  have qf0 := S9.out.f.frozen 0
  have qf1 := S9.out.f.frozen 1
  have qf2 := S9.out.f.frozen 2
  have qf3 := S9.out.f.frozen 3
  have qf4 := S9.out.f.frozen 4
  go_upto_region 12 with fail
  generalize hW10 : ((((w9.setCell ⟨w.heap.size + 1, 0, none⟩ (.int .i64 X')).setCell ⟨w.heap.size + 1, 1, none⟩ (.int .i64 Y')).setCell ⟨w.heap.size + 1, 2, none⟩ (.int .i64 (Wn : Int))).setCell ⟨w.heap.size + 1, 3, none⟩ (.int .i64 (Hn : Int))).setCell ⟨w.heap.size + 1, 4, none⟩ (.slice (some ⟨gg, 0, none⟩) l'.length cap') = w10 at *
  obtain ⟨f10, bb10, oo10, _, z10⟩ := fld_store w9 (w.heap.size + 1) X Y W H _ X' Y' Wn Hn (.slice (some ⟨gg, 0, none⟩) l'.length cap') S9.out.f w10 hW10.symm
  have ot := five_other w9 (w.heap.size + 1) (.int .i64 X') (.int .i64 Y') (.int .i64 (Wn : Int)) (.int .i64 (Hn : Int)) (.slice (some ⟨gg, 0, none⟩) l'.length cap') w10 hW10.symm
  have S10 : WlS w kd seed cell n g a X' Y' Wn Hn (.slice (some ⟨gg, 0, none⟩) l'.length cap') A B P Q w10 :=
    ⟨S9.out.a.below bb10 (by omega), f10, (ot _ (by omega)).trans S9.out.r, S9.out.b.trans (bb10.mono (by omega))⟩
  have S10 := Lib.hid S10
  have P10 : Blk w10 k4 #[.int .i64 px, .int .i64 py] 37 := (ot _ (by omega)).trans P9.out
  have P10 := Lib.hid P10
  have HO10 := Lib.hid (oo10 _ _ _ _ HO.out (by omega))
  clear hW10 f10 bb10 oo10 z10 ot S9 P9 HO f0 f1 f2 f3 f4 lf qf0 qf1 qf2 qf3 qf4
  obtain ⟨r0, r1, r2, r3⟩ := S10.out.r.cells
  have lr := S10.out.r.lt
  have fr2 := frozen_of_row _ _ 2 _ _ S10.out.r
  have fr3 := frozen_of_row _ _ 3 _ _ S10.out.r
  go_upto_region 13 with fail
  have S12 := Lib.hid (S10.out.store (1 + (p : Int)) (1 + (q : Int)))
  have P12 : Blk ((w10.setCell ⟨w.heap.size + 1 + 1, 2, none⟩ (.int .i64 (1 + (p : Int)))).setCell ⟨w.heap.size + 1 + 1, 3, none⟩ (.int .i64 (1 + (q : Int)))) k4 #[.int .i64 px, .int .i64 py] 37 :=
    (Below.heap_setCell _ _ _ k4 (by simp; omega)).trans ((Below.heap_setCell _ _ _ k4 (by simp; omega)).trans P10.out)
  have P12 := Lib.hid P12
  have ho10 := HO10.out
  have HO12 : OwnF ((w10.setCell ⟨w.heap.size + 1 + 1, 2, none⟩ (.int .i64 (1 + (p : Int)))).setCell ⟨w.heap.size + 1 + 1, 3, none⟩ (.int .i64 (1 + (q : Int)))) w8.heap.size gg cap' l' := (by have hgg := ho10.lt; repeat (first | with_reducible exact ho10 | with_reducible refine OwnF.drew ?_ | with_reducible refine OwnF.drewN ?_ _ | (with_reducible refine OwnF.setCell ?_ ?_ _; rotate_left; focus (first | omega | (simp <;> omega))) | with_reducible refine OwnF.alloc ?_ _))
  have HO12 := Lib.hid HO12
  generalize (w10.setCell ⟨w.heap.size + 1 + 1, 2, none⟩ (.int .i64 (1 + (p : Int)))).setCell ⟨w.heap.size + 1 + 1, 3, none⟩ (.int .i64 (1 + (q : Int))) = w12 at *
  clear r0 r1 r2 r3 lr fr2 fr3 S10 P10 HO10 ho10 hpk
  have HRW := Lib.hid (HO12.out.row HML.out)
  clear v1 v2
  have HV : Hid (p ≤ 7 ∧ q ≤ 7) := ⟨hp, hq⟩
  have p0 := S12.out.a.cell 0
  have p1 := S12.out.a.cell 1
  have p2 := S12.out.a.cell 2
  have p3 := S12.out.a.cell 3
  have p4 := S12.out.a.cell 4
  have p5 := S12.out.a.cell 5
  simp at p0 p1 p2 p3 p4 p5
  have l0 := S12.out.a.lt
  go_wp2_with fail
  refine (KM2.out _).mono ?_
  rintro e w20 ⟨rfl, b20⟩
  clear p0 p1 p2 p3 p4 p5 l0
  have S20 := Lib.hid (S12.out.below b20)
  have P20 := Lib.hid (P12.out.below b20 P12.out.lt)
  have HO20 := Lib.hid (HO12.out.below b20 HO12.out.lt.2)
  have HRW20 := Lib.hid (HRW.out.below b20)
  clear b20 S12 P12 HO12 HRW KM2
  generalize w12.heap.size = B11 at *
  by_cases hz : z = 0
  · obtain ⟨e1, e2, e3, e4, e5, e6, e7, e8, e9, e10⟩ := HZ.out hz
    subst hz
    obtain ⟨M, hM, m1, m2, m3, m4, m5⟩ := max_four (px - x) (x - px) (py - y) (y - py)
    have hb : ¬ m < M := by omega
    have y1 : IntKind.i64.wrap (px - x) = px - x := IntWalk.i64_in _ (by omega)
    have y2 : IntKind.i64.wrap (x - px) = x - px := IntWalk.i64_in _ (by omega)
    have y3 : IntKind.i64.wrap (py - y) = py - y := IntWalk.i64_in _ (by omega)
    have y4 : IntKind.i64.wrap (y - py) = y - py := IntWalk.i64_in _ (by omega)
    clear e1 e2 e3 e4 e5 e6 e7 e8 e9 e10 m1 m2 m3 m4 m5 HZ
    have t0 := P20.out.cell 0
    have t1 := P20.out.cell 1
    simp at t0 t1
    have lt := P20.out.lt
    go_upto_region 18 with fail
    clear t0 t1 lt P20 y1 y2 y3 y4 hM hb
    obtain ⟨f0, f1, f2, f3, f4⟩ := S20.out.f.cells
    have lf := S20.out.f.lt
    obtain ⟨r0, r1, r2, r3⟩ := S20.out.r.cells
    have lr := S20.out.r.lt
    have p0 := S20.out.a.cell 0
    have p1 := S20.out.a.cell 1
    have p2 := S20.out.a.cell 2
    have p3 := S20.out.a.cell 3
    have p4 := S20.out.a.cell 4
    have p5 := S20.out.a.cell 5
    simp at p0 p1 p2 p3 p4 p5
    have l0 := S20.out.a.lt
    have hbk : gg < w20.heap.size := HO20.out.lt.2
    go_wp2_with fail
    refine (KW1.out _ _ _ _ _ _ _ _ HRW20.out hbk HR.out).mono ?_
    rintro e w13 ⟨⟨X1, Y1, P1, Q1, a1, n1, k1, rfl, o1⟩, b13⟩
    clear f0 f1 f2 f3 f4 lf r0 r1 r2 r3 lr hbk
    clear p0 p1 p2 p3 p4 p5 l0
    go_upto_region 19 with fail
    have bA : Below w13.heap.size w13 (w13.alloc (.cells #[.int .i64 X1, .int .i64 Y1, .int .i64 P1, .int .i64 Q1, .slice a1 n1 k1] 32)) := (by repeat (first | with_reducible exact Below.refl _ _ | with_reducible apply Below.drew | with_reducible refine below_drewN ?_ _ | (with_reducible refine Below.setCell ?_ ?_ _; rotate_left; focus (first | omega | (simp <;> omega))) | (with_reducible refine Below.alloc ?_ ?_ _; rotate_left; focus (first | omega | (simp <;> omega)))))
    have S14 := Lib.hid ((S20.out.below b13).below bA)
    have HO14 := Lib.hid ((HO20.out.below b13 HO20.out.lt.2).below bA (HO20.out.below b13 HO20.out.lt.2).lt.2)
    have HRW14 := Lib.hid ((HRW20.out.below b13).below bA)
    have F14 := Lib.hid (Fld.new w13 X1 Y1 P1 Q1 (.slice a1 n1 k1))
    have V14 := Lib.hid (o1.below bA)
    clear o1 b13 bA S20 HO20 HRW20 KW1
    generalize w13.alloc (.cells #[.int .i64 X1, .int .i64 Y1, .int .i64 P1, .int .i64 Q1, .slice a1 n1 k1] 32) = w14 at *
    generalize w13.heap.size = k14 at *
    generalize w20.heap.size = B12 at *
    obtain ⟨f0, f1, f2, f3, f4⟩ := S14.out.f.cells
    have lf := S14.out.f.lt
    obtain ⟨r0, r1, r2, r3⟩ := S14.out.r.cells
    have lr := S14.out.r.lt
    have p0 := S14.out.a.cell 0
    have p1 := S14.out.a.cell 1
    have p2 := S14.out.a.cell 2
    have p3 := S14.out.a.cell 3
    have p4 := S14.out.a.cell 4
    have p5 := S14.out.a.cell 5
    simp at p0 p1 p2 p3 p4 p5
    have l0 := S14.out.a.lt
    have hbk : gg < w14.heap.size := HO14.out.lt.2
    go_wp2_with fail
    refine (KW2.out _ _ _ _ _ _ _ _ HRW14.out hbk HR.out).mono ?_
    rintro e w15 ⟨⟨X2, Y2, P2, Q2, a2, n2, k2, rfl, o2⟩, b15⟩
    clear f0 f1 f2 f3 f4 lf r0 r1 r2 r3 lr hbk
    clear p0 p1 p2 p3 p4 p5 l0
    go_upto_region 20 with fail
    have bA : Below w15.heap.size w15 (w15.alloc (.cells #[.int .i64 X2, .int .i64 Y2, .int .i64 P2, .int .i64 Q2, .slice a2 n2 k2] 32)) := (by repeat (first | with_reducible exact Below.refl _ _ | with_reducible apply Below.drew | with_reducible refine below_drewN ?_ _ | (with_reducible refine Below.setCell ?_ ?_ _; rotate_left; focus (first | omega | (simp <;> omega))) | (with_reducible refine Below.alloc ?_ ?_ _; rotate_left; focus (first | omega | (simp <;> omega)))))
    have S16 := Lib.hid ((S14.out.below b15).below bA)
    have F16 := Lib.hid ((F14.out.below b15 F14.out.lt).below bA (F14.out.below b15 F14.out.lt).lt)
    have V16 := Lib.hid ((V14.out.below b15).below bA)
    have G16 := Lib.hid (Fld.new w15 X2 Y2 P2 Q2 (.slice a2 n2 k2))
    have U16 := Lib.hid (o2.below bA)
    clear o2 b15 bA S14 HO14 HRW14 F14 V14 KW2
    generalize w15.alloc (.cells #[.int .i64 X2, .int .i64 Y2, .int .i64 P2, .int .i64 Q2, .slice a2 n2 k2] 32) = w16 at *
    generalize w15.heap.size = k16 at *
    generalize w14.heap.size = B14 at *
    obtain ⟨c0, c1, c2, c3, c4⟩ := F16.out.cells
    obtain ⟨d0, d1, d2, d3, d4⟩ := G16.out.cells
    have lc := F16.out.lt
    have ld := G16.out.lt
    go_wp2_with fail
    refine (same_out V16.out U16.out (HS.out ..)).mono ?_
    rintro e w17 ⟨rfl, b17⟩
    have S17 := Lib.hid (S16.out.below b17)
    clear b17
    go_wp2_with fail
    go_ret
    exact ⟨rfl, S17.out.b⟩
  · have hz0 : (z == 0) = false := by simpa using hz
    clear HZ
    go_upto_region 18 with fail
    obtain ⟨f0, f1, f2, f3, f4⟩ := S20.out.f.cells
    have lf := S20.out.f.lt
    obtain ⟨r0, r1, r2, r3⟩ := S20.out.r.cells
    have lr := S20.out.r.lt
    have p0 := S20.out.a.cell 0
    have p1 := S20.out.a.cell 1
    have p2 := S20.out.a.cell 2
    have p3 := S20.out.a.cell 3
    have p4 := S20.out.a.cell 4
    have p5 := S20.out.a.cell 5
    simp at p0 p1 p2 p3 p4 p5
    have l0 := S20.out.a.lt
    have hbk : gg < w20.heap.size := HO20.out.lt.2
    go_wp2_with fail
    refine (KW1.out _ _ _ _ _ _ _ _ HRW20.out hbk HR.out).mono ?_
    rintro e w13 ⟨⟨X1, Y1, P1, Q1, a1, n1, k1, rfl, o1⟩, b13⟩
    clear f0 f1 f2 f3 f4 lf r0 r1 r2 r3 lr hbk
    clear p0 p1 p2 p3 p4 p5 l0
    go_upto_region 19 with fail
    have bA : Below w13.heap.size w13 (w13.alloc (.cells #[.int .i64 X1, .int .i64 Y1, .int .i64 P1, .int .i64 Q1, .slice a1 n1 k1] 32)) := (by repeat (first | with_reducible exact Below.refl _ _ | with_reducible apply Below.drew | with_reducible refine below_drewN ?_ _ | (with_reducible refine Below.setCell ?_ ?_ _; rotate_left; focus (first | omega | (simp <;> omega))) | (with_reducible refine Below.alloc ?_ ?_ _; rotate_left; focus (first | omega | (simp <;> omega)))))
    have S14 := Lib.hid ((S20.out.below b13).below bA)
    have HO14 := Lib.hid ((HO20.out.below b13 HO20.out.lt.2).below bA (HO20.out.below b13 HO20.out.lt.2).lt.2)
    have HRW14 := Lib.hid ((HRW20.out.below b13).below bA)
    have F14 := Lib.hid (Fld.new w13 X1 Y1 P1 Q1 (.slice a1 n1 k1))
    have V14 := Lib.hid (o1.below bA)
    clear o1 b13 bA S20 HO20 HRW20 KW1
    generalize w13.alloc (.cells #[.int .i64 X1, .int .i64 Y1, .int .i64 P1, .int .i64 Q1, .slice a1 n1 k1] 32) = w14 at *
    generalize w13.heap.size = k14 at *
    generalize w20.heap.size = B12 at *
    obtain ⟨f0, f1, f2, f3, f4⟩ := S14.out.f.cells
    have lf := S14.out.f.lt
    obtain ⟨r0, r1, r2, r3⟩ := S14.out.r.cells
    have lr := S14.out.r.lt
    have p0 := S14.out.a.cell 0
    have p1 := S14.out.a.cell 1
    have p2 := S14.out.a.cell 2
    have p3 := S14.out.a.cell 3
    have p4 := S14.out.a.cell 4
    have p5 := S14.out.a.cell 5
    simp at p0 p1 p2 p3 p4 p5
    have l0 := S14.out.a.lt
    have hbk : gg < w14.heap.size := HO14.out.lt.2
    go_wp2_with fail
    refine (KW2.out _ _ _ _ _ _ _ _ HRW14.out hbk HR.out).mono ?_
    rintro e w15 ⟨⟨X2, Y2, P2, Q2, a2, n2, k2, rfl, o2⟩, b15⟩
    clear f0 f1 f2 f3 f4 lf r0 r1 r2 r3 lr hbk
    clear p0 p1 p2 p3 p4 p5 l0
    go_upto_region 20 with fail
    have bA : Below w15.heap.size w15 (w15.alloc (.cells #[.int .i64 X2, .int .i64 Y2, .int .i64 P2, .int .i64 Q2, .slice a2 n2 k2] 32)) := (by repeat (first | with_reducible exact Below.refl _ _ | with_reducible apply Below.drew | with_reducible refine below_drewN ?_ _ | (with_reducible refine Below.setCell ?_ ?_ _; rotate_left; focus (first | omega | (simp <;> omega))) | (with_reducible refine Below.alloc ?_ ?_ _; rotate_left; focus (first | omega | (simp <;> omega)))))
    have S16 := Lib.hid ((S14.out.below b15).below bA)
    have F16 := Lib.hid ((F14.out.below b15 F14.out.lt).below bA (F14.out.below b15 F14.out.lt).lt)
    have V16 := Lib.hid ((V14.out.below b15).below bA)
    have G16 := Lib.hid (Fld.new w15 X2 Y2 P2 Q2 (.slice a2 n2 k2))
    have U16 := Lib.hid (o2.below bA)
    clear o2 b15 bA S14 HO14 HRW14 F14 V14 KW2
    generalize w15.alloc (.cells #[.int .i64 X2, .int .i64 Y2, .int .i64 P2, .int .i64 Q2, .slice a2 n2 k2] 32) = w16 at *
    generalize w15.heap.size = k16 at *
    generalize w14.heap.size = B14 at *
    obtain ⟨c0, c1, c2, c3, c4⟩ := F16.out.cells
    obtain ⟨d0, d1, d2, d3, d4⟩ := G16.out.cells
    have lc := F16.out.lt
    have ld := G16.out.lt
    go_wp2_with fail
    refine (same_out V16.out U16.out (HS.out ..)).mono ?_
    rintro e w17 ⟨rfl, b17⟩
    have S17 := Lib.hid (S16.out.below b17)
    clear b17
    go_wp2_with fail
    go_ret
    exact ⟨rfl, S17.out.b⟩
theorem wpd_pair (f : Nat) (kd seed cell : Int) (n g a : Nat) (X Y : Int) (Wn Hn b c : Nat) (l : List Nat) (A B : Int) (p q : Nat) (w : World)
    (h1 : chk A B ((1 + p : Nat) : Int) ((1 + q : Nat) : Int) = 0 → Calls Tryz.prog f #[fldV X Y Wn Hn (some ⟨b, 0, none⟩) l.length c, wpV kd seed cell n g a, reg A B ((1 + p : Nat) : Int) ((1 + q : Nat) : Int)] w fun e w' => OpP (if wpdA kd seed cell n g a X Y Wn Hn A B (1 + p) (1 + q) = true then 0 else 5) A B ((1 + p : Nat) : Int) ((1 + q : Nat) : Int) (wpdL kd seed cell n g a X Y Wn Hn l A B (1 + p) (1 + q)) w e w')
    (h2 : chk A B ((1 + p : Nat) : Int) ((1 + q : Nat) : Int) ≠ 0 → Calls Tryz.prog f #[fldV X Y Wn Hn (some ⟨b, 0, none⟩) l.length c, wpV kd seed cell n g a, reg A B ((1 + p : Nat) : Int) ((1 + q : Nat) : Int)] w fun e w' => e = .returned (.tuple #[fldV 0 0 0 0 none 0 0, .int .i64 (chk A B ((1 + p : Nat) : Int) ((1 + q : Nat) : Int))]) ∧ Below w.heap.size w w') :
    Calls Tryz.prog f #[fldV X Y Wn Hn (some ⟨b, 0, none⟩) l.length c, wpV kd seed cell n g a, reg A B (1 + (p : Int)) (1 + (q : Int))] w fun e w' => OpP (if chk A B (1 + (p : Int)) (1 + (q : Int)) = 0 then (if wpdA kd seed cell n g a X Y Wn Hn A B (1 + p) (1 + q) = true then 0 else 5) else chk A B (1 + (p : Int)) (1 + (q : Int))) A B (1 + (p : Int)) (1 + (q : Int)) (wpdL kd seed cell n g a X Y Wn Hn l A B (1 + p) (1 + q)) w e w' := by
  have ep : ((1 + p : Nat) : Int) = 1 + (p : Int) := by omega
  have eq : ((1 + q : Nat) : Int) = 1 + (q : Int) := by omega
  rw [ep, eq] at h1 h2
  by_cases hz : chk A B (1 + (p : Int)) (1 + (q : Int)) = 0
  · rw [if_pos hz]; exact h1 hz
  · rw [if_neg hz]; exact (h2 hz).mono fun e w' ⟨x1, x2⟩ => OpP.err hz x1 x2
theorem warpO_form (kd seed cell n : Int) (g a : Nat) (x y : Int) : ∃ px py : Int, warpO kd seed cell n g a x y = .tuple #[.agg #[.int .i64 px, .int .i64 py], .int .i64 (wxE kd cell n g a x y)] ∧ (wxE kd cell n g a x y = 0 → px = (warpP kd seed cell n.toNat g a x y).1 ∧ py = (warpP kd seed cell n.toNat g a x y).2) := by
  unfold warpO
  by_cases h : wxE kd cell n g a x y = 0
  · rw [if_pos h]
    refine ⟨_, _, ?_, fun _ => ⟨rfl, rfl⟩⟩
    rw [h]; rfl
  · rw [if_neg h]
    exact ⟨0, 0, rfl, fun h' => absurd h' h⟩
set_option maxRecDepth 100000 in
theorem warps_law (kd seed cell n : Int) (g a : Nat) (X Y W H : Int) (aa : Option Addr) (l : List Nat) (cp : Nat) (A B P Q x y : Int) (w : World) (hg : g < 4294967296) (ha : a < 4294967296) (hl : Row63 w aa l) :
    Calls Tryz.prog 3 #[wpV kd seed cell n g a, fldV X Y W H aa l.length cp, reg A B P Q, .int .i64 x, .int .i64 y] w fun e w' => e = .returned (.bool true) ∧ Below w.heap.size w w' := by
  obtain ⟨px, py, hO, hP⟩ := warpO_form kd seed cell n g a x y
  have KX1 := fun w => warpop_any kd seed cell n x y g a hg ha w
  have KX2 := fun w => refwarpop_any kd seed cell n x y g a hg ha w
  have KM := fun w => marginop_any kd seed cell n g a hg ha w
  rw [hO] at KX1 KX2
  clear hO
  by_cases hE : wpE kd cell n g a = 0
  · obtain ⟨hF, hS⟩ := wpE_zero hE
    obtain ⟨m, rfl, m1, m2⟩ := frE_nat hF
    obtain ⟨⟨k1, k2⟩, ⟨c1, c2⟩, _, sg⟩ := frE_zero hF
    have sa := wsE_zero hS
    obtain ⟨p, hp, eA⟩ := and7 P
    obtain ⟨q, hq, eB⟩ := and7 Q
    rw [if_pos hE, hE, Int.toNat_natCast] at KM
    rw [Int.toNat_natCast] at hP
    refine warps_good kd seed cell m g a X Y W H aa cp l A B P Q x y w (Lib.hid hl) (wxE kd cell m g a x y) px py (margZ (Ieee.Format.reachF g (bndF kd) m) a) p q hp hq eA eB
      (fun X Y Wn Hn l => if chk A B (1 + (p : Int)) (1 + (q : Int)) = 0 then (if wpdA kd seed cell m g a X Y Wn Hn A B (1 + p) (1 + q) = true then 0 else 5) else chk A B (1 + (p : Int)) (1 + (q : Int)))
      (fun X Y Wn Hn l => wpdL kd seed cell m g a X Y Wn Hn l A B (1 + p) (1 + q)) (Lib.hid fun X Y Wn Hn l => wpdL_small kd seed cell m g a X Y Wn Hn l A B (1 + p) (1 + q) (by omega) (by omega)) (Lib.hid fun hz => ?_)
      (Lib.hid fun w => by have := refwpcheck_any kd seed cell m g a hg ha w; rwa [hE] at this) (Lib.hid fun w => by have := wpcheck_any kd seed cell m g a hg ha w; rwa [hE] at this) (Lib.hid KX1) (Lib.hid KX2) (Lib.hid KM)
      (Lib.hid fun w => refmargin_any kd seed cell m g a w k1 k2 m1 m2 sg c1 c2 sa)
      (Lib.hid fun X Y Wn Hn b c l w hl hb hr => wpd_pair _ kd seed cell m g a X Y Wn Hn b c l A B p q w (fun hz => warped_ok kd seed cell m g a X Y Wn Hn b c l A B (1 + p) (1 + q) w hl hb hr hg ha hE hz) (fun hz => warped_chk kd seed cell m g a X Y Wn Hn b c l A B _ _ w hl hr hg ha hE hz))
      (Lib.hid fun X Y Wn Hn b c l w hl hb hr => wpd_pair _ kd seed cell m g a X Y Wn Hn b c l A B p q w (fun hz => refwarped_ok kd seed cell m g a X Y Wn Hn b c l A B (1 + p) (1 + q) w hl hb hr hg ha hE hz) (fun hz => refwarped_chk kd seed cell m g a X Y Wn Hn b c l A B _ _ w hl hz))
    obtain ⟨e1, e2⟩ := hP hz
    have hpl : plP x y = 0 := by unfold wxE at hz; rw [if_pos hE] at hz; exact hz
    obtain ⟨⟨x1, x2, y1, y2⟩, _⟩ := plE_zero ((plE_one x y).trans hpl)
    have q1 := move_in (warp_ok kd seed cell x y m1 m2 sg c1 c2 sa).1
    have q2 := move_in (warp_ok kd (hashTo seed 1 1 5 3) cell x y m1 m2 sg c1 c2 sa).1
    unfold warpP at e1 e2
    simp only at e1 e2
    omega
  · have e0 : wxE kd cell n g a x y = wpE kd cell n g a := by unfold wxE; rw [if_neg hE]
    rw [e0] at KX1 KX2
    rw [if_neg hE] at KM
    exact warps_bad kd seed cell n g a X Y W H aa cp l A B P Q x y w (Lib.hid hl) (wpE kd cell n g a) px py hE (Lib.hid fun w => refwpcheck_any kd seed cell n g a hg ha w) (Lib.hid fun w => wpcheck_any kd seed cell n g a hg ha w) (Lib.hid KX1) (Lib.hid KX2) (Lib.hid KM)
      (Lib.hid fun X Y Wn Hn b c l A B P Q w hl => warped_err kd seed cell n g a X Y Wn Hn b c l A B P Q w hl hg ha hE)
end Go.Proofs.YtkmcinibaffpmaaGreat

namespace Go.Proofs.YtkmcinibaffpmaaGreat
open Go.ChangeShapes Go.WideShapes Go.ChangeAt Go.RowKit
open Ieee.Format (fin finE htE allFin allHt all_true all_false mulF subF addF Ht Bd divF rootF floorF easeF mixF)
set_option linter.unusedVariables false
open Go.Joins Go.Deep

theorem array6 {α : Type} {cs : Array α} (h : cs.size = 6) : ∃ c0 c1 c2 c3 c4 c5, cs = #[c0, c1, c2, c3, c4, c5] := by
  obtain ⟨l⟩ := cs
  match l, h with
  | [c0, c1, c2, c3, c4, c5], _ => exact ⟨c0, c1, c2, c3, c4, c5, rfl⟩
theorem cellsWp : Tryz.prog.cellsOf 27 = 6 := by kernel_rfl
theorem cellsFr : Tryz.prog.cellsOf 25 = 5 := by kernel_rfl
theorem cellsFl : Tryz.prog.cellsOf 23 = 1 := by kernel_rfl
theorem cellsIn : Tryz.prog.cellsOf 3 = 1 := by kernel_rfl
theorem cellsUn : Tryz.prog.cellsOf 22 = 1 := by kernel_rfl
set_option maxRecDepth 100000 in
/-- a warp that came in -/
theorem open_warp {H : Type} {enc : TypeId × Value → H} {W : World} {r : Reach} {b0 : Nat} {v : Value} {d : DataW H} {p : List MemPlace}
    (hv : Value.okWide Tryz.prog W r b0 27 v) (h : DataW.Trod enc Tryz.prog W 0 (fun _ => true) true 27 v d p) :
    ∃ (kd seed cell n : Int) (g a : Nat), v = wpV kd seed cell n g a ∧ g < 4294967296 ∧ a < 4294967296 := by
  obtain ⟨cs, rfl, hsz⟩ := okWide_struct Tryz.underlying27 hv
  obtain ⟨c0, c1, c2, c3, c4, c5, rfl⟩ := array6 (hsz.trans cellsWp)
  obtain ⟨fuel, hf⟩ := h
  obtain ⟨y0, y1, n, hx, _, h0, h1⟩ := trod_struct2 Tryz.underlying27 hf
  simp only [Value.cells, cellsFr, cellsFl] at h0 h1
  obtain ⟨a, e5, wa⟩ := trod_single (v := c5) (by simpa using h1)
  obtain ⟨xs, m, _, hx2, _, hlen, hg⟩ := DataW.trod_struct Tryz.underlying25 h0
  match xs, hlen with
  | [z0, z1, z2, z3, z4], _ =>
    have g0 := hg 0 _ rfl
    have g1 := hg 1 _ rfl
    have g2 := hg 2 _ rfl
    have g3 := hg 3 _ rfl
    have g4 := hg 4 _ rfl
    simp only [List.getElem_toArray, List.getElem_cons_zero, List.getElem_cons_succ, cellsIn, cellsUn, cellsFl, List.drop_zero, List.take_succ_cons, List.take_zero, List.drop_succ_cons, List.getElem?_cons_zero, List.getElem?_cons_succ] at g0 g1 g2 g3 g4
    obtain ⟨kd, e0, _, _⟩ := DataW.trod_int Tryz.underlying3 g0
    obtain ⟨seed, e1, _, _⟩ := DataW.trod_int Tryz.underlying22 g1
    obtain ⟨cell, e2, _, _⟩ := DataW.trod_int Tryz.underlying3 g2
    obtain ⟨n', e3, _, _⟩ := DataW.trod_int Tryz.underlying3 g3
    obtain ⟨g, e4, wg⟩ := trod_single g4
    simp at e0 e1 e2 e3
    subst e0 e1 e2 e3 e4 e5
    exact ⟨kd, seed, cell, n', g, a, rfl, wg, wa⟩
end Go.Proofs.YtkmcinibaffpmaaGreat
