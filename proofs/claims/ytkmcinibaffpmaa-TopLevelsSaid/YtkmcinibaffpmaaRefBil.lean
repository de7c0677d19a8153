import Derived.Test.YtkmcinibaffpmaaBilOp
import Derived.Deep.RegionHeld3
namespace Go.Proofs.Ytkmcinibaffpmaa
open Go.ChangeShapes Go.WideShapes Go.ChangeAt Go.RowKit
open Ieee.Format (fin finE htE allFin allHt all_true all_false mulF subF addF Ht Bd divF rootF floorF easeF mixF)
set_option linter.unusedVariables false
open Ieee.Format (const_40 frac_bd frac_zero conv_exact)

abbrev mag (x : Nat) : Nat := x % 2147483648
theorem mag_parts (x : Nat) : Ieee.single.rung (mag x) = Ieee.single.rung x ∧ Ieee.single.sgn (mag x) = false := by
  constructor
  · rw [Ieee.Format.rung_lit, Ieee.Format.rung_lit]; show x % 2147483648 % 2147483648 = _; rw [Nat.mod_mod]
  · rw [Ieee.Format.sgn_lit]
    have : mag x / 2147483648 = 0 := Nat.div_eq_of_lt (Nat.mod_lt _ (by decide))
    rw [this]; rfl
theorem mag_fin {x : Nat} (h : fin Ieee.single x) : fin Ieee.single (mag x) := by unfold fin at *; rw [(mag_parts x).1]; exact h
theorem mag_V (x : Nat) : 0 ≤ Ieee.single.V (mag x) ∧ (Ieee.single.V (mag x) = Ieee.single.V x ∨ Ieee.single.V (mag x) = -Ieee.single.V x) := by
  have e := Ieee.Format.V_pos_word (mag_parts x).2
  rw [(mag_parts x).1] at e
  have n := Ieee.single.rv_nonneg (Ieee.single.rung x)
  refine ⟨by rw [e]; exact n, ?_⟩
  rw [e]
  unfold Ieee.Format.V
  cases Ieee.single.sgn x
  · left; simp [Ieee.sg]
  · right; simp only [Ieee.sg, if_true]; grind

theorem far_none {X Y : Int} {Wn Hn : Nat} {l : List Nat} {x y : Nat} (hr : Right X Y Wn Hn l) (hx : fin Ieee.single x) (hy : fin Ieee.single y) (lx : x < 4294967296) (ly : y < 4294967296) (h : gtr (mag x) 1258291200 = true ∨ gtr (mag y) 1258291200 = true) : betR X Y Wn Hn l x y = none := by
  have out : ∀ v, fin Ieee.single v → v < 4294967296 → gtr (mag v) 1258291200 = true → 8388608 ≤ wholeF v ∨ wholeF v < -8388608 := by
    intro v hv lv hg
    rw [gtr_V (mag_fin hv) const_23.1, const_23.2.1] at hg
    have hg := of_decide_eq_true hg
    have e23 : Ieee.P2 23 = ((8388608 : Int) : Rat) := Ieee.P2_nat 23
    unfold wholeF
    split
    · right; omega
    · split
      · left; omega
      · rename_i h1 h2
        rw [lss_V hv const_n40.1, const_n40.2] at h1
        rw [gtr_V hv const_40.1, const_40.2.1] at h2
        simp only [decide_eq_true_eq] at h1 h2
        obtain ⟨_, _, f1, f2, _, _⟩ := floorZ_spec hv lv (by grind) (by grind)
        rcases (mag_V v).2 with e | e
        · left
          rw [e, e23] at hg
          have : ((8388608 : Int) : Rat) < ((floorZ v + 1 : Int) : Rat) := by
            rw [Rat.intCast_add]; have : ((1 : Int) : Rat) = 1 := rfl; grind
          have := Rat.intCast_lt_intCast.1 this
          omega
        · right
          rw [e, e23] at hg
          have : (floorZ v : Rat) < ((-8388608 : Int) : Rat) := by
            rw [show (-8388608 : Int) = -(8388608 : Int) from rfl, Rat.intCast_neg]; grind
          exact Rat.intCast_lt_intCast.1 this
  have g1 := hr.x1; have g2 := hr.x2; have g3 := hr.y1; have g4 := hr.y2
  have hrow : rowV X Y Wn Hn l (wholeF x) (wholeF y) (subF x (floorF x)) = none := by
    unfold rowV
    rw [if_neg]
    unfold inR
    rcases h with h | h
    · have := out x hx lx h; omega
    · have := out y hy ly h; omega
  unfold betR bilV
  rw [hrow]

theorem near_whole {x : Nat} (hx : fin Ieee.single x) (lx : x < 4294967296) (h : gtr (mag x) 1258291200 = false) : wholeF x = floorZ x ∧ floatToIntVal .f32 (floorF x) .i64 = some (floorZ x) ∧ -16777216 ≤ floorZ x ∧ floorZ x ≤ 16777216 := by
  rw [gtr_V (mag_fin hx) const_23.1, const_23.2.1] at h
  have h := of_decide_eq_false h
  have m := (mag_V x).1
  have hb : -Ieee.P2 23 ≤ Ieee.single.V x ∧ Ieee.single.V x ≤ Ieee.P2 23 := by rcases (mag_V x).2 with e | e <;> rw [e] at h m <;> constructor <;> grind
  have p := Ieee.P2_lt (show (23 : Int) < 40 by omega)
  obtain ⟨f0, _, f1, f2, _, _⟩ := floorZ_spec hx lx (by grind) (by grind)
  have e23 : Ieee.P2 23 = ((8388608 : Int) : Rat) := Ieee.P2_nat 23
  refine ⟨?_, f0, ?_, ?_⟩
  · unfold wholeF
    rw [lss_V hx const_n40.1, const_n40.2, gtr_V hx const_40.1, const_40.2.1, if_neg (by simp; grind), if_neg (by simp; grind)]
  · have : ((-8388608 : Int) : Rat) < ((floorZ x + 1 : Int) : Rat) := by
      rw [Rat.intCast_add, show (-8388608 : Int) = -(8388608 : Int) from rfl, Rat.intCast_neg, ← e23]; have : ((1 : Int) : Rat) = 1 := rfl; grind
    have := Rat.intCast_lt_intCast.1 this
    omega
  · have : (floorZ x : Rat) ≤ ((8388608 : Int) : Rat) := by rw [← e23]; grind
    have := Rat.intCast_le_intCast.1 this
    omega

theorem htE_one_fin {x : Nat} (h : fin Ieee.single x) : (htE [x] == 2) = false := by
  have a : allFin [x] = true := by unfold allFin; simp [h]
  cases hh : allHt [x] with
  | true => rw [Ieee.Format.htE_ok a hh]; rfl
  | false => rw [Ieee.Format.htE_far a hh]; rfl
theorem htE_one_bad {x : Nat} (h : ¬ fin Ieee.single x) : htE [x] = 2 := Ieee.Format.htE_bad (by unfold allFin; simp [h])

end Go.Proofs.Ytkmcinibaffpmaa

