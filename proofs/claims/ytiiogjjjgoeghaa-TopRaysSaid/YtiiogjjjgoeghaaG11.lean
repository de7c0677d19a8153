import Derived.Test.YtiiogjjjgoeghaaG10
import Derived.Deep.RegionHeld3
import Derived.Test.YtiiogjjjgoeghaaG03
import Derived.BigQuiet
import Derived.Deep.QuietTactic
import Derived.Deep.DeepCutAuto
import Derived.IntWalk
import Derived.StillTailTactics
namespace Go.Proofs.Ytiiogjjjgoeghaa
open Go.ChangeShapes Go.WideShapes Go.ChangeAt Go.RowKit
open Ieee.Format (fin finE htE allFin allHt all_true all_false mulF subF addF Ht Bd divF rootF floorF easeF mixF)
set_option linter.unusedVariables false
open Ieee.Format (const_40 frac_bd frac_zero conv_exact)

theorem finE_two {x y : Nat} (h : finE [x, y] = 0) : fin Ieee.single x ∧ fin Ieee.single y := by
  cases ha : allFin [x, y] with
  | true =>
    unfold allFin at ha
    simpa using ha
  | false => have := Ieee.Format.finE_bad ha; omega
theorem finE_two_bad {x y : Nat} (h : finE [x, y] ≠ 0) : finE [x, y] = 2 ∧ (¬ fin Ieee.single x ∨ ¬ fin Ieee.single y) := by
  cases ha : allFin [x, y] with
  | true => exact absurd (Ieee.Format.finE_ok ha) h
  | false =>
    refine ⟨Ieee.Format.finE_bad ha, ?_⟩
    apply Classical.byContradiction
    intro hn
    have h1 : fin Ieee.single x ∧ fin Ieee.single y := ⟨Classical.byContradiction fun c => hn (.inl c), Classical.byContradiction fun c => hn (.inr c)⟩
    have : allFin [x, y] = true := by unfold allFin; simpa using h1
    rw [this] at ha; cases ha

theorem Right.bd' {X Y : Int} {Wn Hn : Nat} {l : List Nat} (h : Right X Y Wn Hn l) (i : Nat) : Bd 20 (l.getD i 0) := Ieee.Format.Ht.bd (h.getD i)
def bilCode (x y : Nat) (R : Option Nat) : Int := if finE [x, y] ≠ 0 then finE [x, y] else bilC R
def bilVal (c : Int) (R : Option Nat) : Nat := if c = 0 then R.getD 0 else 0
theorem bilC_ne {v : Nat} (h : ¬ Ht v) (hf : fin Ieee.single v) : bilC (some v) = 3 := by
  show outE [v] = 3
  unfold outE
  have : htE [v] = 3 := Ieee.Format.htE_far (by unfold allFin; simp [hf]) (by cases hh : allHt [v]; rfl; exact absurd (Ieee.Format.allHt_iff.1 hh v (by simp)) h)
  rw [this]; rfl
theorem bilC_ok {v : Nat} (h : Ht v) : bilC (some v) = 0 := by
  show outE [v] = 0
  unfold outE
  rw [Ieee.Format.htE_of_ht (Ieee.Format.allHt_iff.2 (by simpa using h))]; rfl

end Go.Proofs.Ytiiogjjjgoeghaa

namespace Go.Proofs.Ytiiogjjjgoeghaa
open Go.ChangeShapes Go.WideShapes Go.ChangeAt Go.RowKit
open Ieee.Format (fin finE htE allFin allHt all_true all_false mulF subF addF Ht Bd divF rootF floorF easeF mixF)
set_option linter.unusedVariables false
open Ieee.Format (const_40 frac_bd frac_zero conv_exact)

abbrev mag (x : Nat) : Nat := x % 2147483648
theorem mag_parts (x : Nat) : Ieee.single.rung (mag x) = Ieee.single.rung x ∧ Ieee.single.sgn (mag x) = false := by
  constructor
  · rw [Ieee.Format.rung_lit, Ieee.Format.rung_lit]; show x % 2147483648 % 2147483648 = _; rw [Nat.mod_mod]
  · rw [Ieee.Format.sgn_lit]
    have : mag x / 2147483648 = 0 := Nat.div_eq_of_lt (Nat.mod_lt _ (by decide))
    rw [this]; rfl
theorem mag_fin {x : Nat} (h : fin Ieee.single x) : fin Ieee.single (mag x) := by unfold fin at *; rw [(mag_parts x).1]; exact h
theorem mag_V (x : Nat) : 0 ≤ Ieee.single.V (mag x) ∧ (Ieee.single.V (mag x) = Ieee.single.V x ∨ Ieee.single.V (mag x) = -Ieee.single.V x) := by
  have e := Ieee.Format.V_pos_word (mag_parts x).2
  rw [(mag_parts x).1] at e
  have n := Ieee.single.rv_nonneg (Ieee.single.rung x)
  refine ⟨by rw [e]; exact n, ?_⟩
  rw [e]
  unfold Ieee.Format.V
  cases Ieee.single.sgn x
  · left; simp [Ieee.sg]
  · right; simp only [Ieee.sg, if_true]; grind

theorem far_none {X Y : Int} {Wn Hn : Nat} {l : List Nat} {x y : Nat} (hr : Right X Y Wn Hn l) (hx : fin Ieee.single x) (hy : fin Ieee.single y) (lx : x < 4294967296) (ly : y < 4294967296) (h : gtr (mag x) 1258291200 = true ∨ gtr (mag y) 1258291200 = true) : betR X Y Wn Hn l x y = none := by
  have out : ∀ v, fin Ieee.single v → v < 4294967296 → gtr (mag v) 1258291200 = true → 8388608 ≤ wholeF v ∨ wholeF v < -8388608 := by
    intro v hv lv hg
    rw [gtr_V (mag_fin hv) const_23.1, const_23.2.1] at hg
    have hg := of_decide_eq_true hg
    have e23 : Ieee.P2 23 = ((8388608 : Int) : Rat) := Ieee.P2_nat 23
    unfold wholeF
    split
    · right; omega
    · split
      · left; omega
      · rename_i h1 h2
        rw [lss_V hv const_n40.1, const_n40.2] at h1
        rw [gtr_V hv const_40.1, const_40.2.1] at h2
        simp only [decide_eq_true_eq] at h1 h2
        obtain ⟨_, _, f1, f2, _, _⟩ := floorZ_spec hv lv (by grind) (by grind)
        rcases (mag_V v).2 with e | e
        · left
          rw [e, e23] at hg
          have : ((8388608 : Int) : Rat) < ((floorZ v + 1 : Int) : Rat) := by
            rw [Rat.intCast_add]; have : ((1 : Int) : Rat) = 1 := rfl; grind
          have := Rat.intCast_lt_intCast.1 this
          omega
        · right
          rw [e, e23] at hg
          have : (floorZ v : Rat) < ((-8388608 : Int) : Rat) := by
            rw [show (-8388608 : Int) = -(8388608 : Int) from rfl, Rat.intCast_neg]; grind
          exact Rat.intCast_lt_intCast.1 this
  have g1 := hr.x1; have g2 := hr.x2; have g3 := hr.y1; have g4 := hr.y2
  have hrow : rowV X Y Wn Hn l (wholeF x) (wholeF y) (subF x (floorF x)) = none := by
    unfold rowV
    rw [if_neg]
    unfold inR
    rcases h with h | h
    · have := out x hx lx h; omega
    · have := out y hy ly h; omega
  unfold betR bilV
  rw [hrow]

theorem near_whole {x : Nat} (hx : fin Ieee.single x) (lx : x < 4294967296) (h : gtr (mag x) 1258291200 = false) : wholeF x = floorZ x ∧ floatToIntVal .f32 (floorF x) .i64 = some (floorZ x) ∧ -16777216 ≤ floorZ x ∧ floorZ x ≤ 16777216 := by
  rw [gtr_V (mag_fin hx) const_23.1, const_23.2.1] at h
  have h := of_decide_eq_false h
  have m := (mag_V x).1
  have hb : -Ieee.P2 23 ≤ Ieee.single.V x ∧ Ieee.single.V x ≤ Ieee.P2 23 := by rcases (mag_V x).2 with e | e <;> rw [e] at h m <;> constructor <;> grind
  have p := Ieee.P2_lt (show (23 : Int) < 40 by omega)
  obtain ⟨f0, _, f1, f2, _, _⟩ := floorZ_spec hx lx (by grind) (by grind)
  have e23 : Ieee.P2 23 = ((8388608 : Int) : Rat) := Ieee.P2_nat 23
  refine ⟨?_, f0, ?_, ?_⟩
  · unfold wholeF
    rw [lss_V hx const_n40.1, const_n40.2, gtr_V hx const_40.1, const_40.2.1, if_neg (by simp; grind), if_neg (by simp; grind)]
  · have : ((-8388608 : Int) : Rat) < ((floorZ x + 1 : Int) : Rat) := by
      rw [Rat.intCast_add, show (-8388608 : Int) = -(8388608 : Int) from rfl, Rat.intCast_neg, ← e23]; have : ((1 : Int) : Rat) = 1 := rfl; grind
    have := Rat.intCast_lt_intCast.1 this
    omega
  · have : (floorZ x : Rat) ≤ ((8388608 : Int) : Rat) := by rw [← e23]; grind
    have := Rat.intCast_le_intCast.1 this
    omega

theorem htE_one_fin {x : Nat} (h : fin Ieee.single x) : (htE [x] == 2) = false := by
  have a : allFin [x] = true := by unfold allFin; simp [h]
  cases hh : allHt [x] with
  | true => rw [Ieee.Format.htE_ok a hh]; rfl
  | false => rw [Ieee.Format.htE_far a hh]; rfl
theorem htE_one_bad {x : Nat} (h : ¬ fin Ieee.single x) : htE [x] = 2 := Ieee.Format.htE_bad (by unfold allFin; simp [h])

end Go.Proofs.Ytiiogjjjgoeghaa


namespace Ieee
namespace Format
open Go

/-! ### twice a number, exactly -/
theorem rv_dbl (r : Nat) : ∃ r2, single.rv r2 = 2 * single.rv r ∧ r ≤ r2 := by
  have e1 : single.binade = 8388608 := by decide
  rcases Nat.lt_or_ge r 8388608 with h | h
  · refine ⟨2 * r, ?_, by omega⟩
    have a := single.rv_at 0 r (.inl rfl) (by rw [e1]; omega)
    have b := single.rv_at 0 (2 * r) (.inl rfl) (by rw [e1]; omega)
    rw [Nat.zero_mul, Nat.zero_add] at a b
    rw [a, b, Rat.natCast_mul]
    have : ((2 : Nat) : Rat) = 2 := rfl
    rw [this]; grind
  · obtain ⟨l, k, hr, hk, hk2⟩ : ∃ l k : Nat, r = l * 8388608 + k ∧ 8388608 ≤ k ∧ k ≤ 2 * 8388608 := ⟨r / 8388608 - 1, r - (r / 8388608 - 1) * 8388608, by omega, by omega, by omega⟩
    refine ⟨r + 8388608, ?_, by omega⟩
    have a := single.rv_at l k (.inr (by rw [e1]; omega)) (by rw [e1]; omega)
    have b := single.rv_at (l + 1) k (.inr (by rw [e1]; omega)) (by rw [e1]; omega)
    rw [e1] at a b
    rw [hr, show l * 8388608 + k + 8388608 = (l + 1) * 8388608 + k from by omega, a, b]
    have d : P2 (single.leastPlace + ((l + 1 : Nat) : Int)) = 2 * P2 (single.leastPlace + (l : Int)) := by
      have := P2_double (single.leastPlace + ((l + 1 : Nat) : Int))
      rw [this]
      congr 2
      omega
    rw [d]; grind
theorem word_dbl {x : Nat} (fx : single.fin x) (hx : single.sgn x = false) (hb : single.V x ≤ P2 100) : ∃ c, single.fin c ∧ single.sgn c = false ∧ single.V c = 2 * single.V x := by
  obtain ⟨r2, h, _⟩ := rv_dbl (single.rung x)
  rw [V_pos_word hx] at hb ⊢
  have lt : r2 < single.infRung := by
    refine (single.rv_lt_iff).1 ?_
    rw [h, rv_inf]
    have p := P2_lt (show (101 : Int) < 128 by omega)
    have d : P2 101 = 2 * P2 100 := P2_double 101
    grind
  refine ⟨single.word false (min r2 single.infRung), (single.fin_word_iff false r2).2 lt, single.sgn_word false (single.min_lt_sw r2), ?_⟩
  rw [single.V_word lt, h]
  simp [sg]
theorem add_dbl {a b m : Nat} (fa : single.fin a) (fb : single.fin b) (fm : single.fin m) (sm : single.sgn m = false) (hm : single.V m ≤ P2 100) (a1 : single.V a ≤ single.V m) (a2 : -single.V m ≤ single.V a) (b1 : single.V b ≤ single.V m) (b2 : -single.V m ≤ single.V b) :
    single.fin (addF a b) ∧ single.V (addF a b) ≤ 2 * single.V m ∧ -(2 * single.V m) ≤ single.V (addF a b) := by
  obtain ⟨c, fc, sc, vc⟩ := word_dbl fm sm hm
  have h := (addF_spec fa fb).2.bound fc sc (by rw [vc]; grind) (by rw [vc]; grind)
  rw [vc] at h
  exact ⟨h.1, h.2.1, h.2.2.1⟩
theorem sub_dbl {a b m : Nat} (fa : single.fin a) (fb : single.fin b) (fm : single.fin m) (sm : single.sgn m = false) (hm : single.V m ≤ P2 100) (a1 : single.V a ≤ single.V m) (a2 : -single.V m ≤ single.V a) (b1 : single.V b ≤ single.V m) (b2 : -single.V m ≤ single.V b) :
    single.fin (subF a b) ∧ single.V (subF a b) ≤ 2 * single.V m ∧ -(2 * single.V m) ≤ single.V (subF a b) := by
  obtain ⟨c, fc, sc, vc⟩ := word_dbl fm sm hm
  have h := (subF_spec fa fb).2.bound fc sc (by rw [vc]; grind) (by rw [vc]; grind)
  rw [vc] at h
  exact ⟨h.1, h.2.1, h.2.2.1⟩
theorem const_qtr : single.fin 1048576000 ∧ single.V 1048576000 = 1 / 4 ∧ single.sgn 1048576000 = false := by
  have := V_const false 124 8388608 (.inr (by decide)) (by decide) (by decide)
  rw [show single.word false (124 * 8388608 + 8388608) = 1048576000 from by decide] at this
  refine ⟨this.1, ?_, this.2.2⟩
  rw [this.2.1, show ((124 : Nat) : Int) - 149 = -25 from rfl, show ((8388608 : Nat) : Rat) = P2 23 from (P2_nat 23).symm, ← P2_add]
  simp [sg]
  have d : P2 0 = 2 * P2 (-1) := P2_double 0
  have d2 : P2 (-1) = 2 * P2 (-2) := P2_double (-1)
  rw [P2_zero] at d
  have : P2 (23 + -25) = P2 (-2) := rfl
  grind
/-- a quarter of four numbers -/
def downF (a b c d : Nat) : Nat := mulF (addF (addF a b) (addF c d)) 1048576000
theorem down_bd {a b c d m : Nat} (fa : single.fin a) (fb : single.fin b) (fc : single.fin c) (fd : single.fin d) (fm : single.fin m) (sm : single.sgn m = false) (hm : single.V m ≤ P2 99) (a1 : single.V a ≤ single.V m) (a2 : -single.V m ≤ single.V a) (b1 : single.V b ≤ single.V m) (b2 : -single.V m ≤ single.V b)
    (c1 : single.V c ≤ single.V m) (c2 : -single.V m ≤ single.V c) (d1 : single.V d ≤ single.V m) (d2 : -single.V m ≤ single.V d) :
    single.fin (addF a b) ∧ single.fin (addF c d) ∧ single.fin (addF (addF a b) (addF c d)) ∧ single.fin (downF a b c d) ∧ single.V (downF a b c d) ≤ single.V m ∧ -single.V m ≤ single.V (downF a b c d) := by
  have p : P2 100 = 2 * P2 99 := P2_double 100
  have p0 := P2_pos 99
  obtain ⟨f1, x1, x2⟩ := add_dbl fa fb fm sm (by grind) a1 a2 b1 b2
  obtain ⟨f2, y1, y2⟩ := add_dbl fc fd fm sm (by grind) c1 c2 d1 d2
  obtain ⟨m2, fm2, sm2, vm2⟩ := word_dbl fm sm (by grind)
  obtain ⟨f3, z1, z2⟩ := add_dbl f1 f2 fm2 sm2 (by rw [vm2]; grind) (by rw [vm2]; exact x1) (by rw [vm2]; exact x2) (by rw [vm2]; exact y1) (by rw [vm2]; exact y2)
  rw [vm2] at z1 z2
  have h := (mulF_spec f3 const_qtr.1).2.bound fm sm (by rw [const_qtr.2.1]; grind) (by rw [const_qtr.2.1]; grind)
  exact ⟨f1, f2, f3, h.1, h.2.1, h.2.2.1⟩
theorem mul_two {m : Nat} (fm : single.fin m) (sm : single.sgn m = false) (hm : single.V m ≤ P2 100) : single.fin (mulF 1073741824 m) ∧ single.V (mulF 1073741824 m) = 2 * single.V m := by
  obtain ⟨c, fc, sc, vc⟩ := word_dbl fm sm hm
  have h := (mulF_spec const_2.1 fm).2
  rw [const_2.2.1, ← vc, const_2.2.2, sm] at h
  have e : mulF 1073741824 m = single.word false (single.rung c) ∨ single.fin (mulF 1073741824 m) ∧ single.V (mulF 1073741824 m) = single.V c := by
    right
    have b := h.bound fc sc (Rat.le_refl) (by have := single.rv_nonneg (single.rung c); rw [V_pos_word sc]; grind)
    refine ⟨b.1, ?_⟩
    obtain ⟨r, hw, hn⟩ := h
    simp only [Bool.false_eq_true, sg, if_false] at hn
    have hc : single.Near (single.V c) (single.rung c) := by rw [V_pos_word sc]; exact single.near_rv _
    have hr : r = single.rung c := Near.unique (by simpa [sg] using hn) hc
    rw [hw, hr, single.V_word ((by
      have := fc
      exact this) : single.rung c < single.infRung), V_pos_word sc]
    simp [sg]
  rcases e with e | e
  · have hb := h.bound fc sc (Rat.le_refl) (by have := single.rv_nonneg (single.rung c); rw [V_pos_word sc]; grind)
    have lt : single.rung c < single.infRung := fc
    refine ⟨hb.1, ?_⟩
    rw [e, show single.rung c = min (single.rung c) single.infRung from by omega, single.V_word lt]
    have : single.V c = single.rv (single.rung c) := V_pos_word sc
    simp [sg]
    rw [← this, vc]
  · exact ⟨e.1, by rw [e.2, vc]⟩
end Format
end Ieee

namespace Go.Proofs.Ytiiogjjjgoeghaa
open Go.ChangeShapes Go.WideShapes Go.ChangeAt Go.RowKit
open Ieee.Format (fin finE htE allFin allHt all_true all_false mulF subF addF Ht Bd divF rootF floorF easeF mixF)
set_option linter.unusedVariables false
open Ieee.Format (downF down_bd)

/-! ### levels of detail, in plain Lean -/
structure Lv where
  X : Int
  Y : Int
  W : Nat
  H : Nat
  l : List Nat
def Lv.ok (v : Lv) : Prop := Right v.X v.Y v.W v.H v.l
def Lv.ev (v : Lv) : Prop := v.X % 2 = 0 ∧ v.Y % 2 = 0 ∧ v.W % 2 = 0 ∧ v.H % 2 = 0
def dnK (v : Lv) (x y : Int) : Nat := ((2 * y - v.Y) * (v.W : Int) + 2 * x - v.X).toNat
def dnV (v : Lv) (x y : Int) : Nat := downF (v.l.getD (dnK v x y) 0) (v.l.getD (dnK v x y + 1) 0) (v.l.getD (dnK v x y + v.W) 0) (v.l.getD (dnK v x y + v.W + 1) 0)
def nx (v : Lv) : Lv := ⟨v.X / 2, v.Y / 2, v.W / 2, v.H / 2, madeL (dnV v) (v.X / 2) (v.Y / 2) (v.W / 2) (v.H / 2 * (v.W / 2))⟩
def lv (v : Lv) : Nat → Lv
  | 0 => v
  | k + 1 => nx (lv v k)
/-- all values are at most m in magnitude -/
def Lv.le (v : Lv) (m : Nat) : Prop := ∀ x ∈ v.l, fin Ieee.single x ∧ Ieee.single.V x ≤ Ieee.single.V m ∧ -Ieee.single.V m ≤ Ieee.single.V x
theorem dnK_in {v : Lv} (h : v.ok) (e : v.ev) {x y : Int} (hx : v.X / 2 ≤ x) (hx2 : x < v.X / 2 + (v.W / 2 : Nat)) (hy : v.Y / 2 ≤ y) (hy2 : y < v.Y / 2 + (v.H / 2 : Nat)) :
    (2 * y - v.Y) * (v.W : Int) + 2 * x - v.X = (dnK v x y : Int) ∧ dnK v x y + v.W + 1 < v.l.length ∧ 0 ≤ (2 * y - v.Y) * (v.W : Int) ∧ (2 * y - v.Y) * (v.W : Int) ≤ 65536 := by
  obtain ⟨e1, e2, e3, e4⟩ := e
  have l := h.len
  have wh := h.wh
  obtain ⟨j, hj⟩ : ∃ j : Nat, 2 * y - v.Y = (j : Int) := ⟨(2 * y - v.Y).toNat, by omega⟩
  have j2 : j + 2 ≤ v.H := by omega
  have m1 : (j + 2) * v.W ≤ v.H * v.W := Nat.mul_le_mul_right _ j2
  rw [Nat.add_mul] at m1
  have m2 : v.H * v.W = v.W * v.H := Nat.mul_comm _ _
  have c : (j : Int) * (v.W : Int) = ((j * v.W : Nat) : Int) := (Int.natCast_mul _ _).symm
  unfold dnK
  rw [hj, c, l]
  generalize j * v.W = z at *
  generalize v.H * v.W = z2 at *
  omega
theorem nx_le {v : Lv} {m : Nat} (h : v.ok) (e : v.ev) (hm : v.le m) (fm : fin Ieee.single m) (sm : Ieee.single.sgn m = false) (bm : Ieee.single.V m ≤ Ieee.P2 99) {x y : Int} (hx : v.X / 2 ≤ x) (hx2 : x < v.X / 2 + (v.W / 2 : Nat)) (hy : v.Y / 2 ≤ y) (hy2 : y < v.Y / 2 + (v.H / 2 : Nat)) :
    fin Ieee.single (dnV v x y) ∧ Ieee.single.V (dnV v x y) ≤ Ieee.single.V m ∧ -Ieee.single.V m ≤ Ieee.single.V (dnV v x y) := by
  obtain ⟨_, k1, _, _⟩ := dnK_in h e hx hx2 hy hy2
  have g : ∀ j, j < v.l.length → fin Ieee.single (v.l.getD j 0) ∧ Ieee.single.V (v.l.getD j 0) ≤ Ieee.single.V m ∧ -Ieee.single.V m ≤ Ieee.single.V (v.l.getD j 0) := fun j hj => by
    rw [List.getD_eq_getElem?_getD, List.getElem?_eq_getElem hj]
    exact hm _ (List.getElem_mem hj)
  have g0 := g (dnK v x y) (by omega)
  have g1 := g (dnK v x y + 1) (by omega)
  have g2 := g (dnK v x y + v.W) (by omega)
  have g3 := g (dnK v x y + v.W + 1) (by omega)
  have := down_bd g0.1 g1.1 g2.1 g3.1 fm sm bm g0.2.1 g0.2.2 g1.2.1 g1.2.2 g2.2.1 g2.2.2 g3.2.1 g3.2.2
  exact this.2.2.2
theorem nx_ok {v : Lv} {m : Nat} (h : v.ok) (e : v.ev) (hm : v.le m) (fm : fin Ieee.single m) (sm : Ieee.single.sgn m = false) (bm : Ieee.single.V m ≤ Ieee.P2 20) : (nx v).ok ∧ (nx v).le m := by
  have p99 := Ieee.P2_lt (show (20 : Int) < 99 by omega)
  have hall : (nx v).le m := by
    intro z hz
    unfold nx madeL at hz
    obtain ⟨k, hk, rfl⟩ := List.mem_map.1 hz
    have hk := List.mem_range.1 hk
    obtain ⟨e1, e2, e3, e4⟩ := e
    have w1 := h.w1
    have h1 := h.h1
    have hw : 0 < v.W / 2 := by omega
    have a1 := Nat.mod_lt k hw
    have a2 : k / (v.W / 2) < v.H / 2 := (Nat.div_lt_iff_lt_mul hw).2 hk
    generalize k / (v.W / 2) = b at *
    generalize k % (v.W / 2) = a at *
    exact nx_le h ⟨e1, e2, e3, e4⟩ hm fm sm (by grind) (by omega) (by omega) (by omega) (by omega)
  refine ⟨?_, hall⟩
  obtain ⟨e1, e2, e3, e4⟩ := e
  have w1 := h.w1; have w2 := h.w2; have h1 := h.h1; have h2 := h.h2; have x1 := h.x1; have x2 := h.x2; have y1 := h.y1; have y2 := h.y2; have wh := h.wh
  have wh2 : v.W / 2 * (v.H / 2) ≤ v.W * v.H := Nat.mul_le_mul (by omega) (by omega)
  refine ⟨by show 1 ≤ v.W / 2; omega, by show v.W / 2 ≤ 512; omega, by show 1 ≤ v.H / 2; omega, by show v.H / 2 ≤ 512; omega, by show v.W / 2 * (v.H / 2) ≤ 65536; omega, by show -4194304 ≤ v.X / 2; omega, by show v.X / 2 ≤ 4194304 - ((v.W / 2 : Nat) : Int); omega, by show -4194304 ≤ v.Y / 2; omega, by show v.Y / 2 ≤ 4194304 - ((v.H / 2 : Nat) : Int); omega, ?_, ?_⟩
  · show (madeL (dnV v) (v.X / 2) (v.Y / 2) (v.W / 2) (v.H / 2 * (v.W / 2))).length = v.H / 2 * (v.W / 2)
    exact madeL_len _ _ _ _ _
  · intro z hz
    obtain ⟨_, b, c⟩ := hall z hz
    exact Ieee.Format.Ht.of ⟨by grind, by grind⟩
/-- a level of a field whose levels ahead of it are even -/
theorem lv_ok {v : Lv} {m : Nat} (h : v.ok) (hm : v.le m) (fm : fin Ieee.single m) (sm : Ieee.single.sgn m = false) (bm : Ieee.single.V m ≤ Ieee.P2 20) : ∀ k, (∀ j, j < k → (lv v j).ev) →
    (lv v k).ok ∧ (lv v k).le m ∧ v.X = (lv v k).X * 2 ^ k ∧ v.Y = (lv v k).Y * 2 ^ k ∧ v.W = (lv v k).W * 2 ^ k ∧ v.H = (lv v k).H * 2 ^ k
  | 0, _ => ⟨h, hm, by simp [lv], by simp [lv], by simp [lv], by simp [lv]⟩
  | k + 1, he => by
    obtain ⟨a, b, c1, c2, c3, c4⟩ := lv_ok h hm fm sm bm k (fun j hj => he j (by omega))
    have e := he k (by omega)
    obtain ⟨x, y⟩ := nx_ok a e b fm sm bm
    obtain ⟨e1, e2, e3, e4⟩ := e
    refine ⟨x, y, ?_, ?_, ?_, ?_⟩
    · show v.X = (lv v k).X / 2 * 2 ^ (k + 1)
      rw [Int.pow_succ, Int.mul_comm (2 ^ k) 2, ← Int.mul_assoc, Int.ediv_mul_cancel (Int.dvd_of_emod_eq_zero e1)]; exact c1
    · show v.Y = (lv v k).Y / 2 * 2 ^ (k + 1)
      rw [Int.pow_succ, Int.mul_comm (2 ^ k) 2, ← Int.mul_assoc, Int.ediv_mul_cancel (Int.dvd_of_emod_eq_zero e2)]; exact c2
    · show v.W = (lv v k).W / 2 * 2 ^ (k + 1)
      rw [Nat.pow_succ, Nat.mul_comm (2 ^ k) 2, ← Nat.mul_assoc, Nat.div_mul_cancel (Nat.dvd_of_mod_eq_zero e3)]; exact c3
    · show v.H = (lv v k).H / 2 * 2 ^ (k + 1)
      rw [Nat.pow_succ, Nat.mul_comm (2 ^ k) 2, ← Nat.mul_assoc, Nat.div_mul_cancel (Nat.dvd_of_mod_eq_zero e4)]; exact c4
end Go.Proofs.Ytiiogjjjgoeghaa

namespace Go.Proofs.Ytiiogjjjgoeghaa
open Go.ChangeShapes Go.WideShapes Go.ChangeAt Go.RowKit
open Ieee.Format (fin finE htE allFin allHt all_true all_false mulF subF addF Ht Bd divF rootF floorF easeF mixF)
set_option linter.unusedVariables false
open Ieee.Format (downF down_bd bits_add bits_mul const_qtr)

theorem ev_iff (v : Lv) : (v.X.tmod 2 = 0 ∧ v.Y.tmod 2 = 0 ∧ (v.W : Int).tmod 2 = 0 ∧ (v.H : Int).tmod 2 = 0) ↔ v.ev := by
  unfold Lv.ev
  have t : ∀ z : Int, z.tmod 2 = 0 ↔ z % 2 = 0 := fun z => by rw [← Int.dvd_iff_tmod_eq_zero, Int.dvd_iff_emod_eq_zero]
  rw [t, t, t, t]
  omega
end Go.Proofs.Ytiiogjjjgoeghaa

namespace Go.Proofs.Ytiiogjjjgoeghaa
open Go.ChangeShapes Go.WideShapes Go.ChangeAt Go.RowKit
open Ieee.Format (fin finE htE allFin allHt all_true all_false mulF subF addF Ht Bd divF rootF floorF easeF mixF)
set_option linter.unusedVariables false
open Ieee.Format (downF down_bd bits_add bits_mul const_qtr)

/-- a field that is made -/
def LvP (u : Lv) (w : World) (e : Ending) (w' : World) : Prop :=
  (∃ g cap, e = .returned (fldV u.X u.Y u.W u.H (some ⟨g, 0, none⟩) u.l.length cap) ∧ OwnF w' w.heap.size g cap u.l) ∧ Below w.heap.size w w'
theorem downF_lt (a b c d : Nat) : downF a b c d < 4294967296 := Ieee.Format.mulF_lt _ _
theorem dn_world (w : World) (X Y W H : Int) (v : Value) (A B P Q : Int) : ∀ W0, W0 = ((w.alloc (.cells #[.int .i64 X, .int .i64 Y, .int .i64 W, .int .i64 H, v] 26)).alloc (.cells #[.int .i64 0, .int .i64 0, .int .i64 0, .int .i64 0, .slice none 0 0] 26)).alloc (.cells #[.int .i64 A, .int .i64 B, .int .i64 P, .int .i64 Q] 23) →
    Fld W0 w.heap.size X Y W H v ∧ Fld W0 (w.heap.size + 1) 0 0 0 0 (.slice none 0 0) ∧ Reg W0 (w.heap.size + 1 + 1) A B P Q ∧ Below w.heap.size w W0 := by
  rintro _ rfl
  refine ⟨((Fld.new w X Y W H v).alloc _).alloc _, ?_, ?_, (by repeat (first | with_reducible exact Below.refl _ _ | with_reducible apply Below.drew | with_reducible refine below_drewN ?_ _ | (with_reducible refine Below.setCell ?_ ?_ _; rotate_left; focus (first | omega | (simp <;> omega))) | (with_reducible refine Below.alloc ?_ ?_ _; rotate_left; focus (first | omega | (simp <;> omega)))))⟩
  · have := (Fld.new (w.alloc (.cells #[.int .i64 X, .int .i64 Y, .int .i64 W, .int .i64 H, v] 26)) 0 0 0 0 (.slice none 0 0)).alloc (.cells #[.int .i64 A, .int .i64 B, .int .i64 P, .int .i64 Q] 23)
    simpa using this
  · have := Reg.new ((w.alloc (.cells #[.int .i64 X, .int .i64 Y, .int .i64 W, .int .i64 H, v] 26)).alloc (.cells #[.int .i64 0, .int .i64 0, .int .i64 0, .int .i64 0, .slice none 0 0] 26)) A B P Q
    simpa using this
theorem lv_fin {v : Lv} {m : Nat} (hm : v.le m) {j : Nat} (h : j < v.l.length) : fin Ieee.single (v.l.getD j 0) ∧ Ieee.single.V (v.l.getD j 0) ≤ Ieee.single.V m ∧ -Ieee.single.V m ≤ Ieee.single.V (v.l.getD j 0) := by
  rw [List.getD_eq_getElem?_getD, List.getElem?_eq_getElem h]
  exact hm _ (List.getElem_mem h)
end Go.Proofs.Ytiiogjjjgoeghaa

namespace Go.Proofs.Ytiiogjjjgoeghaa
open Go.ChangeShapes Go.WideShapes Go.ChangeAt Go.RowKit
open Ieee.Format (fin finE htE allFin allHt all_true all_false mulF subF addF Ht Bd divF rootF floorF easeF mixF)
set_option linter.unusedVariables false

theorem Try.infoFld : (Try.prog.info? 26).map (fun i => (i.zero, i.size, i.bytes)) = some (some (.agg #[.int .i64 0, .int .i64 0, .int .i64 0, .int .i64 0, .slice none 0 0]), 5, 56) := by kernel_rfl

/-! ### slices of fields -/
/-- a field: its value, its row's block, its capacity -/
abbrev FE := Lv × Nat × Nat
def feC (e : FE) : List Value := [.int .i64 e.1.X, .int .i64 e.1.Y, .int .i64 e.1.W, .int .i64 e.1.H, .slice (some ⟨e.2.1, 0, none⟩) e.1.l.length e.2.2]
def feL (L : List FE) : List Value := L.flatMap feC
theorem feL_append (l m : List FE) : feL (l ++ m) = feL l ++ feL m := by unfold feL; simp
theorem feL_one (r : FE) : feL [r] = feC r := by unfold feL; simp
def feAt (L : List FE) (i : Nat) : FE := L.getD i (⟨0, 0, 0, 0, []⟩, 0, 0)
theorem feAt_eq {L : List FE} {i : Nat} (h : i < L.length) : feAt L i = L[i] := by unfold feAt; rw [List.getD_eq_getElem?_getD, List.getElem?_eq_getElem h]; rfl
theorem feL_get (L : List FE) (i : Nat) (hi : i < L.length) (t : Nat) (ht : t < 5) : (feL L)[i * 5 + t]? = (feC (feAt L i))[t]? := by
  induction L generalizing i with
  | nil => simp at hi
  | cons a L ih =>
    have e : feL (a :: L) = feC a ++ feL L := rfl
    have hl : (feC a).length = 5 := rfl
    rw [e]
    cases i with
    | zero => rw [Nat.zero_mul, Nat.zero_add, List.getElem?_append_left (by rw [hl]; exact ht)]; rfl
    | succ i =>
      rw [List.getElem?_append_right (by rw [hl]; omega), hl, show (i + 1) * 5 + t - 5 = i * 5 + t by omega]
      exact ih i (by simpa using hi)
theorem SRow.grown {w w' : World} {row : Option Nat} {b : Nat} {l : List Nat} (h : SRow w (some ⟨b, 0, none⟩) l) (hg : w.grownBy w' row) (hb : some b ≠ row) : SRow w' (some ⟨b, 0, none⟩) l := by
  obtain ⟨h1, h2⟩ := h
  refine ⟨h1, ?_⟩
  rcases h2 with h2 | ⟨b', o', e, h2⟩
  · exact .inl h2
  · cases e
    exact .inr ⟨b, 0, rfl, fun i hi => hg.cell (h2 i hi) hb⟩
/-- each field's values lie in memory -/
def FRows (w : World) (L : List FE) : Prop := ∀ e ∈ L, e.1.l ≠ [] ∧ e.2.1 < w.heap.size ∧ SRow w (some ⟨e.2.1, 0, none⟩) e.1.l
theorem FRows.below {w w' : World} {L : List FE} (h : FRows w L) (hb : Below w.heap.size w w') : FRows w' L := fun e he => by
  obtain ⟨a, b, c⟩ := h e he
  exact ⟨a, Nat.lt_of_lt_of_le b hb.size, c.below hb⟩

structure PyrInv (w wr : World) (B : Nat) (v : Value) (L : List FE) : Prop where
  own : wr.ownsRow B 26 5 v L.length (feL L)
  rows : FRows wr L
  pos : 0 < L.length
  bz : B ≤ wr.heap.size
  lb : w.heap.size ≤ B
  below : Below w.heap.size w wr
section
variable {w wr w2 w3 : World} {B : Nat} {v v' : Value} {L : List FE}
theorem PyrInv.call (h : PyrInv w wr B v L) (hb : Below wr.heap.size wr w2) : PyrInv w w2 B v L :=
  ⟨ownsRow_below h.own hb (fun k hk => (h.own.lt k hk).2), h.rows.below hb, h.pos, Nat.le_trans h.bz hb.size, h.lb, h.below.trans (hb.mono h.below.size)⟩
theorem PyrInv.alloc (h : PyrInv w wr B v L) (o : Obj) : PyrInv w (wr.alloc o) B v L := h.call ((Below.refl _ _).alloc (Nat.le_refl _) _)
theorem PyrInv.val (h : PyrInv w wr B v L) : ∃ g cap, v = .slice (some ⟨g, 0, none⟩) L.length cap ∧ B ≤ g ∧ g < wr.heap.size := by
  have p := h.pos
  rcases h.own.2 with ⟨_, h0⟩ | ⟨g, cap, cur, he, _⟩
  · omega
  · subst he
    exact ⟨g, cap, rfl, h.own.lt g rfl⟩
theorem PyrInv.get (h : PyrInv w wr B v L) {g cap : Nat} (hv : v = .slice (some ⟨g, 0, none⟩) L.length cap) {i : Nat} (hi : i < L.length) (t : Nat) (ht : t < 5) : wr.cell? ⟨g, i * 5 + t, none⟩ = (feC (feAt L i))[t]? := by
  have ho := h.own
  rw [hv] at ho
  rw [ho.cellAt (i * 5 + t) (by omega)]
  exact feL_get L i hi t ht
/-- the slice's block holds no field's values -/
theorem PyrInv.ne (h : PyrInv w wr B v L) : ∀ e : FE, e.1.l ≠ [] → SRow wr (some ⟨e.2.1, 0, none⟩) e.1.l → some e.2.1 ≠ v.ownBlock := by
  intro e he hr hc
  obtain ⟨g, cap, hv, _⟩ := h.val
  have c0 := h.get hv h.pos 0 (by omega)
  have c1 := hr.at_ (List.length_pos_iff.2 he)
  rw [hv] at hc
  have : e.2.1 = g := Option.some.inj hc
  rw [this] at c1
  simp only [Nat.zero_mul, Nat.add_zero] at c0 c1
  rw [c0] at c1
  simp [feC] at c1
theorem PyrInv.app {r : FE} {o : Obj} (h : PyrInv w w2 B v L) (hr : r.1.l ≠ [] ∧ r.2.1 < w2.heap.size ∧ SRow w2 (some ⟨r.2.1, 0, none⟩) r.1.l)
    (hown : w3.ownsRow B 26 5 v' (L.length + 1) (feL L ++ feC r)) (hg : (w2.alloc o).grownBy w3 v.ownBlock) : PyrInv w w3 B v' (L ++ [r]) := by
  have hA := h.alloc o
  have bA : Below w2.heap.size w2 (w2.alloc o) := (Below.refl _ _).alloc (Nat.le_refl _) _
  refine ⟨?_, ?_, by simp, Nat.le_trans hA.bz hg.size, h.lb, ?_⟩
  · rw [feL_append, feL_one]; simpa using hown
  · intro e he
    have : e.1.l ≠ [] ∧ e.2.1 < w2.heap.size ∧ SRow w2 (some ⟨e.2.1, 0, none⟩) e.1.l := by
      rcases List.mem_append.1 he with he | he
      · exact h.rows e he
      · rw [List.mem_singleton.1 he]; exact hr
    obtain ⟨a, b, c⟩ := this
    have cA := c.below bA
    exact ⟨a, Nat.lt_of_lt_of_le (Nat.lt_of_lt_of_le b bA.size) hg.size, cA.grown hg (hA.ne e a cA)⟩
  · refine hA.below.grown hg (by have := hA.below.size; exact this) (fun k hk => ?_)
    have := (h.own.lt k hk).1
    have := h.lb
    omega
end
theorem PyrInv.start (w w1 : World) (B : Nat) (e : FE) (hb : Below w.heap.size w w1) (hB : w.heap.size ≤ B) (hB1 : B ≤ w1.heap.size) (hr : e.1.l ≠ [] ∧ e.2.1 < w1.heap.size ∧ SRow w1 (some ⟨e.2.1, 0, none⟩) e.1.l) :
    PyrInv w (w1.alloc (.cells #[.int .i64 e.1.X, .int .i64 e.1.Y, .int .i64 e.1.W, .int .i64 e.1.H, .slice (some ⟨e.2.1, 0, none⟩) e.1.l.length e.2.2] 26)) B (.slice (some ⟨w1.heap.size, 0, none⟩) 1 1) [e] := by
  have bA : Below w1.heap.size w1 (w1.alloc (.cells #[.int .i64 e.1.X, .int .i64 e.1.Y, .int .i64 e.1.W, .int .i64 e.1.H, .slice (some ⟨e.2.1, 0, none⟩) e.1.l.length e.2.2] 26)) := (Below.refl _ _).alloc (Nat.le_refl _) _
  refine ⟨?_, ?_, by simp, Nat.le_trans hB1 bA.size, hB, hb.trans (bA.mono hb.size)⟩
  · rw [feL_one]
    exact World.ownsRow_lit (base := B) (e := 26) (size := 5) w1 _ 1 hB1 (by decide) rfl
  · intro e' he
    rw [List.mem_singleton.1 he]
    exact ⟨hr.1, Nat.lt_of_lt_of_le hr.2.1 bA.size, hr.2.2.below bA⟩
end Go.Proofs.Ytiiogjjjgoeghaa

namespace Go.Proofs.Ytiiogjjjgoeghaa
open Go.ChangeShapes Go.WideShapes Go.ChangeAt Go.RowKit
open Ieee.Format (fin finE htE allFin allHt all_true all_false mulF subF addF Ht Bd divF rootF floorF easeF mixF)
set_option linter.unusedVariables false

/-- what the first n levels are: the slice's fields, each even but the last -/
def Levels (v : Lv) (L : List FE) : Prop := (∀ i, i < L.length → (feAt L i).1 = lv v i) ∧ ∀ i, i + 1 < L.length → (lv v i).ev
def sliceLen : Value → Int
  | .slice _ n _ => n
  | _ => 0
/-- what pyramid gives -/
def PyrP (v : Lv) (most : Int) (w : World) (e : Ending) (w' : World) : Prop :=
  ∃ u L, e = .returned u ∧ PyrInv w w' w.heap.size u L ∧ Levels v L ∧ (L.length : Int) ≤ most ∧ ((L.length : Int) < most → ¬ (lv v (L.length - 1)).ev)
theorem Levels.one (v : Lv) (g c : Nat) : Levels v [(v, g, c)] := ⟨fun i hi => by simp at hi; subst hi; rfl, fun i hi => by simp at hi⟩
theorem Levels.app {v : Lv} {L : List FE} (h : Levels v L) (p : 0 < L.length) (e : (lv v (L.length - 1)).ev) (g c : Nat) : Levels v (L ++ [(nx (lv v (L.length - 1)), g, c)]) := by
  refine ⟨fun i hi => ?_, fun i hi => ?_⟩
  · rw [List.length_append, List.length_singleton] at hi
    rw [feAt_eq (by simp; omega)]
    by_cases t : i < L.length
    · rw [List.getElem_append_left t, ← feAt_eq t]; exact h.1 i t
    · obtain rfl : i = L.length := by omega
      rw [List.getElem_append_right (by omega)]
      simp only [Nat.sub_self, List.getElem_singleton]
      conv => rhs; rw [show L.length = (L.length - 1) + 1 by omega]
      rfl
  · rw [List.length_append, List.length_singleton] at hi
    by_cases t : i + 1 < L.length
    · exact h.2 i t
    · obtain rfl : i = L.length - 1 := by omega
      exact e
end Go.Proofs.Ytiiogjjjgoeghaa

namespace Go.Proofs.Ytiiogjjjgoeghaa
open Go.ChangeShapes Go.WideShapes Go.ChangeAt Go.RowKit
open Ieee.Format (fin finE htE allFin allHt all_true all_false mulF subF addF Ht Bd divF rootF floorF easeF mixF)
set_option linter.unusedVariables false
open Ieee.Format (htE_ok htE_far htE_bad allHt_iff)

theorem Row63.srow {w : World} {a : Option Addr} {l : List Nat} (h : Row63 w a l) (hn : l.length ≤ 65536) : SRow w a l := ⟨⟨by omega, h.1.2⟩, h.2⟩
/-- a field's check, however long its values -/
theorem check63 (X Y W H : Int) (a : Option Addr) (c : Nat) (l : List Nat) (w : World) (hl : Row63 w a l) :
    Calls Try.prog 9 #[fldV X Y W H a l.length c] w fun e w' => e = .returned (.int .i64 (chkF X Y W H l)) ∧ Below w.heap.size w w' := by
  by_cases hs : l.length ≤ 65536
  · exact check_field X Y W H a c l w (hl.srow hs)
  · have hz := hl.1.1
    clear hl
    have hA : Below w.heap.size w (w.alloc (.cells #[.int .i64 X, .int .i64 Y, .int .i64 W, .int .i64 H, .slice a l.length c] 26)) := (by repeat (first | with_reducible exact Below.refl _ _ | with_reducible apply Below.drew | with_reducible refine below_drewN ?_ _ | (with_reducible refine Below.setCell ?_ ?_ _; rotate_left; focus (first | omega | (simp <;> omega))) | (with_reducible refine Below.alloc ?_ ?_ _; rotate_left; focus (first | omega | (simp <;> omega)))))
    by_cases h1 : chk X Y W H = 0
    · obtain ⟨z1, z2, z3, z4, z5, z6, z7, z8, z9⟩ := chk_zero h1
      have zp : 1 ≤ W * H := by have := Int.mul_le_mul z1 z3 (by omega) (by omega); omega
      have h2 : (l.length : Int) ≠ W * H := by omega
      have E := Lib.hid (chkF_len h1 h2)
      have hb : ((l.length : Int) != W * H) = true := by rw [bne_iff_ne]; exact h2
      have H1 := Lib.hid h1
      clear h1 h2
      generalize chkF X Y W H l = r at *
      go_enter Try.func9, Try.ntmps9
      go_wp2_with fail
      refine (check1 _ _ _ _ _).mono ?_
      rintro e w1 ⟨rfl, b1⟩
      rw [H1.out]
      have B1 := hA.trans (b1.mono hA.size)
      obtain ⟨hcc, hf⟩ := bcell b1
      clear b1
      go_wp2_with fail
      go_ret
      exact ⟨ret_i64 E.out.symm, B1⟩
    · have E := Lib.hid (chkF_region (l := l) h1)
      have hb : (chk X Y W H != 0) = true := by rw [bne_iff_ne]; exact h1
      clear h1
      have E2 : Hid (chkF X Y W H l = chk X Y W H) := E.out
      have K := Lib.hid (fun w => check1 X Y W H w)
      generalize chk X Y W H = q at *
      generalize chkF X Y W H l = r at *
      go_enter Try.func9, Try.ntmps9
      go_wp2_with fail
      refine (K.out _).mono ?_
      rintro e w1 ⟨rfl, b1⟩
      have B1 := hA.trans (b1.mono hA.size)
      clear b1
      go_wp2
      go_ret
      exact ⟨ret_i64 E2.out.symm, B1⟩
theorem right_of {X Y W H : Int} {l : List Nat} (h : chkF X Y W H l = 0) : ∃ Wn Hn : Nat, W = (Wn : Int) ∧ H = (Hn : Int) ∧ Right X Y Wn Hn l := by
  have h1 : chk X Y W H = 0 := by
    by_cases t : chk X Y W H = 0
    · exact t
    · rw [chkF_region t] at h; exact absurd h t
  have h2 : (l.length : Int) = W * H := by
    by_cases t : (l.length : Int) = W * H
    · exact t
    · rw [chkF_len h1 t] at h; omega
  rw [chkF_vals h1 h2] at h
  obtain ⟨z1, z2, z3, z4, z5, z6, z7, z8, z9⟩ := chk_zero h1
  obtain ⟨Wn, rfl⟩ := Int.eq_ofNat_of_zero_le (show 0 ≤ W by omega)
  obtain ⟨Hn, rfl⟩ := Int.eq_ofNat_of_zero_le (show 0 ≤ H by omega)
  refine ⟨Wn, Hn, rfl, rfl, by omega, by omega, by omega, by omega, ?_, by omega, by omega, by omega, by omega, ?_, ?_⟩
  · rw [← Int.natCast_mul] at z9; omega
  · rw [← Int.natCast_mul] at h2; rw [Nat.mul_comm]; omega
  · refine allHt_iff.1 ?_
    cases hf : Ieee.Format.allFin l
    · rw [htE_bad hf] at h; omega
    · cases hh : Ieee.Format.allHt l
      · rw [htE_far hf hh] at h; omega
      · rfl
/-- what Pyramid gives for a right field -/
def PyrQ (v : Lv) (most : Int) (w : World) (e : Ending) (w' : World) : Prop :=
  (∃ (c : Int) (u : Value), e = .returned (.tuple #[u, .int .i64 c]) ∧ (c ≠ 0 ∧ most ≠ 1 ∧ u = .slice none 0 0 ∨ c = 0 ∧ 1 ≤ most ∧ most ≤ 10 ∧ ∃ B L, PyrInv w w' B u L ∧ Levels v L ∧ (L.length : Int) = most)) ∧ Below w.heap.size w w'
end Go.Proofs.Ytiiogjjjgoeghaa

namespace Go.Proofs.Ytiiogjjjgoeghaa
open Go.ChangeShapes Go.WideShapes Go.ChangeAt Go.RowKit
open Ieee.Format (fin finE htE allFin allHt all_true all_false mulF subF addF Ht Bd divF rootF floorF easeF mixF)
set_option linter.unusedVariables false
set_option linter.unusedSimpArgs false
open Ieee.Format (num fin_num Ry Bx stF upB Mn)

theorem But.belowOf {B B' : Nat} {q : Nat → Prop} {w w' : World} (h : But B q w w') (hB : B' ≤ B) (hq : ∀ k, k < B' → ¬ q k) : Below B' w w' :=
  ⟨h.os, h.tape, h.output, h.size, fun k hk => h.block k (by omega) (hq k hk)⟩
theorem Blk.but {B : Nat} {q : Nat → Prop} {w w' : World} {k : Nat} {cs : Array Value} {t : TypeId} (h : Blk w k cs t) (hb : But B q w w') (hk : k < B) (hq : ¬ q k) : Blk w' k cs t := (hb.block k hk hq).trans h
theorem ry_words {r : Ry} (hw : ∀ x ∈ ryL r, x < 4294967296) : True := trivial

set_option maxRecDepth 100000 in
set_option maxHeartbeats 1000000 in
theorem checkhit_any (X Y : Int) (Wn Hn : Nat) (b o c : Nat) (l : List Nat) (r : Ry) (w : World) (hl : SRow w (some ⟨b, o, none⟩) l) (hr : Right X Y Wn Hn l) (hw : ∀ x ∈ ryL r, x < 4294967296) :
    Calls Try.prog 11 #[fldV X Y Wn Hn (some ⟨b, o, none⟩) l.length c, rayV r] w fun e w' => e = .returned (.int .i64 (ryE r)) ∧ Below w.heap.size w w' := by
  have K1 := Lib.hid (fun W h => check_field X Y Wn Hn (some ⟨b, o, none⟩) c l W h)
  rw [hr.chk] at K1
  have K2 := Lib.hid (fun W => checkray_any r W hw)
  have HL := Lib.hid hl
  generalize ryE r = er at *
  clear hl hr hw
  go_enter Try.func11, Try.ntmps11
  go_upto_region 1 with fail
  have b0 : Below w.heap.size w ((w.alloc (.cells #[.int .i64 X, .int .i64 Y, .int .i64 (Wn : Int), .int .i64 (Hn : Int), .slice (some ⟨b, o, none⟩) l.length c] 26)).alloc (.cells #[.float .f32 r.X, .float .f32 r.Y, .float .f32 r.H, .float .f32 r.DX, .float .f32 r.DY, .float .f32 r.DH, .float .f32 r.Mo] 29)) := (by repeat (first | with_reducible exact Below.refl _ _ | with_reducible apply Below.drew | with_reducible refine below_drewN ?_ _ | (with_reducible refine Below.setCell ?_ ?_ _; rotate_left; focus (first | omega | (simp <;> omega))) | (with_reducible refine Below.alloc ?_ ?_ _; rotate_left; focus (first | omega | (simp <;> omega)))))
  have F0 := (Fld.new w X Y Wn Hn (.slice (some ⟨b, o, none⟩) l.length c)).alloc (.cells #[.float .f32 r.X, .float .f32 r.Y, .float .f32 r.H, .float .f32 r.DX, .float .f32 r.DY, .float .f32 r.DH, .float .f32 r.Mo] 29)
  have R0 := Blk.new (w.alloc (.cells #[.int .i64 X, .int .i64 Y, .int .i64 (Wn : Int), .int .i64 (Hn : Int), .slice (some ⟨b, o, none⟩) l.length c] 26)) #[.float .f32 r.X, .float .f32 r.Y, .float .f32 r.H, .float .f32 r.DX, .float .f32 r.DY, .float .f32 r.DH, .float .f32 r.Mo] 29
  rw [show (w.alloc (.cells #[.int .i64 X, .int .i64 Y, .int .i64 (Wn : Int), .int .i64 (Hn : Int), .slice (some ⟨b, o, none⟩) l.length c] 26)).heap.size = w.heap.size + 1 from by simp] at R0
  generalize (w.alloc (.cells #[.int .i64 X, .int .i64 Y, .int .i64 (Wn : Int), .int .i64 (Hn : Int), .slice (some ⟨b, o, none⟩) l.length c] 26)).alloc (.cells #[.float .f32 r.X, .float .f32 r.Y, .float .f32 r.H, .float .f32 r.DX, .float .f32 r.DY, .float .f32 r.DH, .float .f32 r.Mo] 29) = W0 at *
  obtain ⟨d0, d1, d2, d3, d4⟩ := F0.cells
  have l0 := F0.lt
  go_wp2_with fail
  refine (K1.out _ (HL.out.below b0)).mono ?_
  rintro e w1 ⟨rfl, b1⟩
  have HB1 := Lib.hid (b0.trans (b1.mono b0.size))
  have R1 := R0.below b1 R0.lt
  clear d0 d1 d2 d3 d4 l0 F0 R0 b0 b1 K1
  have p0 : w1.cell? ⟨w.heap.size + 1, 0, none⟩ = some (.float .f32 r.X) := R1.cell 0
  have p1 : w1.cell? ⟨w.heap.size + 1, 1, none⟩ = some (.float .f32 r.Y) := R1.cell 1
  have p2 : w1.cell? ⟨w.heap.size + 1, 2, none⟩ = some (.float .f32 r.H) := R1.cell 2
  have p3 : w1.cell? ⟨w.heap.size + 1, 3, none⟩ = some (.float .f32 r.DX) := R1.cell 3
  have p4 : w1.cell? ⟨w.heap.size + 1, 4, none⟩ = some (.float .f32 r.DY) := R1.cell 4
  have p5 : w1.cell? ⟨w.heap.size + 1, 5, none⟩ = some (.float .f32 r.DH) := R1.cell 5
  have p6 : w1.cell? ⟨w.heap.size + 1, 6, none⟩ = some (.float .f32 r.Mo) := R1.cell 6
  have lr := R1.lt
  clear R1
  go_wp2_with fail
  refine (K2.out _).mono ?_
  rintro e w2 ⟨rfl, b2⟩
  have HB2 := Lib.hid (HB1.out.trans (b2.mono HB1.out.size))
  clear p0 p1 p2 p3 p4 p5 p6 lr b2 HB1 K2
  go_wp2_with fail
  go_ret
  exact ⟨rfl, HB2.out⟩

def BtP (l : List Nat) (Wn Hn K : Nat) (w : World) (e : Ending) (w' : World) : Prop :=
  (∃ g cap, e = .returned (.tuple #[.slice (some ⟨g, 0, none⟩) (offB Wn Hn (K + 1)) cap, .int .i64 0]) ∧ Rw w' g (alB l Wn Hn (K + 1))) ∧ Below w.heap.size w w'
set_option maxRecDepth 100000 in
set_option maxHeartbeats 1000000 in
theorem bndtop_good (X Y : Int) (Wn Hn K : Nat) (b o c : Nat) (l : List Nat) (w : World) (hl : SRow w (some ⟨b, o, none⟩) l) (hc : l.length ≤ c) (hr : Right X Y Wn Hn l) (hK : Top Wn Hn K) :
    Calls Try.prog 5 #[fldV X Y Wn Hn (some ⟨b, o, none⟩) l.length c] w fun e w' => BtP l Wn Hn K w e w' := by
  have K1 := Lib.hid (fun W h => check_field X Y Wn Hn (some ⟨b, o, none⟩) c l W h)
  rw [hr.chk] at K1
  have K2 := Lib.hid (fun W h => bounds_any X Y Wn Hn K b o c l W h hc hr hK)
  have HL := Lib.hid hl
  clear hl hr hK hc
  go_enter Try.func5, Try.ntmps5
  go_upto_region 1 with fail
  have b0 : Below w.heap.size w (w.alloc (.cells #[.int .i64 X, .int .i64 Y, .int .i64 (Wn : Int), .int .i64 (Hn : Int), .slice (some ⟨b, o, none⟩) l.length c] 26)) := (by repeat (first | with_reducible exact Below.refl _ _ | with_reducible apply Below.drew | with_reducible refine below_drewN ?_ _ | (with_reducible refine Below.setCell ?_ ?_ _; rotate_left; focus (first | omega | (simp <;> omega))) | (with_reducible refine Below.alloc ?_ ?_ _; rotate_left; focus (first | omega | (simp <;> omega)))))
  have F0 := Fld.new w X Y Wn Hn (.slice (some ⟨b, o, none⟩) l.length c)
  generalize w.alloc (.cells #[.int .i64 X, .int .i64 Y, .int .i64 (Wn : Int), .int .i64 (Hn : Int), .slice (some ⟨b, o, none⟩) l.length c] 26) = W0 at *
  obtain ⟨d0, d1, d2, d3, d4⟩ := F0.cells
  have l0 := F0.lt
  go_wp2_with fail
  refine (K1.out _ (HL.out.below b0)).mono ?_
  rintro e w1 ⟨rfl, b1⟩
  have HB1 := Lib.hid (b0.trans (b1.mono b0.size))
  have F1 := F0.below b1 F0.lt
  clear d0 d1 d2 d3 d4 l0 F0 b0 b1 K1
  obtain ⟨d0, d1, d2, d3, d4⟩ := F1.cells
  have l1 := F1.lt
  clear F1
  go_wp2_with fail
  refine (K2.out _ (HL.out.below HB1.out)).mono ?_
  rintro e w2 ⟨⟨g, cap, rfl, hR⟩, b2⟩
  have HB2 := Lib.hid (HB1.out.trans (b2.mono HB1.out.size))
  have HR := Lib.hid hR
  clear d0 d1 d2 d3 d4 l1 b2 hR HB1 K2
  generalize hN : offB Wn Hn (K + 1) = N at *
  have HNN := Lib.hid hN
  clear hN
  go_wp2_with fail
  refine bodyPost_ret (v := .tuple #[.slice (some ⟨g, 0, none⟩) N cap, .int .i64 0]) (by simp [results, Try.results5, go_sem, *]) rfl ?_
  exact ⟨⟨g, cap, by rw [HNN.out], HR.out⟩, HB2.out⟩
set_option maxRecDepth 100000 in
set_option maxHeartbeats 1000000 in
theorem bndtop_bad (X Y W H : Int) (a : Option Addr) (c : Nat) (l : List Nat) (w : World) (hl : Row63 w a l) (h : chkF X Y W H l ≠ 0) :
    Calls Try.prog 5 #[fldV X Y W H a l.length c] w fun e w' => e = .returned (.tuple #[.slice none 0 0, .int .i64 (chkF X Y W H l)]) ∧ Below w.heap.size w w' := by
  have K1 := Lib.hid (fun W' h => check63 X Y W H a c l W' h)
  have HL := Lib.hid hl
  have hb : (chkF X Y W H l != 0) = true := by rw [bne_iff_ne]; exact h
  clear hl h
  generalize chkF X Y W H l = q at *
  go_enter Try.func5, Try.ntmps5
  go_upto_region 1 with fail
  have b0 : Below w.heap.size w (w.alloc (.cells #[.int .i64 X, .int .i64 Y, .int .i64 W, .int .i64 H, .slice a l.length c] 26)) := (by repeat (first | with_reducible exact Below.refl _ _ | with_reducible apply Below.drew | with_reducible refine below_drewN ?_ _ | (with_reducible refine Below.setCell ?_ ?_ _; rotate_left; focus (first | omega | (simp <;> omega))) | (with_reducible refine Below.alloc ?_ ?_ _; rotate_left; focus (first | omega | (simp <;> omega)))))
  have F0 := Fld.new w X Y W H (.slice a l.length c)
  generalize w.alloc (.cells #[.int .i64 X, .int .i64 Y, .int .i64 W, .int .i64 H, .slice a l.length c] 26) = W0 at *
  obtain ⟨d0, d1, d2, d3, d4⟩ := F0.cells
  have l0 := F0.lt
  go_wp2_with fail
  refine (K1.out _ (HL.out.below b0)).mono ?_
  rintro e w1 ⟨rfl, b1⟩
  have HB1 := Lib.hid (b0.trans (b1.mono b0.size))
  clear d0 d1 d2 d3 d4 l0 F0 b0 b1 K1
  go_wp2_with fail
  exact bodyPost_ret (v := .tuple #[.slice none 0 0, .int .i64 q]) (by simp [results, Try.results5, go_sem, *]) rfl ⟨rfl, HB1.out⟩
end Go.Proofs.Ytiiogjjjgoeghaa
