import Derived.Test.YtnfebeebjelgbaaBrushF
import Derived.Test.YtnfebeebjelgbaaFloatP
import Derived.Test.YtnfebeebjelgbaaBrushFn
import Derived.Test.YtnfebeebjelgbaaWithin
import Derived.BigQuiet
import Derived.Test.YtnfebeebjelgbaaCount
import Derived.Test.YtnfebeebjelgbaaRefShade
import Derived.Deep.RegionHeld3
namespace Go.Proofs.Ytnfebeebjelgbaa
open Go.ChangeShapes Go.WideShapes Go.ChangeAt Go.RowKit
open Ieee.Format (fin finE htE allFin allHt all_true all_false mulF subF addF Ht Bd divF rootF floorF easeF mixF)
set_option linter.unusedVariables false
open Ieee.Format (conv_exact const_1 const_0 const_2 conv_24 Hn)

/-! ### a fold's lift, in plain Lean -/
def le1 (t : Nat) : Bool := FloatKind.f32.format.order t 1065353216 == some .lt || FloatKind.f32.format.order t 1065353216 == some .eq
def foldY (k : Int) : Nat := mulF (cv k) 1073741824
def foldT (k P : Int) : Nat := divF (foldY k) (cv P)
def foldS (k P : Int) : Nat := subF 1073741824 (foldT k P)
def foldU (k P : Int) : Nat := if le1 (foldT k P) = true then foldT k P else foldS k P
def liftF (H : Nat) (k P : Int) : Nat := mulF H (easeF (foldU k P))
theorem liftF_lt (H : Nat) (k P : Int) : liftF H k P < 4294967296 := Ieee.Format.mulF_lt _ _

theorem le1_gtr {t : Nat} (h : fin Ieee.single t) : (FloatKind.f32.format.order t 1065353216 == some .gt) = !le1 t := by
  have a : (FloatKind.f32.format.order t 1065353216 == some .gt) = decide (Ieee.single.V 1065353216 < Ieee.single.V t) := Ieee.single.order_gt h const_1.1
  have b : (FloatKind.f32.format.order t 1065353216 == some .lt) = decide (Ieee.single.V t < Ieee.single.V 1065353216) := Ieee.single.order_lt h const_1.1
  have c : (FloatKind.f32.format.order t 1065353216 == some .eq) = decide (Ieee.single.V t = Ieee.single.V 1065353216) := Ieee.single.order_eq h const_1.1
  unfold le1
  rw [a, b, c, const_1.2.1]
  by_cases c1 : Ieee.single.V t < 1
  · have : ¬ 1 < Ieee.single.V t := by grind
    simp [c1, this]
  · by_cases c2 : Ieee.single.V t = 1
    · simp [c2]
    · have : 1 < Ieee.single.V t := by grind
      simp [c1, c2, this]
theorem le1_iff {t : Nat} (h : fin Ieee.single t) : le1 t = decide (Ieee.single.V t ≤ 1) := by
  have b : (FloatKind.f32.format.order t 1065353216 == some .lt) = decide (Ieee.single.V t < Ieee.single.V 1065353216) := Ieee.single.order_lt h const_1.1
  have c : (FloatKind.f32.format.order t 1065353216 == some .eq) = decide (Ieee.single.V t = Ieee.single.V 1065353216) := Ieee.single.order_eq h const_1.1
  unfold le1
  rw [b, c, const_1.2.1]
  by_cases c1 : Ieee.single.V t < 1
  · have : Ieee.single.V t ≤ 1 := by grind
    simp [c1, this]
  · by_cases c2 : Ieee.single.V t = 1
    · simp [c2]
    · have : ¬ Ieee.single.V t ≤ 1 := by grind
      simp [c1, c2, this]

/-- what a lift's steps give -/
structure FoldOk (k P : Int) : Prop where
  a : fin Ieee.single (cv k)
  b : fin Ieee.single (foldY k)
  c : fin Ieee.single (cv P)
  d : Ieee.single.V (cv P) ≠ 0
  t : fin Ieee.single (foldT k P)
  s : le1 (foldT k P) = false → Share (foldS k P)
  u : le1 (foldT k P) = true → Share (foldT k P)
theorem FoldOk.share {k P : Int} (h : FoldOk k P) : Share (foldU k P) := by
  unfold foldU
  by_cases c : le1 (foldT k P) = true
  · rw [if_pos c]; exact h.u c
  · rw [if_neg c]; exact h.s (by simpa using c)
theorem fold_ok {k P : Int} (h0 : 0 ≤ k) (h1 : k < P) (h2 : P ≤ 16777216) : FoldOk k P := by
  obtain ⟨a1, a2, a3, a4⟩ := cv_pos h0 (show k < 16777216 by omega)
  obtain ⟨c1, c2, c3⟩ := conv_24 (n := P) (by omega) h2
  have ry := (Ieee.Format.mulF_spec a1 const_2.1).2
  rw [a2, const_2.2.1] at ry
  obtain ⟨b1, b2, b3⟩ := ry.exact k 1 (by omega) (by omega) (by decide) (by decide) (by rw [Ieee.Format.P2_one])
  have pk : (0 : Rat) ≤ (k : Rat) := Rat.intCast_nonneg.2 h0
  have kp : (k : Rat) ≤ (P : Rat) := Rat.intCast_le_intCast.2 (by omega)
  have p1 : (1 : Rat) ≤ (P : Rat) := Rat.intCast_le_intCast.2 (show 1 ≤ P by omega)
  have p0 : 0 < Ieee.single.V (cv P) := by rw [c2]; grind
  obtain ⟨t1, t2, t3⟩ := Ieee.Format.div_bound (x := foldY k) (y := cv P) (c := 1073741824) b1 c1 p0 const_2.1 const_2.2.2 (by rw [const_2.2.1]; show Ieee.single.V (mulF (cv k) 1073741824) ≤ _; rw [b2, c2]; grind) (by rw [const_2.2.1]; show _ ≤ Ieee.single.V (mulF (cv k) 1073741824); rw [b2, c2]; grind)
  have t0 := Ieee.Format.div_nonneg (x := foldY k) (y := cv P) b1 c1 p0 t1 (by show 0 ≤ Ieee.single.V (mulF (cv k) 1073741824); rw [b2]; grind)
  rw [const_2.2.1] at t2
  refine ⟨a1, b1, c1, by grind, t1, fun h => ?_, fun h => ?_⟩
  · rw [le1_iff (t := foldT k P) t1] at h
    have h := of_decide_eq_false h
    have hs := (Ieee.Format.subF_spec const_2.1 t1).2
    rw [const_2.2.1] at hs
    have t2' : Ieee.single.V (foldT k P) ≤ 2 := t2
    obtain ⟨x, y, _⟩ := hs.bound (c := 1065353216) const_1.1 (by decide) (by rw [const_1.2.1]; unfold foldT at h; grind) (by rw [const_1.2.1]; grind)
    rw [const_1.2.1] at y
    exact ⟨x, hs.nonneg x (by grind), y⟩
  · rw [le1_iff (t := foldT k P) t1] at h
    exact ⟨t1, t0, of_decide_eq_true h⟩
theorem lift_bd {H : Nat} {k P : Int} (hH : Bd 20 H) (h : FoldOk k P) : fin Ieee.single (easeF (foldU k P)) ∧ Bd 20 (liftF H k P) := by
  obtain ⟨u1, u2, u3⟩ := h.share
  obtain ⟨_, _, _, e1, e2, e3⟩ := Ieee.Format.ease_ok u1 u2 u3
  exact ⟨e1, hH.mul (Share.bd ⟨e1, e2, e3⟩) (by omega)⟩
end Go.Proofs.Ytnfebeebjelgbaa

namespace Go.Proofs.Ytnfebeebjelgbaa
open Go.ChangeShapes Go.WideShapes Go.ChangeAt Go.RowKit
open Ieee.Format (fin finE htE allFin allHt all_true all_false mulF subF addF Ht Bd divF rootF floorF easeF mixF)
set_option linter.unusedVariables false
open Ieee.Format (conv_exact const_1 const_0 const_2 conv_24 Hn negF conv_big conv_nonneg)

/-! ### a fault's throw, in plain Lean -/
theorem floatOfInt_lt32 (n : Int) : floatOfInt .f32 n < 4294967296 := by
  unfold floatOfInt
  have h := Ieee.Format.write_lt FloatKind.f32.format (.number (decide (n < 0)) n.natAbs 0)
  exact h
def geB (x y : Nat) : Bool := FloatKind.f32.format.order x y == some .gt || FloatKind.f32.format.order x y == some .eq
def leB (x y : Nat) : Bool := FloatKind.f32.format.order x y == some .lt || FloatKind.f32.format.order x y == some .eq
theorem geB_iff {x y : Nat} (hx : fin Ieee.single x) (hy : fin Ieee.single y) : geB x y = decide (Ieee.single.V y ≤ Ieee.single.V x) := by
  have a : (FloatKind.f32.format.order x y == some .gt) = decide (Ieee.single.V y < Ieee.single.V x) := Ieee.single.order_gt hx hy
  have c : (FloatKind.f32.format.order x y == some .eq) = decide (Ieee.single.V x = Ieee.single.V y) := Ieee.single.order_eq hx hy
  unfold geB
  rw [a, c]
  by_cases c1 : Ieee.single.V y < Ieee.single.V x
  · have : Ieee.single.V y ≤ Ieee.single.V x := by grind
    simp [c1, this]
  · by_cases c2 : Ieee.single.V x = Ieee.single.V y
    · simp [c2]
    · have : ¬ Ieee.single.V y ≤ Ieee.single.V x := by grind
      simp [c1, c2, this]
theorem leB_iff {x y : Nat} (hx : fin Ieee.single x) (hy : fin Ieee.single y) : leB x y = decide (Ieee.single.V x ≤ Ieee.single.V y) := by
  have a : (FloatKind.f32.format.order x y == some .lt) = decide (Ieee.single.V x < Ieee.single.V y) := Ieee.single.order_lt hx hy
  have c : (FloatKind.f32.format.order x y == some .eq) = decide (Ieee.single.V x = Ieee.single.V y) := Ieee.single.order_eq hx hy
  unfold leB
  rw [a, c]
  by_cases c1 : Ieee.single.V x < Ieee.single.V y
  · have : Ieee.single.V x ≤ Ieee.single.V y := by grind
    simp [c1, this]
  · by_cases c2 : Ieee.single.V x = Ieee.single.V y
    · simp [c2]
    · have : ¬ Ieee.single.V x ≤ Ieee.single.V y := by grind
      simp [c1, c2, this]
def fltD (k s : Int) : Nat := divF (cv k) (rootF (cv s))
def fltA (k s W : Int) : Nat := addF (fltD k s) (cv W)
def fltB (W : Int) : Nat := mulF (cv W) 1073741824
def fltT (k s W : Int) : Nat := divF (fltA k s W) (fltB W)
/-- on the raised side -/
def fltUp (k s W : Int) : Bool := if W = 0 then decide (0 ≤ k) else geB (fltD k s) (cv W)
def fltLo (k s W : Int) : Bool := leB (fltD k s) (negF (cv W))
def throwF (T : Nat) (k s W : Int) : Nat := if fltUp k s W = true then T else if fltLo k s W = true then 0 else mulF T (easeF (fltT k s W))

/-- what a throw's steps give -/
structure FltOk (k s W : Int) : Prop where
  a : fin Ieee.single (cv k)
  b : fin Ieee.single (cv s)
  b0 : 0 ≤ Ieee.single.V (cv s)
  c : fin Ieee.single (rootF (cv s))
  c0 : Ieee.single.V (rootF (cv s)) ≠ 0
  d : fin Ieee.single (fltD k s)
  w : fin Ieee.single (cv W)
  z : W = 0 → 0 ≤ k → geB (fltD k s) (cv W) = true
  n : W = 0 → k < 0 → leB (fltD k s) (negF (cv W)) = true
  e : fltUp k s W = false → fltLo k s W = false → fin Ieee.single (fltA k s W) ∧ fin Ieee.single (fltB W) ∧ Ieee.single.V (fltB W) ≠ 0 ∧ Share (fltT k s W)
theorem flt_ok {k s W : Int} (hk1 : -4398046511104 ≤ k) (hk2 : k ≤ 4398046511104) (hs1 : 1 ≤ s) (hs2 : s < 16777216) (hw1 : 0 ≤ W) (hw2 : W ≤ 4096) : FltOk k s W := by
  have a := conv_big (n := k) (k := 42) (by omega) (by omega) (by omega)
  obtain ⟨b, b0, c, c0⟩ := cv_root hs1 hs2
  have d := Ieee.Format.div_one a c c0 (by omega)
  obtain ⟨w1, w2, w3, w4⟩ := cv_pos hw1 (show W < 16777216 by omega)
  have wl : cv W < 4294967296 := floatOfInt_lt32 W
  have nf := Ieee.Format.negF_fin wl w1
  have nv := Ieee.Format.negF_V wl
  have c1 : 0 < Ieee.single.V (rootF (cv s)) := by grind
  have hz : W = 0 → 0 ≤ k → geB (fltD k s) (cv W) = true := fun h h' => by
    subst h
    have := Ieee.Format.div_nonneg (x := cv k) (y := rootF (cv s)) a.1 c c1 d.1 (conv_nonneg (k := 42) (by omega) h' (by omega))
    rw [geB_iff (x := fltD k s) d.1 w1, decide_eq_true_eq, w2]
    exact this
  have hn : W = 0 → k < 0 → leB (fltD k s) (negF (cv W)) = true := fun h h' => by
    subst h
    have hv : Ieee.single.V (cv k) ≤ 0 := (Ieee.Format.conv_rounds k).nonpos a.1 (Rat.intCast_nonpos.2 (by omega))
    have hd := Ieee.Format.div_nonpos (x := cv k) (y := rootF (cv s)) a.1 c c1 d.1 hv
    rw [leB_iff (x := fltD k s) d.1 nf, decide_eq_true_eq, nv, w2]
    have e : -((0 : Int) : Rat) = 0 := by decide
    rw [e]
    exact hd
  refine ⟨a.1, b, b0, c, by grind, d.1, w1, hz, hn, fun h1 h2 => ?_⟩
  have hW : W ≠ 0 := by
    intro h
    unfold fltUp at h1
    rw [if_pos h] at h1
    have := hn h (by have := of_decide_eq_false h1; omega)
    unfold fltLo at h2
    rw [this] at h2
    exact absurd h2 (by decide)
  unfold fltUp at h1
  rw [if_neg hW, geB_iff (x := fltD k s) d.1 w1] at h1
  unfold fltLo at h2
  rw [leB_iff (x := fltD k s) d.1 nf, nv] at h2
  have h1 := of_decide_eq_false h1
  have h2 := of_decide_eq_false h2
  have wp := cv_gt0 (show 1 ≤ W by omega) (show W < 16777216 by omega)
  have rb := (Ieee.Format.mulF_spec w1 const_2.1).2
  rw [w2, const_2.2.1] at rb
  obtain ⟨b1, b2, b3⟩ := rb.exact W 1 (by omega) (by omega) (by decide) (by decide) (by rw [Ieee.Format.P2_one])
  rw [w3, const_2.2.2] at b3
  have b1' : fin Ieee.single (fltB W) := b1
  have b2' : Ieee.single.V (fltB W) = Ieee.single.V (cv W) * 2 := by rw [w2]; exact b2
  have ra := (Ieee.Format.addF_spec (x := fltD k s) d.1 w1).2
  obtain ⟨x, y, _⟩ := ra.bound (c := fltB W) b1' b3 (by rw [b2']; grind) (by rw [b2']; grind)
  exact ⟨x, b1', by rw [b2']; grind, quo_share (x := fltA k s W) x b1' (by rw [b2']; grind) (ra.nonneg x (by grind)) y⟩
theorem throwF_lt {T : Nat} (hT : T < 4294967296) (k s W : Int) : throwF T k s W < 4294967296 := by
  unfold throwF
  split
  · exact hT
  · split
    · decide
    · exact Ieee.Format.mulF_lt _ _
theorem throw_bd {T : Nat} {k s W : Int} (hT : Bd 20 T) (h : FltOk k s W) : Bd 20 (throwF T k s W) := by
  unfold throwF
  by_cases c : fltUp k s W = true
  · rw [if_pos c]; exact hT
  · rw [if_neg c]
    by_cases c' : fltLo k s W = true
    · rw [if_pos c']
      have p := Ieee.P2_pos 20
      exact ⟨const_0.1, by rw [const_0.2.1]; show -Ieee.P2 20 ≤ 0; grind, by rw [const_0.2.1]; show 0 ≤ Ieee.P2 20; grind⟩
    · rw [if_neg c']
      obtain ⟨u1, u2, u3⟩ := (h.e (by simpa using c) (by simpa using c')).2.2.2
      obtain ⟨_, _, _, e1, e2, e3⟩ := Ieee.Format.ease_ok u1 u2 u3
      exact hT.mul (Share.bd ⟨e1, e2, e3⟩) (by omega)
end Go.Proofs.Ytnfebeebjelgbaa

namespace Go.Proofs.Ytnfebeebjelgbaa
open Go.ChangeShapes Go.WideShapes Go.ChangeAt Go.RowKit
open Ieee.Format (fin finE htE allFin allHt all_true all_false mulF subF addF Ht Bd divF rootF floorF easeF mixF)
set_option linter.unusedVariables false
open Ieee.Format (const_1)

abbrev foldV (A B P : Int) (H : Nat) : Value := .agg #[.int .i64 A, .int .i64 B, .int .i64 P, .float .f32 H]
def foldE (A B P : Int) (H : Nat) : Int := if (inB 1000 A && inB 1000 B) = false then 3 else if P < 2 then 3 else if 16777216 < P then 3 else if A = 0 then (if B = 0 then 12 else htE [H]) else htE [H]
theorem inB_iff {m n : Int} : inB m n = true ↔ -m ≤ n ∧ n ≤ m := by unfold inB; exact decide_eq_true_iff
theorem fold_zero {A B P : Int} {H : Nat} (h : foldE A B P H = 0) : (-1000 ≤ A ∧ A ≤ 1000) ∧ (-1000 ≤ B ∧ B ≤ 1000) ∧ 2 ≤ P ∧ P ≤ 16777216 ∧ htE [H] = 0 := by
  unfold foldE at h
  by_cases h1 : (inB 1000 A && inB 1000 B) = false
  · rw [if_pos h1] at h; omega
  · rw [if_neg h1] at h
    have h1 : (inB 1000 A && inB 1000 B) = true := by simpa using h1
    rw [Bool.and_eq_true, inB_iff, inB_iff] at h1
    by_cases h2 : P < 2
    · rw [if_pos h2] at h; omega
    · rw [if_neg h2] at h
      by_cases h3 : 16777216 < P
      · rw [if_pos h3] at h; omega
      · rw [if_neg h3] at h
        refine ⟨h1.1, h1.2, by omega, by omega, ?_⟩
        by_cases h4 : A = 0
        · rw [if_pos h4] at h
          by_cases h5 : B = 0
          · rw [if_pos h5] at h; omega
          · rw [if_neg h5] at h; exact h
        · rw [if_neg h4] at h; exact h

set_option maxHeartbeats 1000000 in
theorem check_fold (A B P : Int) (H : Nat) (w : World) (hH : H < 4294967296) :
    Calls Try.prog 56 #[foldV A B P H] w fun e w' => e = .returned (.int .i64 (foldE A B P H)) ∧ Below w.heap.size w w' := by
  have K1 := Lib.hid (fun W g h => heights_one W g H hH h)
  have KW := Lib.hid (fun W b c0 c1 => within2 1000 b A B W (by decide) (by decide) c0 c1)
  clear hH
  unfold foldE
  generalize htE [H] = a at *
  cases h1 : (inB 1000 A && inB 1000 B) with
  | false =>
    rw [h1] at KW
    rw [if_pos rfl]
    clear h1
    go_enter Try.func56, Try.ntmps56
    go_wp2_with (first | (go_at_call 149; refine (KW.out _ _ (by simp [go_sem]) (by simp [go_sem])).mono ?_; rintro e w' ⟨rfl, rfl⟩) | (go_at_call 93; refine (K1.out _ _ (by simp [go_sem])).mono ?_; rintro e w' ⟨rfl, rfl⟩))
    go_ret
    exact ⟨rfl, (by repeat (first | with_reducible exact Below.refl _ _ | with_reducible apply Below.drew | with_reducible refine below_drewN ?_ _ | (with_reducible refine Below.setCell ?_ ?_ _; rotate_left; focus (first | omega | (simp <;> omega))) | (with_reducible refine Below.alloc ?_ ?_ _; rotate_left; focus (first | omega | (simp <;> omega)))))⟩
  | true =>
    rw [h1] at KW
    rw [if_neg (by decide)]
    clear h1
    by_cases h2 : P < 2
    · rw [if_pos h2]
      go_enter Try.func56, Try.ntmps56
      go_wp2_with (first | (go_at_call 149; refine (KW.out _ _ (by simp [go_sem]) (by simp [go_sem])).mono ?_; rintro e w' ⟨rfl, rfl⟩) | (go_at_call 93; refine (K1.out _ _ (by simp [go_sem])).mono ?_; rintro e w' ⟨rfl, rfl⟩))
      go_ret
      exact ⟨rfl, (by repeat (first | with_reducible exact Below.refl _ _ | with_reducible apply Below.drew | with_reducible refine below_drewN ?_ _ | (with_reducible refine Below.setCell ?_ ?_ _; rotate_left; focus (first | omega | (simp <;> omega))) | (with_reducible refine Below.alloc ?_ ?_ _; rotate_left; focus (first | omega | (simp <;> omega)))))⟩
    · rw [if_neg h2]
      by_cases h3 : 16777216 < P
      · rw [if_pos h3]
        go_enter Try.func56, Try.ntmps56
        go_wp2_with (first | (go_at_call 149; refine (KW.out _ _ (by simp [go_sem]) (by simp [go_sem])).mono ?_; rintro e w' ⟨rfl, rfl⟩) | (go_at_call 93; refine (K1.out _ _ (by simp [go_sem])).mono ?_; rintro e w' ⟨rfl, rfl⟩))
        go_ret
        exact ⟨rfl, (by repeat (first | with_reducible exact Below.refl _ _ | with_reducible apply Below.drew | with_reducible refine below_drewN ?_ _ | (with_reducible refine Below.setCell ?_ ?_ _; rotate_left; focus (first | omega | (simp <;> omega))) | (with_reducible refine Below.alloc ?_ ?_ _; rotate_left; focus (first | omega | (simp <;> omega)))))⟩
      · rw [if_neg h3]
        by_cases h4 : A = 0
        · rw [if_pos h4]
          subst h4
          by_cases h5 : B = 0
          · rw [if_pos h5]
            subst h5
            go_enter Try.func56, Try.ntmps56
            go_wp2_with (first | (go_at_call 149; refine (KW.out _ _ (by simp [go_sem]) (by simp [go_sem])).mono ?_; rintro e w' ⟨rfl, rfl⟩) | (go_at_call 93; refine (K1.out _ _ (by simp [go_sem])).mono ?_; rintro e w' ⟨rfl, rfl⟩))
            go_ret
            exact ⟨rfl, (by repeat (first | with_reducible exact Below.refl _ _ | with_reducible apply Below.drew | with_reducible refine below_drewN ?_ _ | (with_reducible refine Below.setCell ?_ ?_ _; rotate_left; focus (first | omega | (simp <;> omega))) | (with_reducible refine Below.alloc ?_ ?_ _; rotate_left; focus (first | omega | (simp <;> omega)))))⟩
          · rw [if_neg h5]
            have q2 : (B == 0) = false := by simpa using h5
            go_enter Try.func56, Try.ntmps56
            go_wp2_with (first | (go_at_call 149; refine (KW.out _ _ (by simp [go_sem]) (by simp [go_sem])).mono ?_; rintro e w' ⟨rfl, rfl⟩) | (go_at_call 93; refine (K1.out _ _ (by simp [go_sem])).mono ?_; rintro e w' ⟨rfl, rfl⟩))
            go_ret
            exact ⟨rfl, (by repeat (first | with_reducible exact Below.refl _ _ | with_reducible apply Below.drew | with_reducible refine below_drewN ?_ _ | (with_reducible refine Below.setCell ?_ ?_ _; rotate_left; focus (first | omega | (simp <;> omega))) | (with_reducible refine Below.alloc ?_ ?_ _; rotate_left; focus (first | omega | (simp <;> omega)))))⟩
        · rw [if_neg h4]
          have q1 : (A == 0) = false := by simpa using h4
          go_enter Try.func56, Try.ntmps56
          go_wp2_with (first | (go_at_call 149; refine (KW.out _ _ (by simp [go_sem]) (by simp [go_sem])).mono ?_; rintro e w' ⟨rfl, rfl⟩) | (go_at_call 93; refine (K1.out _ _ (by simp [go_sem])).mono ?_; rintro e w' ⟨rfl, rfl⟩))
          go_ret
          exact ⟨rfl, (by repeat (first | with_reducible exact Below.refl _ _ | with_reducible apply Below.drew | with_reducible refine below_drewN ?_ _ | (with_reducible refine Below.setCell ?_ ?_ _; rotate_left; focus (first | omega | (simp <;> omega))) | (with_reducible refine Below.alloc ?_ ?_ _; rotate_left; focus (first | omega | (simp <;> omega)))))⟩

theorem foldin_any (n : Int) (w : World) : Calls Try.prog 150 #[.int .i64 n] w fun e w' => e = .returned (.bool (inB 1000 n)) ∧ w = w' := by
  unfold inB
  by_cases h1 : -1000 ≤ n
  · by_cases h2 : n ≤ 1000
    · rw [decide_eq_true (show -1000 ≤ n ∧ n ≤ 1000 from ⟨h1, h2⟩)]
      go_enter Try.func150, Try.ntmps150
      go_wp2
      go_ret
      exact ⟨rfl, rfl⟩
    · rw [decide_eq_false (show ¬ (-1000 ≤ n ∧ n ≤ 1000) by omega)]
      go_enter Try.func150, Try.ntmps150
      go_wp2
      go_ret
      exact ⟨rfl, rfl⟩
  · rw [decide_eq_false (show ¬ (-1000 ≤ n ∧ n ≤ 1000) by omega)]
    go_enter Try.func150, Try.ntmps150
    go_wp2
    go_ret
    exact ⟨rfl, rfl⟩
set_option maxHeartbeats 1000000 in
theorem refcheck_fold (A B P : Int) (H : Nat) (w : World) (hH : H < 4294967296) :
    Calls Try.prog 57 #[foldV A B P H] w fun e w' => e = .returned (.int .i64 (foldE A B P H)) ∧ Below w.heap.size w w' := by
  have K1 := Lib.hid (fun W g h => refheight_one W g H hH h)
  have kx := Lib.hid (fun w => foldin_any A w)
  have ky := Lib.hid (fun w => foldin_any B w)
  clear hH
  unfold foldE
  generalize htE [H] = a at *
  cases h0 : inB 1000 A with
  | false =>
    rw [h0] at kx
    rw [if_pos (by simp)]
    clear h0
    go_enter Try.func57, Try.ntmps57
    go_wp2_with (first | (go_at_call 150; (with_reducible refine (kx.out _).mono ?_); rintro e w' ⟨rfl, rfl⟩) | (go_at_call 150; (with_reducible refine (ky.out _).mono ?_); rintro e w' ⟨rfl, rfl⟩) | (go_at_call 24; refine (K1.out _ _ (by simp [go_sem])).mono ?_; rintro e w' ⟨rfl, rfl⟩))
    go_ret
    exact ⟨rfl, (by repeat (first | with_reducible exact Below.refl _ _ | with_reducible apply Below.drew | with_reducible refine below_drewN ?_ _ | (with_reducible refine Below.setCell ?_ ?_ _; rotate_left; focus (first | omega | (simp <;> omega))) | (with_reducible refine Below.alloc ?_ ?_ _; rotate_left; focus (first | omega | (simp <;> omega)))))⟩
  | true =>
    rw [h0] at kx
    cases h1 : inB 1000 B with
    | false =>
      rw [h1] at ky
      rw [if_pos (by simp)]
      clear h0 h1
      go_enter Try.func57, Try.ntmps57
      go_wp2_with (first | (go_at_call 150; (with_reducible refine (kx.out _).mono ?_); rintro e w' ⟨rfl, rfl⟩) | (go_at_call 150; (with_reducible refine (ky.out _).mono ?_); rintro e w' ⟨rfl, rfl⟩) | (go_at_call 24; refine (K1.out _ _ (by simp [go_sem])).mono ?_; rintro e w' ⟨rfl, rfl⟩))
      go_ret
      exact ⟨rfl, (by repeat (first | with_reducible exact Below.refl _ _ | with_reducible apply Below.drew | with_reducible refine below_drewN ?_ _ | (with_reducible refine Below.setCell ?_ ?_ _; rotate_left; focus (first | omega | (simp <;> omega))) | (with_reducible refine Below.alloc ?_ ?_ _; rotate_left; focus (first | omega | (simp <;> omega)))))⟩
    | true =>
      rw [h1] at ky
      rw [if_neg (by decide)]
      clear h0 h1
      by_cases h2 : P < 2
      · rw [if_pos h2]
        go_enter Try.func57, Try.ntmps57
        go_wp2_with (first | (go_at_call 150; (with_reducible refine (kx.out _).mono ?_); rintro e w' ⟨rfl, rfl⟩) | (go_at_call 150; (with_reducible refine (ky.out _).mono ?_); rintro e w' ⟨rfl, rfl⟩) | (go_at_call 24; refine (K1.out _ _ (by simp [go_sem])).mono ?_; rintro e w' ⟨rfl, rfl⟩))
        go_ret
        exact ⟨rfl, (by repeat (first | with_reducible exact Below.refl _ _ | with_reducible apply Below.drew | with_reducible refine below_drewN ?_ _ | (with_reducible refine Below.setCell ?_ ?_ _; rotate_left; focus (first | omega | (simp <;> omega))) | (with_reducible refine Below.alloc ?_ ?_ _; rotate_left; focus (first | omega | (simp <;> omega)))))⟩
      · rw [if_neg h2]
        by_cases h3 : 16777216 < P
        · rw [if_pos h3]
          go_enter Try.func57, Try.ntmps57
          go_wp2_with (first | (go_at_call 150; (with_reducible refine (kx.out _).mono ?_); rintro e w' ⟨rfl, rfl⟩) | (go_at_call 150; (with_reducible refine (ky.out _).mono ?_); rintro e w' ⟨rfl, rfl⟩) | (go_at_call 24; refine (K1.out _ _ (by simp [go_sem])).mono ?_; rintro e w' ⟨rfl, rfl⟩))
          go_ret
          exact ⟨rfl, (by repeat (first | with_reducible exact Below.refl _ _ | with_reducible apply Below.drew | with_reducible refine below_drewN ?_ _ | (with_reducible refine Below.setCell ?_ ?_ _; rotate_left; focus (first | omega | (simp <;> omega))) | (with_reducible refine Below.alloc ?_ ?_ _; rotate_left; focus (first | omega | (simp <;> omega)))))⟩
        · rw [if_neg h3]
          by_cases h4 : A = 0
          · rw [if_pos h4]
            subst h4
            by_cases h5 : B = 0
            · rw [if_pos h5]
              subst h5
              go_enter Try.func57, Try.ntmps57
              go_wp2_with (first | (go_at_call 150; (with_reducible refine (kx.out _).mono ?_); rintro e w' ⟨rfl, rfl⟩) | (go_at_call 150; (with_reducible refine (ky.out _).mono ?_); rintro e w' ⟨rfl, rfl⟩) | (go_at_call 24; refine (K1.out _ _ (by simp [go_sem])).mono ?_; rintro e w' ⟨rfl, rfl⟩))
              go_ret
              exact ⟨rfl, (by repeat (first | with_reducible exact Below.refl _ _ | with_reducible apply Below.drew | with_reducible refine below_drewN ?_ _ | (with_reducible refine Below.setCell ?_ ?_ _; rotate_left; focus (first | omega | (simp <;> omega))) | (with_reducible refine Below.alloc ?_ ?_ _; rotate_left; focus (first | omega | (simp <;> omega)))))⟩
            · rw [if_neg h5]
              have q2 : (B == 0) = false := by simpa using h5
              go_enter Try.func57, Try.ntmps57
              go_wp2_with (first | (go_at_call 150; (with_reducible refine (kx.out _).mono ?_); rintro e w' ⟨rfl, rfl⟩) | (go_at_call 150; (with_reducible refine (ky.out _).mono ?_); rintro e w' ⟨rfl, rfl⟩) | (go_at_call 24; refine (K1.out _ _ (by simp [go_sem])).mono ?_; rintro e w' ⟨rfl, rfl⟩))
              go_ret
              exact ⟨rfl, (by repeat (first | with_reducible exact Below.refl _ _ | with_reducible apply Below.drew | with_reducible refine below_drewN ?_ _ | (with_reducible refine Below.setCell ?_ ?_ _; rotate_left; focus (first | omega | (simp <;> omega))) | (with_reducible refine Below.alloc ?_ ?_ _; rotate_left; focus (first | omega | (simp <;> omega)))))⟩
          · rw [if_neg h4]
            have q1 : (A == 0) = false := by simpa using h4
            go_enter Try.func57, Try.ntmps57
            go_wp2_with (first | (go_at_call 150; (with_reducible refine (kx.out _).mono ?_); rintro e w' ⟨rfl, rfl⟩) | (go_at_call 150; (with_reducible refine (ky.out _).mono ?_); rintro e w' ⟨rfl, rfl⟩) | (go_at_call 24; refine (K1.out _ _ (by simp [go_sem])).mono ?_; rintro e w' ⟨rfl, rfl⟩))
            go_ret
            exact ⟨rfl, (by repeat (first | with_reducible exact Below.refl _ _ | with_reducible apply Below.drew | with_reducible refine below_drewN ?_ _ | (with_reducible refine Below.setCell ?_ ?_ _; rotate_left; focus (first | omega | (simp <;> omega))) | (with_reducible refine Below.alloc ?_ ?_ _; rotate_left; focus (first | omega | (simp <;> omega)))))⟩
end Go.Proofs.Ytnfebeebjelgbaa

namespace Go.Proofs.Ytnfebeebjelgbaa
open Go.ChangeShapes Go.WideShapes Go.ChangeAt Go.RowKit
open Ieee.Format (fin finE htE allFin allHt all_true all_false mulF subF addF Ht Bd divF rootF floorF easeF mixF)
set_option linter.unusedVariables false
open Ieee.Format (const_1)

abbrev faultV (A B C W : Int) (T : Nat) : Value := .agg #[.int .i64 A, .int .i64 B, .int .i64 C, .int .i64 W, .float .f32 T]
def faultE (A B C W : Int) (T : Nat) : Int := if (inB 1000 A && inB 1000 B) = false then 3 else if inB 1099511627776 C = false then 3 else if W < 0 then 3 else if 4096 < W then 3 else if A = 0 then (if B = 0 then 12 else htE [T]) else htE [T]
theorem fault_zero {A B C W : Int} {T : Nat} (h : faultE A B C W T = 0) : (-1000 ≤ A ∧ A ≤ 1000) ∧ (-1000 ≤ B ∧ B ≤ 1000) ∧ (-1099511627776 ≤ C ∧ C ≤ 1099511627776) ∧ (0 ≤ W ∧ W ≤ 4096) ∧ (A ≠ 0 ∨ B ≠ 0) ∧ htE [T] = 0 := by
  unfold faultE at h
  by_cases h1 : (inB 1000 A && inB 1000 B) = false
  · rw [if_pos h1] at h; omega
  · rw [if_neg h1] at h
    have h1 : (inB 1000 A && inB 1000 B) = true := by simpa using h1
    rw [Bool.and_eq_true, inB_iff, inB_iff] at h1
    by_cases h0 : inB 1099511627776 C = false
    · rw [if_pos h0] at h; omega
    · rw [if_neg h0] at h
      have h0 : inB 1099511627776 C = true := by simpa using h0
      rw [inB_iff] at h0
      by_cases h2 : W < 0
      · rw [if_pos h2] at h; omega
      · rw [if_neg h2] at h
        by_cases h3 : 4096 < W
        · rw [if_pos h3] at h; omega
        · rw [if_neg h3] at h
          by_cases h4 : A = 0
          · rw [if_pos h4] at h
            by_cases h5 : B = 0
            · rw [if_pos h5] at h; omega
            · rw [if_neg h5] at h; exact ⟨h1.1, h1.2, h0, ⟨by omega, by omega⟩, .inr h5, h⟩
          · rw [if_neg h4] at h; exact ⟨h1.1, h1.2, h0, ⟨by omega, by omega⟩, .inl h4, h⟩

set_option maxRecDepth 100000 in
set_option maxHeartbeats 2000000 in
theorem check_fault (A B C W : Int) (T : Nat) (w : World) (hT : T < 4294967296) :
    Calls Try.prog 77 #[faultV A B C W T] w fun e w' => e = .returned (.int .i64 (faultE A B C W T)) ∧ Below w.heap.size w w' := by
  have K1 := Lib.hid (fun W g h => heights_one W g T hT h)
  have KW := Lib.hid (fun W b c0 c1 => within2 1000 b A B W (by decide) (by decide) c0 c1)
  have KU := Lib.hid (fun W b c0 => within1 1099511627776 b C W (by decide) (by decide) c0)
  clear hT
  unfold faultE
  generalize htE [T] = a at *
  cases h1 : (inB 1000 A && inB 1000 B) with
  | false =>
    rw [h1] at KW
    rw [if_pos rfl]
    clear h1
    go_enter Try.func77, Try.ntmps77
    go_wp2_with (first | (go_at_call 149; (with_reducible refine (KW.out _ _ (by simp [go_sem]) (by simp [go_sem])).mono ?_); rintro e w' ⟨rfl, rfl⟩) | (go_at_call 149; (with_reducible refine (KU.out _ _ (by simp [go_sem])).mono ?_); rintro e w' ⟨rfl, rfl⟩) | (go_at_call 93; refine (K1.out _ _ (by simp [go_sem])).mono ?_; rintro e w' ⟨rfl, rfl⟩))
    go_ret
    exact ⟨rfl, (by repeat (first | with_reducible exact Below.refl _ _ | with_reducible apply Below.drew | with_reducible refine below_drewN ?_ _ | (with_reducible refine Below.setCell ?_ ?_ _; rotate_left; focus (first | omega | (simp <;> omega))) | (with_reducible refine Below.alloc ?_ ?_ _; rotate_left; focus (first | omega | (simp <;> omega)))))⟩
  | true =>
    rw [h1] at KW
    rw [if_neg (by decide)]
    clear h1
    cases h0 : inB 1099511627776 C with
    | false =>
      rw [h0] at KU
      rw [if_pos rfl]
      clear h0
      go_enter Try.func77, Try.ntmps77
      go_wp2_with (first | (go_at_call 149; (with_reducible refine (KW.out _ _ (by simp [go_sem]) (by simp [go_sem])).mono ?_); rintro e w' ⟨rfl, rfl⟩) | (go_at_call 149; (with_reducible refine (KU.out _ _ (by simp [go_sem])).mono ?_); rintro e w' ⟨rfl, rfl⟩) | (go_at_call 93; refine (K1.out _ _ (by simp [go_sem])).mono ?_; rintro e w' ⟨rfl, rfl⟩))
      go_ret
      exact ⟨rfl, (by repeat (first | with_reducible exact Below.refl _ _ | with_reducible apply Below.drew | with_reducible refine below_drewN ?_ _ | (with_reducible refine Below.setCell ?_ ?_ _; rotate_left; focus (first | omega | (simp <;> omega))) | (with_reducible refine Below.alloc ?_ ?_ _; rotate_left; focus (first | omega | (simp <;> omega)))))⟩
    | true =>
      rw [h0] at KU
      rw [if_neg (by decide)]
      clear h0
      by_cases h2 : W < 0
      · rw [if_pos h2]
        go_enter Try.func77, Try.ntmps77
        go_wp2_with (first | (go_at_call 149; (with_reducible refine (KW.out _ _ (by simp [go_sem]) (by simp [go_sem])).mono ?_); rintro e w' ⟨rfl, rfl⟩) | (go_at_call 149; (with_reducible refine (KU.out _ _ (by simp [go_sem])).mono ?_); rintro e w' ⟨rfl, rfl⟩) | (go_at_call 93; refine (K1.out _ _ (by simp [go_sem])).mono ?_; rintro e w' ⟨rfl, rfl⟩))
        go_ret
        exact ⟨rfl, (by repeat (first | with_reducible exact Below.refl _ _ | with_reducible apply Below.drew | with_reducible refine below_drewN ?_ _ | (with_reducible refine Below.setCell ?_ ?_ _; rotate_left; focus (first | omega | (simp <;> omega))) | (with_reducible refine Below.alloc ?_ ?_ _; rotate_left; focus (first | omega | (simp <;> omega)))))⟩
      · rw [if_neg h2]
        by_cases h3 : 4096 < W
        · rw [if_pos h3]
          go_enter Try.func77, Try.ntmps77
          go_wp2_with (first | (go_at_call 149; (with_reducible refine (KW.out _ _ (by simp [go_sem]) (by simp [go_sem])).mono ?_); rintro e w' ⟨rfl, rfl⟩) | (go_at_call 149; (with_reducible refine (KU.out _ _ (by simp [go_sem])).mono ?_); rintro e w' ⟨rfl, rfl⟩) | (go_at_call 93; refine (K1.out _ _ (by simp [go_sem])).mono ?_; rintro e w' ⟨rfl, rfl⟩))
          go_ret
          exact ⟨rfl, (by repeat (first | with_reducible exact Below.refl _ _ | with_reducible apply Below.drew | with_reducible refine below_drewN ?_ _ | (with_reducible refine Below.setCell ?_ ?_ _; rotate_left; focus (first | omega | (simp <;> omega))) | (with_reducible refine Below.alloc ?_ ?_ _; rotate_left; focus (first | omega | (simp <;> omega)))))⟩
        · rw [if_neg h3]
          by_cases h4 : A = 0
          · rw [if_pos h4]
            subst h4
            by_cases h5 : B = 0
            · rw [if_pos h5]
              subst h5
              go_enter Try.func77, Try.ntmps77
              go_wp2_with (first | (go_at_call 149; (with_reducible refine (KW.out _ _ (by simp [go_sem]) (by simp [go_sem])).mono ?_); rintro e w' ⟨rfl, rfl⟩) | (go_at_call 149; (with_reducible refine (KU.out _ _ (by simp [go_sem])).mono ?_); rintro e w' ⟨rfl, rfl⟩) | (go_at_call 93; refine (K1.out _ _ (by simp [go_sem])).mono ?_; rintro e w' ⟨rfl, rfl⟩))
              go_ret
              exact ⟨rfl, (by repeat (first | with_reducible exact Below.refl _ _ | with_reducible apply Below.drew | with_reducible refine below_drewN ?_ _ | (with_reducible refine Below.setCell ?_ ?_ _; rotate_left; focus (first | omega | (simp <;> omega))) | (with_reducible refine Below.alloc ?_ ?_ _; rotate_left; focus (first | omega | (simp <;> omega)))))⟩
            · rw [if_neg h5]
              have q2 : (B == 0) = false := by simpa using h5
              go_enter Try.func77, Try.ntmps77
              go_wp2_with (first | (go_at_call 149; (with_reducible refine (KW.out _ _ (by simp [go_sem]) (by simp [go_sem])).mono ?_); rintro e w' ⟨rfl, rfl⟩) | (go_at_call 149; (with_reducible refine (KU.out _ _ (by simp [go_sem])).mono ?_); rintro e w' ⟨rfl, rfl⟩) | (go_at_call 93; refine (K1.out _ _ (by simp [go_sem])).mono ?_; rintro e w' ⟨rfl, rfl⟩))
              go_ret
              exact ⟨rfl, (by repeat (first | with_reducible exact Below.refl _ _ | with_reducible apply Below.drew | with_reducible refine below_drewN ?_ _ | (with_reducible refine Below.setCell ?_ ?_ _; rotate_left; focus (first | omega | (simp <;> omega))) | (with_reducible refine Below.alloc ?_ ?_ _; rotate_left; focus (first | omega | (simp <;> omega)))))⟩
          · rw [if_neg h4]
            have q1 : (A == 0) = false := by simpa using h4
            go_enter Try.func77, Try.ntmps77
            go_wp2_with (first | (go_at_call 149; (with_reducible refine (KW.out _ _ (by simp [go_sem]) (by simp [go_sem])).mono ?_); rintro e w' ⟨rfl, rfl⟩) | (go_at_call 149; (with_reducible refine (KU.out _ _ (by simp [go_sem])).mono ?_); rintro e w' ⟨rfl, rfl⟩) | (go_at_call 93; refine (K1.out _ _ (by simp [go_sem])).mono ?_; rintro e w' ⟨rfl, rfl⟩))
            go_ret
            exact ⟨rfl, (by repeat (first | with_reducible exact Below.refl _ _ | with_reducible apply Below.drew | with_reducible refine below_drewN ?_ _ | (with_reducible refine Below.setCell ?_ ?_ _; rotate_left; focus (first | omega | (simp <;> omega))) | (with_reducible refine Below.alloc ?_ ?_ _; rotate_left; focus (first | omega | (simp <;> omega)))))⟩

theorem faultin_any (n m : Int) (w : World) (h0 : 0 ≤ m) (hm : m ≤ 1099511627776) : Calls Try.prog 182 #[.int .i64 n, .int .i64 m] w fun e w' => e = .returned (.bool (inB m n)) ∧ w = w' := by
  unfold inB
  by_cases h1 : -m ≤ n
  · by_cases h2 : n ≤ m
    · rw [decide_eq_true (show -m ≤ n ∧ n ≤ m from ⟨h1, h2⟩)]
      go_enter Try.func182, Try.ntmps182
      go_wp2
      go_ret
      exact ⟨rfl, rfl⟩
    · rw [decide_eq_false (show ¬ (-m ≤ n ∧ n ≤ m) by omega)]
      go_enter Try.func182, Try.ntmps182
      go_wp2
      go_ret
      exact ⟨rfl, rfl⟩
  · rw [decide_eq_false (show ¬ (-m ≤ n ∧ n ≤ m) by omega)]
    go_enter Try.func182, Try.ntmps182
    go_wp2
    go_ret
    exact ⟨rfl, rfl⟩
set_option maxRecDepth 100000 in
set_option maxHeartbeats 2000000 in
theorem refcheck_fault (A B C W : Int) (T : Nat) (w : World) (hT : T < 4294967296) :
    Calls Try.prog 78 #[faultV A B C W T] w fun e w' => e = .returned (.int .i64 (faultE A B C W T)) ∧ Below w.heap.size w w' := by
  have K1 := Lib.hid (fun W g h => refheight_one W g T hT h)
  have kx := Lib.hid (fun w => faultin_any A 1000 w (by decide) (by decide))
  have ky := Lib.hid (fun w => faultin_any B 1000 w (by decide) (by decide))
  have kz := Lib.hid (fun w => faultin_any C 1099511627776 w (by decide) (by decide))
  clear hT
  unfold faultE
  generalize htE [T] = a at *
  cases h0 : inB 1000 A with
  | false =>
    rw [h0] at kx
    rw [if_pos (by simp)]
    clear h0
    go_enter Try.func78, Try.ntmps78
    go_wp2_with (first | (go_at_call 182; (with_reducible refine (kx.out _).mono ?_); rintro e w' ⟨rfl, rfl⟩) | (go_at_call 182; (with_reducible refine (ky.out _).mono ?_); rintro e w' ⟨rfl, rfl⟩) | (go_at_call 182; (with_reducible refine (kz.out _).mono ?_); rintro e w' ⟨rfl, rfl⟩) | (go_at_call 24; refine (K1.out _ _ (by simp [go_sem])).mono ?_; rintro e w' ⟨rfl, rfl⟩))
    go_ret
    exact ⟨rfl, (by repeat (first | with_reducible exact Below.refl _ _ | with_reducible apply Below.drew | with_reducible refine below_drewN ?_ _ | (with_reducible refine Below.setCell ?_ ?_ _; rotate_left; focus (first | omega | (simp <;> omega))) | (with_reducible refine Below.alloc ?_ ?_ _; rotate_left; focus (first | omega | (simp <;> omega)))))⟩
  | true =>
    rw [h0] at kx
    cases h1 : inB 1000 B with
    | false =>
      rw [h1] at ky
      rw [if_pos (by simp)]
      clear h0 h1
      go_enter Try.func78, Try.ntmps78
      go_wp2_with (first | (go_at_call 182; (with_reducible refine (kx.out _).mono ?_); rintro e w' ⟨rfl, rfl⟩) | (go_at_call 182; (with_reducible refine (ky.out _).mono ?_); rintro e w' ⟨rfl, rfl⟩) | (go_at_call 182; (with_reducible refine (kz.out _).mono ?_); rintro e w' ⟨rfl, rfl⟩) | (go_at_call 24; refine (K1.out _ _ (by simp [go_sem])).mono ?_; rintro e w' ⟨rfl, rfl⟩))
      go_ret
      exact ⟨rfl, (by repeat (first | with_reducible exact Below.refl _ _ | with_reducible apply Below.drew | with_reducible refine below_drewN ?_ _ | (with_reducible refine Below.setCell ?_ ?_ _; rotate_left; focus (first | omega | (simp <;> omega))) | (with_reducible refine Below.alloc ?_ ?_ _; rotate_left; focus (first | omega | (simp <;> omega)))))⟩
    | true =>
      rw [h1] at ky
      rw [if_neg (by decide)]
      clear h0 h1
      cases h9 : inB 1099511627776 C with
      | false =>
        rw [h9] at kz
        rw [if_pos rfl]
        clear h9
        go_enter Try.func78, Try.ntmps78
        go_wp2_with (first | (go_at_call 182; (with_reducible refine (kx.out _).mono ?_); rintro e w' ⟨rfl, rfl⟩) | (go_at_call 182; (with_reducible refine (ky.out _).mono ?_); rintro e w' ⟨rfl, rfl⟩) | (go_at_call 182; (with_reducible refine (kz.out _).mono ?_); rintro e w' ⟨rfl, rfl⟩) | (go_at_call 24; refine (K1.out _ _ (by simp [go_sem])).mono ?_; rintro e w' ⟨rfl, rfl⟩))
        go_ret
        exact ⟨rfl, (by repeat (first | with_reducible exact Below.refl _ _ | with_reducible apply Below.drew | with_reducible refine below_drewN ?_ _ | (with_reducible refine Below.setCell ?_ ?_ _; rotate_left; focus (first | omega | (simp <;> omega))) | (with_reducible refine Below.alloc ?_ ?_ _; rotate_left; focus (first | omega | (simp <;> omega)))))⟩
      | true =>
        rw [h9] at kz
        rw [if_neg (by decide)]
        clear h9
        by_cases h2 : W < 0
        · rw [if_pos h2]
          go_enter Try.func78, Try.ntmps78
          go_wp2_with (first | (go_at_call 182; (with_reducible refine (kx.out _).mono ?_); rintro e w' ⟨rfl, rfl⟩) | (go_at_call 182; (with_reducible refine (ky.out _).mono ?_); rintro e w' ⟨rfl, rfl⟩) | (go_at_call 182; (with_reducible refine (kz.out _).mono ?_); rintro e w' ⟨rfl, rfl⟩) | (go_at_call 24; refine (K1.out _ _ (by simp [go_sem])).mono ?_; rintro e w' ⟨rfl, rfl⟩))
          go_ret
          exact ⟨rfl, (by repeat (first | with_reducible exact Below.refl _ _ | with_reducible apply Below.drew | with_reducible refine below_drewN ?_ _ | (with_reducible refine Below.setCell ?_ ?_ _; rotate_left; focus (first | omega | (simp <;> omega))) | (with_reducible refine Below.alloc ?_ ?_ _; rotate_left; focus (first | omega | (simp <;> omega)))))⟩
        · rw [if_neg h2]
          by_cases h3 : 4096 < W
          · rw [if_pos h3]
            go_enter Try.func78, Try.ntmps78
            go_wp2_with (first | (go_at_call 182; (with_reducible refine (kx.out _).mono ?_); rintro e w' ⟨rfl, rfl⟩) | (go_at_call 182; (with_reducible refine (ky.out _).mono ?_); rintro e w' ⟨rfl, rfl⟩) | (go_at_call 182; (with_reducible refine (kz.out _).mono ?_); rintro e w' ⟨rfl, rfl⟩) | (go_at_call 24; refine (K1.out _ _ (by simp [go_sem])).mono ?_; rintro e w' ⟨rfl, rfl⟩))
            go_ret
            exact ⟨rfl, (by repeat (first | with_reducible exact Below.refl _ _ | with_reducible apply Below.drew | with_reducible refine below_drewN ?_ _ | (with_reducible refine Below.setCell ?_ ?_ _; rotate_left; focus (first | omega | (simp <;> omega))) | (with_reducible refine Below.alloc ?_ ?_ _; rotate_left; focus (first | omega | (simp <;> omega)))))⟩
          · rw [if_neg h3]
            by_cases h4 : A = 0
            · rw [if_pos h4]
              subst h4
              by_cases h5 : B = 0
              · rw [if_pos h5]
                subst h5
                go_enter Try.func78, Try.ntmps78
                go_wp2_with (first | (go_at_call 182; (with_reducible refine (kx.out _).mono ?_); rintro e w' ⟨rfl, rfl⟩) | (go_at_call 182; (with_reducible refine (ky.out _).mono ?_); rintro e w' ⟨rfl, rfl⟩) | (go_at_call 182; (with_reducible refine (kz.out _).mono ?_); rintro e w' ⟨rfl, rfl⟩) | (go_at_call 24; refine (K1.out _ _ (by simp [go_sem])).mono ?_; rintro e w' ⟨rfl, rfl⟩))
                go_ret
                exact ⟨rfl, (by repeat (first | with_reducible exact Below.refl _ _ | with_reducible apply Below.drew | with_reducible refine below_drewN ?_ _ | (with_reducible refine Below.setCell ?_ ?_ _; rotate_left; focus (first | omega | (simp <;> omega))) | (with_reducible refine Below.alloc ?_ ?_ _; rotate_left; focus (first | omega | (simp <;> omega)))))⟩
              · rw [if_neg h5]
                have q2 : (B == 0) = false := by simpa using h5
                go_enter Try.func78, Try.ntmps78
                go_wp2_with (first | (go_at_call 182; (with_reducible refine (kx.out _).mono ?_); rintro e w' ⟨rfl, rfl⟩) | (go_at_call 182; (with_reducible refine (ky.out _).mono ?_); rintro e w' ⟨rfl, rfl⟩) | (go_at_call 182; (with_reducible refine (kz.out _).mono ?_); rintro e w' ⟨rfl, rfl⟩) | (go_at_call 24; refine (K1.out _ _ (by simp [go_sem])).mono ?_; rintro e w' ⟨rfl, rfl⟩))
                go_ret
                exact ⟨rfl, (by repeat (first | with_reducible exact Below.refl _ _ | with_reducible apply Below.drew | with_reducible refine below_drewN ?_ _ | (with_reducible refine Below.setCell ?_ ?_ _; rotate_left; focus (first | omega | (simp <;> omega))) | (with_reducible refine Below.alloc ?_ ?_ _; rotate_left; focus (first | omega | (simp <;> omega)))))⟩
            · rw [if_neg h4]
              have q1 : (A == 0) = false := by simpa using h4
              go_enter Try.func78, Try.ntmps78
              go_wp2_with (first | (go_at_call 182; (with_reducible refine (kx.out _).mono ?_); rintro e w' ⟨rfl, rfl⟩) | (go_at_call 182; (with_reducible refine (ky.out _).mono ?_); rintro e w' ⟨rfl, rfl⟩) | (go_at_call 182; (with_reducible refine (kz.out _).mono ?_); rintro e w' ⟨rfl, rfl⟩) | (go_at_call 24; refine (K1.out _ _ (by simp [go_sem])).mono ?_; rintro e w' ⟨rfl, rfl⟩))
              go_ret
              exact ⟨rfl, (by repeat (first | with_reducible exact Below.refl _ _ | with_reducible apply Below.drew | with_reducible refine below_drewN ?_ _ | (with_reducible refine Below.setCell ?_ ?_ _; rotate_left; focus (first | omega | (simp <;> omega))) | (with_reducible refine Below.alloc ?_ ?_ _; rotate_left; focus (first | omega | (simp <;> omega)))))⟩
end Go.Proofs.Ytnfebeebjelgbaa

namespace Go.Proofs.Ytnfebeebjelgbaa
open Go.ChangeShapes Go.WideShapes Go.ChangeAt Go.RowKit
open Ieee.Format (fin finE htE allFin allHt all_true all_false mulF subF addF Ht Bd divF rootF floorF easeF mixF)
set_option linter.unusedVariables false
open Ieee.Format (const_1)

theorem mul_bd {a x m n : Int} (h1 : -m ≤ a ∧ a ≤ m) (h2 : -n ≤ x ∧ x ≤ n) : -(m * n) ≤ a * x ∧ a * x ≤ m * n := by
  have h := Nat.mul_le_mul (show a.natAbs ≤ m.natAbs by omega) (show x.natAbs ≤ n.natAbs by omega)
  rw [← Int.natAbs_mul, ← Int.natAbs_mul] at h
  have : 0 ≤ m * n := Int.mul_nonneg (by omega) (by omega)
  omega

theorem lattice_any (a b : Int) (w : World) (hb : 0 < b) (hb2 : b ≤ 16777216) (ha : -1099511627776 ≤ a) (ha2 : a ≤ 1099511627776) :
    Calls Try.prog 194 #[.int .i64 a, .int .i64 b] w fun e w' => e = .returned (.tuple #[.int .i64 (a / b), .int .i64 (a % b)]) ∧ Below w.heap.size w w' := by
  obtain ⟨f1, f2⟩ := tdiv_floor a b hb
  have h2 := Int.tmod_lt_of_pos a hb
  have h3 := Int.lt_tmod_of_pos a hb
  have h4 := Int.natAbs_tdiv_le_natAbs a b
  have n0 : b ≠ 0 := by omega
  have g1 : -1099511627776 ≤ a.tdiv b := by omega
  have g2 : a.tdiv b ≤ 1099511627776 := by omega
  have HF1 := Lib.hid f1
  have HF2 := Lib.hid f2
  clear f1 f2 h4
  generalize hq : a.tdiv b = q at *
  generalize hm : a.tmod b = m at *
  by_cases h : m < 0
  · obtain ⟨e1, e2⟩ := HF1.out h
    have E1 := Lib.hid e1
    have E2 := Lib.hid e2
    clear e1 e2 HF1 HF2
    go_enter Try.func194, Try.ntmps194
    go_wp2_with fail
    go_quiet (fail)
    go_wp2_with fail
    refine bodyPost_ret (v := .tuple #[.int .i64 (q - 1), .int .i64 (m + b)]) (by simp [results, Try.results194, go_sem]) rfl ⟨by rw [E1.out, E2.out], (by repeat (first | with_reducible exact Below.refl _ _ | with_reducible apply Below.drew | with_reducible refine below_drewN ?_ _ | (with_reducible refine Below.setCell ?_ ?_ _; rotate_left; focus (first | omega | (simp <;> omega))) | (with_reducible refine Below.alloc ?_ ?_ _; rotate_left; focus (first | omega | (simp <;> omega)))))⟩
  · obtain ⟨e1, e2⟩ := HF2.out h
    have E1 := Lib.hid e1
    have E2 := Lib.hid e2
    clear e1 e2 HF1 HF2
    go_enter Try.func194, Try.ntmps194
    go_wp2_with fail
    go_quiet (fail)
    go_wp2_with fail
    refine bodyPost_ret (v := .tuple #[.int .i64 q, .int .i64 m]) (by simp [results, Try.results194, go_sem]) rfl ⟨by rw [E1.out, E2.out], (by repeat (first | with_reducible exact Below.refl _ _ | with_reducible apply Below.drew | with_reducible refine below_drewN ?_ _ | (with_reducible refine Below.setCell ?_ ?_ _; rotate_left; focus (first | omega | (simp <;> omega))) | (with_reducible refine Below.alloc ?_ ?_ _; rotate_left; focus (first | omega | (simp <;> omega)))))⟩

theorem quot_big (p den : Int) (w : World) (hb : 0 < den) (hb2 : den ≤ 16777216) (p3 : -1099511627776 ≤ p) (p4 : p ≤ 1099511627776) :
    Calls Try.prog 92 #[.int .i64 p, .int .i64 1, .int .i64 den] w fun e w' => e = .returned (.tuple #[.int .i64 (p / den), .int .i64 (p % den)]) ∧ Below w.heap.size w w' := by
  obtain ⟨f1, f2⟩ := tdiv_floor p den hb
  have h1 := Int.mul_ediv_add_emod p den
  have h2 := Int.tmod_lt_of_pos p hb
  have h3 := Int.lt_tmod_of_pos p hb
  have h4 := Int.natAbs_tdiv_le_natAbs p den
  have n0 : den ≠ 0 := by omega
  obtain ⟨s1, s2⟩ := ediv_small p den 1099511627776 hb p3 p4 (by omega)
  have m1 := Int.emod_nonneg p n0
  have m2 := Int.emod_lt_of_pos p hb
  have g1 : -1099511627776 ≤ p.tdiv den := by omega
  have g2 : p.tdiv den ≤ 1099511627776 := by omega
  have h1' : p - p / den * den = p % den := by rw [Int.mul_comm (p / den)]; omega
  have E3 := Lib.hid h1'
  have HF1 := Lib.hid f1
  have HF2 := Lib.hid f2
  have p5 : -1099528404992 ≤ p / den * den := by omega
  have p6 : p / den * den ≤ 1099511627776 := by omega
  have o1 : p * 1 = p := Int.mul_one p
  clear f1 f2 h4 h1 h1'
  generalize hq : p.tdiv den = q at *
  generalize hm : p.tmod den = m at *
  by_cases h : m < 0
  · obtain ⟨e1, e2⟩ := HF1.out h
    rw [← E3.out, ← e1]
    rw [← e1] at p5 p6
    clear e2 HF1 HF2 e1 E3 s1 s2
    generalize hr : (q - 1) * den = r at *
    go_enter Try.func92, Try.ntmps92
    go_wp2_with fail
    refine bodyPost_ret (v := .tuple #[.int .i64 (q - 1), .int .i64 (p - r)]) (by simp [results, Try.results92, go_sem]) rfl ⟨rfl, (by repeat (first | with_reducible exact Below.refl _ _ | with_reducible apply Below.drew | with_reducible refine below_drewN ?_ _ | (with_reducible refine Below.setCell ?_ ?_ _; rotate_left; focus (first | omega | (simp <;> omega))) | (with_reducible refine Below.alloc ?_ ?_ _; rotate_left; focus (first | omega | (simp <;> omega)))))⟩
  · obtain ⟨e1, e2⟩ := HF2.out h
    rw [← E3.out, ← e1]
    rw [← e1] at p5 p6
    clear e2 HF1 HF2 e1 E3 s1 s2
    generalize hr : q * den = r at *
    go_enter Try.func92, Try.ntmps92
    go_wp2_with fail
    refine bodyPost_ret (v := .tuple #[.int .i64 q, .int .i64 (p - r)]) (by simp [results, Try.results92, go_sem]) rfl ⟨rfl, (by repeat (first | with_reducible exact Below.refl _ _ | with_reducible apply Below.drew | with_reducible refine below_drewN ?_ _ | (with_reducible refine Below.setCell ?_ ?_ _; rotate_left; focus (first | omega | (simp <;> omega))) | (with_reducible refine Below.alloc ?_ ?_ _; rotate_left; focus (first | omega | (simp <;> omega)))))⟩

/-- a right fold at a place -/
structure FoldAt (A B P x y : Int) : Prop where
  a : -1000 ≤ A ∧ A ≤ 1000
  b : -1000 ≤ B ∧ B ≤ 1000
  p : 2 ≤ P ∧ P ≤ 16777216
  x : -8388608 ≤ x ∧ x ≤ 8388608
  y : -8388608 ≤ y ∧ y ≤ 8388608
def foldK (A B P x y : Int) : Int := (A * x + B * y) % P
theorem FoldAt.ok {A B P x y : Int} (h : FoldAt A B P x y) : FoldOk (foldK A B P x y) P := by
  have p := h.p
  exact fold_ok (Int.emod_nonneg _ (by omega)) (Int.emod_lt_of_pos _ (by omega)) p.2

set_option maxRecDepth 100000 in
set_option maxHeartbeats 1000000 in
theorem lift_any (A B P : Int) (H : Nat) (x y : Int) (w : World) (h : FoldAt A B P x y) (hH : Bd 20 H) :
    Calls Try.prog 145 #[foldV A B P H, .int .i64 x, .int .i64 y] w fun e w' => e = .returned (.float .f32 (liftF H (foldK A B P x y) P)) ∧ Below w.heap.size w w' := by
  have p := h.p
  obtain ⟨a1, a2⟩ := mul_bd h.a h.x
  obtain ⟨b1, b2⟩ := mul_bd h.b h.y
  have hk := h.ok
  have hh := h
  have k0 : 0 ≤ foldK A B P x y := Int.emod_nonneg _ (by omega)
  have k1 : foldK A B P x y < 16777216 := by have := Int.emod_lt_of_pos (A * x + B * y) (show 0 < P by omega); unfold foldK; omega
  have KL := Lib.hid (fun w => lattice_any (A * x + B * y) P w (by omega) p.2 (by omega) (by omega))
  change Hid (∀ w, Calls Try.prog 194 #[.int .i64 (A * x + B * y), .int .i64 P] w fun e w' => e = .returned (.tuple #[.int .i64 ((A * x + B * y) / P), .int .i64 (foldK A B P x y)]) ∧ Below w.heap.size w w') at KL
  have hl := (lift_bd hH hk).1
  have hu := hk.share
  generalize foldK A B P x y = k at *
  generalize hax : A * x = ax at *
  generalize hby : B * y = bi at *
  generalize (ax + bi) / P = kq at *
  have k2 := fun w' => run_float_arith (P := Try.prog) w' .mul 37 .f32 (cv k) 1073741824 (foldY k) (Ieee.Format.bits_mul hk.a Ieee.Format.const_2.1)
  have k3 := fun w' => run_float_arith (P := Try.prog) w' .quo 37 .f32 (foldY k) (cv P) (foldT k P) (Ieee.Format.bits_div hk.b hk.c hk.d)
  have k5 := fun w' => run_float_arith (P := Try.prog) w' .mul 37 .f32 H (easeF (foldU k P)) (liftF H k P) (Ieee.Format.bits_mul hH.1 hl)
  have ht := hk.t
  have hs := hk.s
  unfold foldU at *
  cases hc : le1 (foldT k P) with
  | true =>
    rw [hc] at k5
    rw [if_pos rfl] at k5
    have hu := hk.u hc
    have KE := Lib.hid (fun w => shapeease_any (foldT k P) (Ieee.Format.divF_lt _ _) hu w)
    change (FloatKind.f32.format.order (foldT k P) 1065353216 == some .lt || FloatKind.f32.format.order (foldT k P) 1065353216 == some .eq) = true at hc
    clear h hh hu hl hk ht hs
    generalize liftF H k P = z at *
    generalize easeF (foldT k P) = z4 at *
    generalize foldT k P = z3 at *
    generalize foldY k = z2 at *
    generalize hz0 : cv k = z0 at *
    generalize hzr : cv P = zr at *
    change floatOfInt .f32 k = z0 at hz0
    change floatOfInt .f32 P = zr at hzr
    go_enter Try.func145, Try.ntmps145
    go_wp2_with fail
    generalize hW0 : w.alloc (.cells #[.int .i64 A, .int .i64 B, .int .i64 P, .float .f32 H] 74) = W0 at *
    have HK0 : Hid (Blk W0 w.heap.size #[.int .i64 A, .int .i64 B, .int .i64 P, .float .f32 H] 74) := by subst hW0; exact Blk.new _ _ _
    have HB0 : Hid (Below w.heap.size w W0) := Lib.hid (by subst hW0; exact (by repeat (first | with_reducible exact Below.refl _ _ | with_reducible apply Below.drew | with_reducible refine below_drewN ?_ _ | (with_reducible refine Below.setCell ?_ ?_ _; rotate_left; focus (first | omega | (simp <;> omega))) | (with_reducible refine Below.alloc ?_ ?_ _; rotate_left; focus (first | omega | (simp <;> omega))))))
    clear hW0
    refine (KL.out _).mono ?_
    rintro e w1 ⟨rfl, b1⟩
    have HK1 := Lib.hid (HK0.out.below b1 HK0.out.lt)
    have HB1 := Lib.hid (HB0.out.trans (b1.mono HB0.out.size))
    clear b1 HK0 HB0
    have t2 : w1.cell? ⟨w.heap.size, 2, none⟩ = some (.int .i64 P) := HK1.out.cell 2
    have t3 : w1.cell? ⟨w.heap.size, 3, none⟩ = some (.float .f32 H) := HK1.out.cell 3
    have l0 : w.heap.size < w1.heap.size := HK1.out.lt
    go_wp2_with fail
    go_region_held3 (fun w' => w'.cell? ⟨w.heap.size, 3, none⟩ = some (.float .f32 H) ∧ Below w1.heap.size w1 w')
      (first
        | exact ⟨t3, (Below.refl _ _).drew⟩
        | (go_split_ands
           have hs := hb.size
           have hs2 := (show Below w1.heap.size w1 _ by assumption).size
           refine ⟨?_, ?_⟩
           all_goals first
             | (rw [hb.cell (by simp; omega)]; assumption)
             | exact Below.trans (by assumption) (hb.mono (by omega)))
        | (go_split_ands; refine ⟨?_, ?_⟩ <;> assumption))
      (first | (go_at_call 212; go_split_ands; refine (KE.out _).mono ?_; rintro e2 w2 ⟨rfl, hb⟩))
    rename_i hHeld
    have hB := HB1.out.trans (hHeld.2.mono HB1.out.size)
    clear hHeld
    go_wp2_with fail
    go_ret
    exact ⟨rfl, (by have hszz := hB.size; repeat (first | with_reducible exact hB | with_reducible apply Below.drew | with_reducible refine below_drewN ?_ _ | (with_reducible refine Below.setCell ?_ ?_ _; rotate_left; focus (first | omega | (simp <;> omega))) | (with_reducible refine Below.alloc ?_ ?_ _; rotate_left; focus (first | omega | (simp <;> omega)))))⟩
  | false =>
    rw [hc] at k5
    rw [if_neg (by decide)] at k5
    have hu := hk.s hc
    have k4 := fun w' => run_float_arith (P := Try.prog) w' .sub 37 .f32 1073741824 (foldT k P) (foldS k P) (Ieee.Format.bits_sub Ieee.Format.const_2.1 ht)
    have KE := Lib.hid (fun w => shapeease_any (foldS k P) (Ieee.Format.subF_lt _ _) hu w)
    change (FloatKind.f32.format.order (foldT k P) 1065353216 == some .lt || FloatKind.f32.format.order (foldT k P) 1065353216 == some .eq) = false at hc
    clear h hh hu hl hk ht hs
    generalize liftF H k P = z at *
    generalize easeF (foldS k P) = z5 at *
    generalize foldS k P = z4 at *
    generalize foldT k P = z3 at *
    generalize foldY k = z2 at *
    generalize hz0 : cv k = z0 at *
    generalize hzr : cv P = zr at *
    change floatOfInt .f32 k = z0 at hz0
    change floatOfInt .f32 P = zr at hzr
    go_enter Try.func145, Try.ntmps145
    go_wp2_with fail
    generalize hW0 : w.alloc (.cells #[.int .i64 A, .int .i64 B, .int .i64 P, .float .f32 H] 74) = W0 at *
    have HK0 : Hid (Blk W0 w.heap.size #[.int .i64 A, .int .i64 B, .int .i64 P, .float .f32 H] 74) := by subst hW0; exact Blk.new _ _ _
    have HB0 : Hid (Below w.heap.size w W0) := Lib.hid (by subst hW0; exact (by repeat (first | with_reducible exact Below.refl _ _ | with_reducible apply Below.drew | with_reducible refine below_drewN ?_ _ | (with_reducible refine Below.setCell ?_ ?_ _; rotate_left; focus (first | omega | (simp <;> omega))) | (with_reducible refine Below.alloc ?_ ?_ _; rotate_left; focus (first | omega | (simp <;> omega))))))
    clear hW0
    refine (KL.out _).mono ?_
    rintro e w1 ⟨rfl, b1⟩
    have HK1 := Lib.hid (HK0.out.below b1 HK0.out.lt)
    have HB1 := Lib.hid (HB0.out.trans (b1.mono HB0.out.size))
    clear b1 HK0 HB0
    have t2 : w1.cell? ⟨w.heap.size, 2, none⟩ = some (.int .i64 P) := HK1.out.cell 2
    have t3 : w1.cell? ⟨w.heap.size, 3, none⟩ = some (.float .f32 H) := HK1.out.cell 3
    have l0 : w.heap.size < w1.heap.size := HK1.out.lt
    go_wp2_with fail
    go_region_held3 (fun w' => w'.cell? ⟨w.heap.size, 3, none⟩ = some (.float .f32 H) ∧ Below w1.heap.size w1 w')
      (first
        | exact ⟨t3, (Below.refl _ _).drew⟩
        | (go_split_ands
           have hs := hb.size
           have hs2 := (show Below w1.heap.size w1 _ by assumption).size
           refine ⟨?_, ?_⟩
           all_goals first
             | (rw [hb.cell (by simp; omega)]; assumption)
             | exact Below.trans (by assumption) (hb.mono (by omega)))
        | (go_split_ands; refine ⟨?_, ?_⟩ <;> assumption))
      (first | (go_at_call 212; go_split_ands; refine (KE.out _).mono ?_; rintro e2 w2 ⟨rfl, hb⟩))
    rename_i hHeld
    have hB := HB1.out.trans (hHeld.2.mono HB1.out.size)
    clear hHeld
    go_wp2_with fail
    go_ret
    exact ⟨rfl, (by have hszz := hB.size; repeat (first | with_reducible exact hB | with_reducible apply Below.drew | with_reducible refine below_drewN ?_ _ | (with_reducible refine Below.setCell ?_ ?_ _; rotate_left; focus (first | omega | (simp <;> omega))) | (with_reducible refine Below.alloc ?_ ?_ _; rotate_left; focus (first | omega | (simp <;> omega)))))⟩

set_option maxRecDepth 100000 in
set_option maxHeartbeats 1000000 in
theorem reflift_any (A B P : Int) (H : Nat) (x y : Int) (w : World) (h : FoldAt A B P x y) (hH : Bd 20 H) :
    Calls Try.prog 147 #[foldV A B P H, .int .i64 x, .int .i64 y] w fun e w' => e = .returned (.float .f32 (liftF H (foldK A B P x y) P)) ∧ Below w.heap.size w w' := by
  have p := h.p
  obtain ⟨a1, a2⟩ := mul_bd h.a h.x
  obtain ⟨b1, b2⟩ := mul_bd h.b h.y
  have hk := h.ok
  have hh := h
  have k0 : 0 ≤ foldK A B P x y := Int.emod_nonneg _ (by omega)
  have k1 : foldK A B P x y < 16777216 := by have := Int.emod_lt_of_pos (A * x + B * y) (show 0 < P by omega); unfold foldK; omega
  have KL := Lib.hid (fun w => quot_big (A * x + B * y) P w (by omega) p.2 (by omega) (by omega))
  change Hid (∀ w, Calls Try.prog 92 #[.int .i64 (A * x + B * y), .int .i64 1, .int .i64 P] w fun e w' => e = .returned (.tuple #[.int .i64 ((A * x + B * y) / P), .int .i64 (foldK A B P x y)]) ∧ Below w.heap.size w w') at KL
  have hl := lift_bd hH hk
  have hu := hk.share
  generalize foldK A B P x y = k at *
  generalize hax : A * x = ax at *
  generalize hby : B * y = bi at *
  generalize (ax + bi) / P = kq at *
  have kx := Lib.hid (fun w => ref_conv_ok k w)
  have ky := Lib.hid (fun w => ref_conv_ok P w)
  have k2 := Lib.hid (fun w => ref_mul_ok (cv k) 1073741824 w hk.a Ieee.Format.const_2.1 hk.b)
  have k3 := Lib.hid (fun w => ref_div_ok (foldY k) (cv P) w hk.b hk.c hk.d hk.t)
  have k5 := Lib.hid (fun w => ref_mul_ok H (easeF (foldU k P)) w hH.1 hl.1 hl.2.1)
  change Hid (∀ w, Calls Try.prog 140 #[.int .i64 k] w fun en w2 => en = .returned (.float .f32 (cv k)) ∧ w = w2) at kx
  change Hid (∀ w, Calls Try.prog 140 #[.int .i64 P] w fun en w2 => en = .returned (.float .f32 (cv P)) ∧ w = w2) at ky
  change Hid (∀ w, Calls Try.prog 136 #[.float .f32 (cv k), .float .f32 1073741824] w fun en w2 => en = .returned (.float .f32 (foldY k)) ∧ w = w2) at k2
  change Hid (∀ w, Calls Try.prog 139 #[.float .f32 (foldY k), .float .f32 (cv P)] w fun en w2 => en = .returned (.float .f32 (foldT k P)) ∧ w = w2) at k3
  change Hid (∀ w, Calls Try.prog 136 #[.float .f32 H, .float .f32 (easeF (foldU k P))] w fun en w2 => en = .returned (.float .f32 (liftF H k P)) ∧ w = w2) at k5
  have ht := hk.t
  have hs := hk.s
  have hg := le1_gtr ht
  unfold foldU at *
  cases hc : le1 (foldT k P) with
  | true =>
    rw [hc] at k5 hg
    rw [if_pos rfl] at k5
    have hu := hk.u hc
    have KE := Lib.hid (fun w => refease_any (foldT k P) hu w)
    change (FloatKind.f32.format.order (foldT k P) 1065353216 == some .gt) = false at hg
    clear h hh hu hl hk ht hs hc
    generalize liftF H k P = z at *
    generalize easeF (foldT k P) = z4 at *
    generalize foldT k P = z3 at *
    generalize foldY k = z2 at *
    generalize cv k = z0 at *
    generalize cv P = zr at *
    go_enter Try.func147, Try.ntmps147
    go_wp2_with fail
    generalize hW0 : w.alloc (.cells #[.int .i64 A, .int .i64 B, .int .i64 P, .float .f32 H] 74) = W0 at *
    have HK0 : Hid (Blk W0 w.heap.size #[.int .i64 A, .int .i64 B, .int .i64 P, .float .f32 H] 74) := by subst hW0; exact Blk.new _ _ _
    have HB0 : Hid (Below w.heap.size w W0) := Lib.hid (by subst hW0; exact (by repeat (first | with_reducible exact Below.refl _ _ | with_reducible apply Below.drew | with_reducible refine below_drewN ?_ _ | (with_reducible refine Below.setCell ?_ ?_ _; rotate_left; focus (first | omega | (simp <;> omega))) | (with_reducible refine Below.alloc ?_ ?_ _; rotate_left; focus (first | omega | (simp <;> omega))))))
    clear hW0
    refine (KL.out _).mono ?_
    rintro e w1 ⟨rfl, b1⟩
    have HK1 := Lib.hid (HK0.out.below b1 HK0.out.lt)
    have HB1 := Lib.hid (HB0.out.trans (b1.mono HB0.out.size))
    clear b1 HK0 HB0
    have t2 : w1.cell? ⟨w.heap.size, 2, none⟩ = some (.int .i64 P) := HK1.out.cell 2
    have t3 : w1.cell? ⟨w.heap.size, 3, none⟩ = some (.float .f32 H) := HK1.out.cell 3
    have l0 : w.heap.size < w1.heap.size := HK1.out.lt
    go_wp2_with fail
    go_quiet ((first
      | (go_at_call 140; first | with_reducible exact Calls.quiet_of_same ((kx.out _).mono fun _ _ h => ⟨h.1, h.2.symm⟩) | with_reducible exact Calls.quiet_of_same ((ky.out _).mono fun _ _ h => ⟨h.1, h.2.symm⟩))
      | (go_at_call 136; with_reducible exact Calls.quiet_of_same ((k2.out _).mono fun _ _ h => ⟨h.1, h.2.symm⟩))
      | (go_at_call 139; with_reducible exact Calls.quiet_of_same ((k3.out _).mono fun _ _ h => ⟨h.1, h.2.symm⟩))))
    clear t2 t3 l0
    generalize hW2 : w1.drewN nq = W2 at *
    have HK2 : Hid (Blk W2 w.heap.size #[.int .i64 A, .int .i64 B, .int .i64 P, .float .f32 H] 74) := by subst hW2; exact HK1.out
    have HB2 : Hid (Below w.heap.size w W2) := Lib.hid (by subst hW2; have h := HB1.out; exact (by have hszz := h.size; repeat (first | with_reducible exact h | with_reducible apply Below.drew | with_reducible refine below_drewN ?_ _ | (with_reducible refine Below.setCell ?_ ?_ _; rotate_left; focus (first | omega | (simp <;> omega))) | (with_reducible refine Below.alloc ?_ ?_ _; rotate_left; focus (first | omega | (simp <;> omega))))))
    clear hW2 HK1 HB1
    have t3 : W2.cell? ⟨w.heap.size, 3, none⟩ = some (.float .f32 H) := HK2.out.cell 3
    have l0 : w.heap.size < W2.heap.size := HK2.out.lt
    go_wp2_with fail
    go_quiet ((first
      | (go_at_call 213; with_reducible exact Calls.quiet_of_same ((KE.out _).mono fun _ _ h => ⟨h.1, h.2.symm⟩))
      | (go_at_call 136; with_reducible exact Calls.quiet_of_same ((k5.out _).mono fun _ _ h => ⟨h.1, h.2.symm⟩))))
    go_wp2_with fail
    go_ret
    exact ⟨rfl, (by have h := HB2.out; exact (by have hszz := h.size; repeat (first | with_reducible exact h | with_reducible apply Below.drew | with_reducible refine below_drewN ?_ _ | (with_reducible refine Below.setCell ?_ ?_ _; rotate_left; focus (first | omega | (simp <;> omega))) | (with_reducible refine Below.alloc ?_ ?_ _; rotate_left; focus (first | omega | (simp <;> omega))))))⟩
  | false =>
    rw [hc] at k5 hg
    rw [if_neg (by decide)] at k5
    have hu := hk.s hc
    have k4 := Lib.hid (fun w => ref_sub_ok 1073741824 (foldT k P) w Ieee.Format.const_2.1 ht hu.1)
    change Hid (∀ w, Calls Try.prog 130 #[.float .f32 1073741824, .float .f32 (foldT k P)] w fun en w2 => en = .returned (.float .f32 (foldS k P)) ∧ w = w2) at k4
    have KE := Lib.hid (fun w => refease_any (foldS k P) hu w)
    change (FloatKind.f32.format.order (foldT k P) 1065353216 == some .gt) = true at hg
    clear h hh hu hl hk ht hs hc
    generalize liftF H k P = z at *
    generalize easeF (foldS k P) = z5 at *
    generalize foldS k P = z4 at *
    generalize foldT k P = z3 at *
    generalize foldY k = z2 at *
    generalize cv k = z0 at *
    generalize cv P = zr at *
    go_enter Try.func147, Try.ntmps147
    go_wp2_with fail
    generalize hW0 : w.alloc (.cells #[.int .i64 A, .int .i64 B, .int .i64 P, .float .f32 H] 74) = W0 at *
    have HK0 : Hid (Blk W0 w.heap.size #[.int .i64 A, .int .i64 B, .int .i64 P, .float .f32 H] 74) := by subst hW0; exact Blk.new _ _ _
    have HB0 : Hid (Below w.heap.size w W0) := Lib.hid (by subst hW0; exact (by repeat (first | with_reducible exact Below.refl _ _ | with_reducible apply Below.drew | with_reducible refine below_drewN ?_ _ | (with_reducible refine Below.setCell ?_ ?_ _; rotate_left; focus (first | omega | (simp <;> omega))) | (with_reducible refine Below.alloc ?_ ?_ _; rotate_left; focus (first | omega | (simp <;> omega))))))
    clear hW0
    refine (KL.out _).mono ?_
    rintro e w1 ⟨rfl, b1⟩
    have HK1 := Lib.hid (HK0.out.below b1 HK0.out.lt)
    have HB1 := Lib.hid (HB0.out.trans (b1.mono HB0.out.size))
    clear b1 HK0 HB0
    have t2 : w1.cell? ⟨w.heap.size, 2, none⟩ = some (.int .i64 P) := HK1.out.cell 2
    have t3 : w1.cell? ⟨w.heap.size, 3, none⟩ = some (.float .f32 H) := HK1.out.cell 3
    have l0 : w.heap.size < w1.heap.size := HK1.out.lt
    go_wp2_with fail
    go_quiet ((first
      | (go_at_call 140; first | with_reducible exact Calls.quiet_of_same ((kx.out _).mono fun _ _ h => ⟨h.1, h.2.symm⟩) | with_reducible exact Calls.quiet_of_same ((ky.out _).mono fun _ _ h => ⟨h.1, h.2.symm⟩))
      | (go_at_call 136; with_reducible exact Calls.quiet_of_same ((k2.out _).mono fun _ _ h => ⟨h.1, h.2.symm⟩))
      | (go_at_call 139; with_reducible exact Calls.quiet_of_same ((k3.out _).mono fun _ _ h => ⟨h.1, h.2.symm⟩))))
    clear t2 t3 l0
    generalize hW2 : w1.drewN nq = W2 at *
    have HK2 : Hid (Blk W2 w.heap.size #[.int .i64 A, .int .i64 B, .int .i64 P, .float .f32 H] 74) := by subst hW2; exact HK1.out
    have HB2 : Hid (Below w.heap.size w W2) := Lib.hid (by subst hW2; have h := HB1.out; exact (by have hszz := h.size; repeat (first | with_reducible exact h | with_reducible apply Below.drew | with_reducible refine below_drewN ?_ _ | (with_reducible refine Below.setCell ?_ ?_ _; rotate_left; focus (first | omega | (simp <;> omega))) | (with_reducible refine Below.alloc ?_ ?_ _; rotate_left; focus (first | omega | (simp <;> omega))))))
    clear hW2 HK1 HB1
    have t3 : W2.cell? ⟨w.heap.size, 3, none⟩ = some (.float .f32 H) := HK2.out.cell 3
    have l0 : w.heap.size < W2.heap.size := HK2.out.lt
    go_wp2_with fail
    refine (k4.out _).mono ?_
    rintro en wz ⟨rfl, rfl⟩
    go_wp2_with fail
    go_quiet ((first
      | (go_at_call 213; with_reducible exact Calls.quiet_of_same ((KE.out _).mono fun _ _ h => ⟨h.1, h.2.symm⟩))
      | (go_at_call 136; with_reducible exact Calls.quiet_of_same ((k5.out _).mono fun _ _ h => ⟨h.1, h.2.symm⟩))))
    go_wp2_with fail
    go_ret
    exact ⟨rfl, (by have h := HB2.out; exact (by have hszz := h.size; repeat (first | with_reducible exact h | with_reducible apply Below.drew | with_reducible refine below_drewN ?_ _ | (with_reducible refine Below.setCell ?_ ?_ _; rotate_left; focus (first | omega | (simp <;> omega))) | (with_reducible refine Below.alloc ?_ ?_ _; rotate_left; focus (first | omega | (simp <;> omega))))))⟩
end Go.Proofs.Ytnfebeebjelgbaa

namespace Go.Proofs.Ytnfebeebjelgbaa
open Go.ChangeShapes Go.WideShapes Go.ChangeAt Go.RowKit
open Ieee.Format (fin finE htE allFin allHt all_true all_false mulF subF addF Ht Bd divF rootF floorF easeF mixF)
set_option linter.unusedVariables false
open Ieee.Format (const_1 negF)

/-- a right fault at a place -/
structure FaultAt (A B C W x y : Int) : Prop where
  a : -1000 ≤ A ∧ A ≤ 1000
  b : -1000 ≤ B ∧ B ≤ 1000
  c : -1099511627776 ≤ C ∧ C ≤ 1099511627776
  w : 0 ≤ W ∧ W ≤ 4096
  n : A ≠ 0 ∨ B ≠ 0
  x : -8388608 ≤ x ∧ x ≤ 8388608
  y : -8388608 ≤ y ∧ y ≤ 8388608
def faultK (A B C x y : Int) : Int := A * x + B * y + C
def faultS (A B : Int) : Int := A * A + B * B
theorem sq_ab {A B : Int} (a : -1000 ≤ A ∧ A ≤ 1000) (b : -1000 ≤ B ∧ B ≤ 1000) (n : A ≠ 0 ∨ B ≠ 0) : (0 ≤ A * A ∧ A * A ≤ 1000000) ∧ (0 ≤ B * B ∧ B * B ≤ 1000000) ∧ 1 ≤ A * A + B * B := by
  have h1 := sq_int A 1000 a.1 a.2
  have h2 := sq_int B 1000 b.1 b.2
  refine ⟨by omega, by omega, ?_⟩
  rcases n with n | n
  · have := sq_pos n; omega
  · have := sq_pos n; omega
theorem FaultAt.ok {A B C W x y : Int} (h : FaultAt A B C W x y) : FltOk (faultK A B C x y) (faultS A B) W := by
  obtain ⟨a1, a2⟩ := mul_bd h.a h.x
  obtain ⟨b1, b2⟩ := mul_bd h.b h.y
  obtain ⟨s1, s2, s3⟩ := sq_ab h.a h.b h.n
  have c := h.c
  have w := h.w
  unfold faultK faultS
  exact flt_ok (by omega) (by omega) s3 (by omega) w.1 w.2

set_option maxRecDepth 100000 in
set_option maxHeartbeats 2000000 in
theorem throw_any (A B C W : Int) (T : Nat) (x y : Int) (w : World) (h : FaultAt A B C W x y) (hT : Bd 20 T) :
    Calls Try.prog 179 #[faultV A B C W T, .int .i64 x, .int .i64 y] w fun e w' => e = .returned (.float .f32 (throwF T (faultK A B C x y) (faultS A B) W)) ∧ Below w.heap.size w w' := by
  have w0 := h.w
  have c0 := h.c
  obtain ⟨a1, a2⟩ := mul_bd h.a h.x
  obtain ⟨b1, b2⟩ := mul_bd h.b h.y
  obtain ⟨s1, s2, s3⟩ := sq_ab h.a h.b h.n
  have hk := h.ok
  unfold faultK faultS at *
  clear h
  generalize hax : A * x = ax at *
  generalize hby : B * y = bi at *
  generalize hsa : A * A = sa at *
  generalize hsb : B * B = sb at *
  have k9 : -1099528404992 - 16777216000 ≤ ax + bi + C := by omega
  have k8 : ax + bi + C ≤ 1099528404992 + 16777216000 := by omega
  have KR := Lib.hid (fun w => root_any (cv (sa + sb)) hk.b hk.b0 w)
  have k1 := fun w' => run_float_arith (P := Try.prog) w' .quo 37 .f32 (cv (ax + bi + C)) (rootF (cv (sa + sb))) (fltD (ax + bi + C) (sa + sb)) (Ieee.Format.bits_div hk.a hk.c hk.c0)
  by_cases hW : W = 0
  · subst hW
    have n1 := fun w' => run_neg Try.prog (cv 0) w'
    by_cases hkn : 0 ≤ ax + bi + C
    · have e : throwF T (ax + bi + C) (sa + sb) 0 = T := by
        unfold throwF fltUp
        rw [if_pos rfl, decide_eq_true hkn, if_pos rfl]
      rw [e]
      have g := hk.z rfl hkn
      change (FloatKind.f32.format.order (fltD (ax + bi + C) (sa + sb)) (cv 0) == some .gt || FloatKind.f32.format.order (fltD (ax + bi + C) (sa + sb)) (cv 0) == some .eq) = true at g
      generalize negF (cv 0) = zn at *
      clear hk hT
      generalize fltD (ax + bi + C) (sa + sb) = zd at *
      generalize rootF (cv (sa + sb)) = zr at *
      generalize hzk : cv (ax + bi + C) = zk at *
      generalize hzs : cv (sa + sb) = zs at *
      change floatOfInt .f32 (ax + bi + C) = zk at hzk
      change floatOfInt .f32 (sa + sb) = zs at hzs
      generalize hzw : cv 0 = zw at *
      change floatOfInt .f32 0 = zw at hzw
      go_enter Try.func179, Try.ntmps179
      go_wp2_with fail
      generalize hW0 : w.alloc (.cells #[.int .i64 A, .int .i64 B, .int .i64 C, .int .i64 0, .float .f32 T] 95) = W0 at *
      have HK0 : Hid (Blk W0 w.heap.size #[.int .i64 A, .int .i64 B, .int .i64 C, .int .i64 0, .float .f32 T] 95) := by subst hW0; exact Blk.new _ _ _
      have HB0 : Hid (Below w.heap.size w W0) := Lib.hid (by subst hW0; exact (by repeat (first | with_reducible exact Below.refl _ _ | with_reducible apply Below.drew | with_reducible refine below_drewN ?_ _ | (with_reducible refine Below.setCell ?_ ?_ _; rotate_left; focus (first | omega | (simp <;> omega))) | (with_reducible refine Below.alloc ?_ ?_ _; rotate_left; focus (first | omega | (simp <;> omega))))))
      clear hW0
      have t3 : W0.cell? ⟨w.heap.size, 3, none⟩ = some (.int .i64 0) := HK0.out.cell 3
      have t0 : W0.cell? ⟨w.heap.size, 0, none⟩ = some (.int .i64 A) := HK0.out.cell 0
      have t1 : W0.cell? ⟨w.heap.size, 1, none⟩ = some (.int .i64 B) := HK0.out.cell 1
      have t2 : W0.cell? ⟨w.heap.size, 2, none⟩ = some (.int .i64 C) := HK0.out.cell 2
      have t4 : W0.cell? ⟨w.heap.size, 4, none⟩ = some (.float .f32 T) := HK0.out.cell 4
      have l0 : w.heap.size < W0.heap.size := HK0.out.lt
      refine (KR.out _).mono ?_
      rintro e w1 ⟨rfl, rfl⟩
      go_wp2_with fail
      go_ret
      exact ⟨rfl, (by have h := HB0.out; exact (by have hszz := h.size; repeat (first | with_reducible exact h | with_reducible apply Below.drew | with_reducible refine below_drewN ?_ _ | (with_reducible refine Below.setCell ?_ ?_ _; rotate_left; focus (first | omega | (simp <;> omega))) | (with_reducible refine Below.alloc ?_ ?_ _; rotate_left; focus (first | omega | (simp <;> omega))))))⟩
    · have g := hk.n rfl (by omega)
      have e : throwF T (ax + bi + C) (sa + sb) 0 = 0 := by
        unfold throwF fltUp fltLo
        rw [if_pos rfl, decide_eq_false hkn, if_neg (by decide), g, if_pos rfl]
      rw [e]
      change (FloatKind.f32.format.order (fltD (ax + bi + C) (sa + sb)) (negF (cv 0)) == some .lt || FloatKind.f32.format.order (fltD (ax + bi + C) (sa + sb)) (negF (cv 0)) == some .eq) = true at g
      have hkm : ax + bi + C < 0 := by omega
      clear hkn
      generalize negF (cv 0) = zn at *
      cases g2 : geB (fltD (ax + bi + C) (sa + sb)) (cv 0) with
      | true =>
        change (FloatKind.f32.format.order (fltD (ax + bi + C) (sa + sb)) (cv 0) == some .gt || FloatKind.f32.format.order (fltD (ax + bi + C) (sa + sb)) (cv 0) == some .eq) = true at g2
        clear hk hT
        generalize fltD (ax + bi + C) (sa + sb) = zd at *
        generalize rootF (cv (sa + sb)) = zr at *
        generalize hzk : cv (ax + bi + C) = zk at *
        generalize hzs : cv (sa + sb) = zs at *
        change floatOfInt .f32 (ax + bi + C) = zk at hzk
        change floatOfInt .f32 (sa + sb) = zs at hzs
        generalize hzw : cv 0 = zw at *
        change floatOfInt .f32 0 = zw at hzw
        go_enter Try.func179, Try.ntmps179
        go_wp2_with fail
        generalize hW0 : w.alloc (.cells #[.int .i64 A, .int .i64 B, .int .i64 C, .int .i64 0, .float .f32 T] 95) = W0 at *
        have HK0 : Hid (Blk W0 w.heap.size #[.int .i64 A, .int .i64 B, .int .i64 C, .int .i64 0, .float .f32 T] 95) := by subst hW0; exact Blk.new _ _ _
        have HB0 : Hid (Below w.heap.size w W0) := Lib.hid (by subst hW0; exact (by repeat (first | with_reducible exact Below.refl _ _ | with_reducible apply Below.drew | with_reducible refine below_drewN ?_ _ | (with_reducible refine Below.setCell ?_ ?_ _; rotate_left; focus (first | omega | (simp <;> omega))) | (with_reducible refine Below.alloc ?_ ?_ _; rotate_left; focus (first | omega | (simp <;> omega))))))
        clear hW0
        have t3 : W0.cell? ⟨w.heap.size, 3, none⟩ = some (.int .i64 0) := HK0.out.cell 3
        have t0 : W0.cell? ⟨w.heap.size, 0, none⟩ = some (.int .i64 A) := HK0.out.cell 0
        have t1 : W0.cell? ⟨w.heap.size, 1, none⟩ = some (.int .i64 B) := HK0.out.cell 1
        have t2 : W0.cell? ⟨w.heap.size, 2, none⟩ = some (.int .i64 C) := HK0.out.cell 2
        have t4 : W0.cell? ⟨w.heap.size, 4, none⟩ = some (.float .f32 T) := HK0.out.cell 4
        have l0 : w.heap.size < W0.heap.size := HK0.out.lt
        refine (KR.out _).mono ?_
        rintro e w1 ⟨rfl, rfl⟩
        go_wp2_with fail
        go_ret
        exact ⟨rfl, (by have h := HB0.out; exact (by have hszz := h.size; repeat (first | with_reducible exact h | with_reducible apply Below.drew | with_reducible refine below_drewN ?_ _ | (with_reducible refine Below.setCell ?_ ?_ _; rotate_left; focus (first | omega | (simp <;> omega))) | (with_reducible refine Below.alloc ?_ ?_ _; rotate_left; focus (first | omega | (simp <;> omega))))))⟩
      | false =>
        change (FloatKind.f32.format.order (fltD (ax + bi + C) (sa + sb)) (cv 0) == some .gt || FloatKind.f32.format.order (fltD (ax + bi + C) (sa + sb)) (cv 0) == some .eq) = false at g2
        clear hk hT
        generalize fltD (ax + bi + C) (sa + sb) = zd at *
        generalize rootF (cv (sa + sb)) = zr at *
        generalize hzk : cv (ax + bi + C) = zk at *
        generalize hzs : cv (sa + sb) = zs at *
        change floatOfInt .f32 (ax + bi + C) = zk at hzk
        change floatOfInt .f32 (sa + sb) = zs at hzs
        generalize hzw : cv 0 = zw at *
        change floatOfInt .f32 0 = zw at hzw
        go_enter Try.func179, Try.ntmps179
        go_wp2_with fail
        generalize hW0 : w.alloc (.cells #[.int .i64 A, .int .i64 B, .int .i64 C, .int .i64 0, .float .f32 T] 95) = W0 at *
        have HK0 : Hid (Blk W0 w.heap.size #[.int .i64 A, .int .i64 B, .int .i64 C, .int .i64 0, .float .f32 T] 95) := by subst hW0; exact Blk.new _ _ _
        have HB0 : Hid (Below w.heap.size w W0) := Lib.hid (by subst hW0; exact (by repeat (first | with_reducible exact Below.refl _ _ | with_reducible apply Below.drew | with_reducible refine below_drewN ?_ _ | (with_reducible refine Below.setCell ?_ ?_ _; rotate_left; focus (first | omega | (simp <;> omega))) | (with_reducible refine Below.alloc ?_ ?_ _; rotate_left; focus (first | omega | (simp <;> omega))))))
        clear hW0
        have t3 : W0.cell? ⟨w.heap.size, 3, none⟩ = some (.int .i64 0) := HK0.out.cell 3
        have t0 : W0.cell? ⟨w.heap.size, 0, none⟩ = some (.int .i64 A) := HK0.out.cell 0
        have t1 : W0.cell? ⟨w.heap.size, 1, none⟩ = some (.int .i64 B) := HK0.out.cell 1
        have t2 : W0.cell? ⟨w.heap.size, 2, none⟩ = some (.int .i64 C) := HK0.out.cell 2
        have t4 : W0.cell? ⟨w.heap.size, 4, none⟩ = some (.float .f32 T) := HK0.out.cell 4
        have l0 : w.heap.size < W0.heap.size := HK0.out.lt
        refine (KR.out _).mono ?_
        rintro e w1 ⟨rfl, rfl⟩
        go_wp2_with fail
        go_ret
        exact ⟨rfl, (by have h := HB0.out; exact (by have hszz := h.size; repeat (first | with_reducible exact h | with_reducible apply Below.drew | with_reducible refine below_drewN ?_ _ | (with_reducible refine Below.setCell ?_ ?_ _; rotate_left; focus (first | omega | (simp <;> omega))) | (with_reducible refine Below.alloc ?_ ?_ _; rotate_left; focus (first | omega | (simp <;> omega))))))⟩
  · have n1 := fun w' => run_neg Try.prog (cv W) w'
    have hWp : 0 < W := by omega
    cases g : geB (fltD (ax + bi + C) (sa + sb)) (cv W) with
    | true =>
      have e : throwF T (ax + bi + C) (sa + sb) W = T := by
        unfold throwF fltUp
        rw [if_neg hW, g, if_pos rfl]
      rw [e]
      change (FloatKind.f32.format.order (fltD (ax + bi + C) (sa + sb)) (cv W) == some .gt || FloatKind.f32.format.order (fltD (ax + bi + C) (sa + sb)) (cv W) == some .eq) = true at g
      clear hW
      generalize negF (cv W) = zn at *
      clear hk hT
      generalize fltD (ax + bi + C) (sa + sb) = zd at *
      generalize rootF (cv (sa + sb)) = zr at *
      generalize hzk : cv (ax + bi + C) = zk at *
      generalize hzs : cv (sa + sb) = zs at *
      change floatOfInt .f32 (ax + bi + C) = zk at hzk
      change floatOfInt .f32 (sa + sb) = zs at hzs
      generalize hzw : cv W = zw at *
      change floatOfInt .f32 W = zw at hzw
      go_enter Try.func179, Try.ntmps179
      go_wp2_with fail
      generalize hW0 : w.alloc (.cells #[.int .i64 A, .int .i64 B, .int .i64 C, .int .i64 W, .float .f32 T] 95) = W0 at *
      have HK0 : Hid (Blk W0 w.heap.size #[.int .i64 A, .int .i64 B, .int .i64 C, .int .i64 W, .float .f32 T] 95) := by subst hW0; exact Blk.new _ _ _
      have HB0 : Hid (Below w.heap.size w W0) := Lib.hid (by subst hW0; exact (by repeat (first | with_reducible exact Below.refl _ _ | with_reducible apply Below.drew | with_reducible refine below_drewN ?_ _ | (with_reducible refine Below.setCell ?_ ?_ _; rotate_left; focus (first | omega | (simp <;> omega))) | (with_reducible refine Below.alloc ?_ ?_ _; rotate_left; focus (first | omega | (simp <;> omega))))))
      clear hW0
      have t3 : W0.cell? ⟨w.heap.size, 3, none⟩ = some (.int .i64 W) := HK0.out.cell 3
      have t0 : W0.cell? ⟨w.heap.size, 0, none⟩ = some (.int .i64 A) := HK0.out.cell 0
      have t1 : W0.cell? ⟨w.heap.size, 1, none⟩ = some (.int .i64 B) := HK0.out.cell 1
      have t2 : W0.cell? ⟨w.heap.size, 2, none⟩ = some (.int .i64 C) := HK0.out.cell 2
      have t4 : W0.cell? ⟨w.heap.size, 4, none⟩ = some (.float .f32 T) := HK0.out.cell 4
      have l0 : w.heap.size < W0.heap.size := HK0.out.lt
      refine (KR.out _).mono ?_
      rintro e w1 ⟨rfl, rfl⟩
      go_wp2_with fail
      go_ret
      exact ⟨rfl, (by have h := HB0.out; exact (by have hszz := h.size; repeat (first | with_reducible exact h | with_reducible apply Below.drew | with_reducible refine below_drewN ?_ _ | (with_reducible refine Below.setCell ?_ ?_ _; rotate_left; focus (first | omega | (simp <;> omega))) | (with_reducible refine Below.alloc ?_ ?_ _; rotate_left; focus (first | omega | (simp <;> omega))))))⟩
    | false =>
      have eu : fltUp (ax + bi + C) (sa + sb) W = false := by unfold fltUp; rw [if_neg hW, g]
      cases g2 : leB (fltD (ax + bi + C) (sa + sb)) (negF (cv W)) with
      | true =>
        have e : throwF T (ax + bi + C) (sa + sb) W = 0 := by
          unfold throwF fltLo
          rw [eu, if_neg (by decide), g2, if_pos rfl]
        rw [e]
        change (FloatKind.f32.format.order (fltD (ax + bi + C) (sa + sb)) (cv W) == some .gt || FloatKind.f32.format.order (fltD (ax + bi + C) (sa + sb)) (cv W) == some .eq) = false at g
        change (FloatKind.f32.format.order (fltD (ax + bi + C) (sa + sb)) (negF (cv W)) == some .lt || FloatKind.f32.format.order (fltD (ax + bi + C) (sa + sb)) (negF (cv W)) == some .eq) = true at g2
        clear hW eu
        generalize negF (cv W) = zn at *
        clear hk hT
        generalize fltD (ax + bi + C) (sa + sb) = zd at *
        generalize rootF (cv (sa + sb)) = zr at *
        generalize hzk : cv (ax + bi + C) = zk at *
        generalize hzs : cv (sa + sb) = zs at *
        change floatOfInt .f32 (ax + bi + C) = zk at hzk
        change floatOfInt .f32 (sa + sb) = zs at hzs
        generalize hzw : cv W = zw at *
        change floatOfInt .f32 W = zw at hzw
        go_enter Try.func179, Try.ntmps179
        go_wp2_with fail
        generalize hW0 : w.alloc (.cells #[.int .i64 A, .int .i64 B, .int .i64 C, .int .i64 W, .float .f32 T] 95) = W0 at *
        have HK0 : Hid (Blk W0 w.heap.size #[.int .i64 A, .int .i64 B, .int .i64 C, .int .i64 W, .float .f32 T] 95) := by subst hW0; exact Blk.new _ _ _
        have HB0 : Hid (Below w.heap.size w W0) := Lib.hid (by subst hW0; exact (by repeat (first | with_reducible exact Below.refl _ _ | with_reducible apply Below.drew | with_reducible refine below_drewN ?_ _ | (with_reducible refine Below.setCell ?_ ?_ _; rotate_left; focus (first | omega | (simp <;> omega))) | (with_reducible refine Below.alloc ?_ ?_ _; rotate_left; focus (first | omega | (simp <;> omega))))))
        clear hW0
        have t3 : W0.cell? ⟨w.heap.size, 3, none⟩ = some (.int .i64 W) := HK0.out.cell 3
        have t0 : W0.cell? ⟨w.heap.size, 0, none⟩ = some (.int .i64 A) := HK0.out.cell 0
        have t1 : W0.cell? ⟨w.heap.size, 1, none⟩ = some (.int .i64 B) := HK0.out.cell 1
        have t2 : W0.cell? ⟨w.heap.size, 2, none⟩ = some (.int .i64 C) := HK0.out.cell 2
        have t4 : W0.cell? ⟨w.heap.size, 4, none⟩ = some (.float .f32 T) := HK0.out.cell 4
        have l0 : w.heap.size < W0.heap.size := HK0.out.lt
        refine (KR.out _).mono ?_
        rintro e w1 ⟨rfl, rfl⟩
        go_wp2_with fail
        go_ret
        exact ⟨rfl, (by have h := HB0.out; exact (by have hszz := h.size; repeat (first | with_reducible exact h | with_reducible apply Below.drew | with_reducible refine below_drewN ?_ _ | (with_reducible refine Below.setCell ?_ ?_ _; rotate_left; focus (first | omega | (simp <;> omega))) | (with_reducible refine Below.alloc ?_ ?_ _; rotate_left; focus (first | omega | (simp <;> omega))))))⟩
      | false =>
        obtain ⟨f1, f2, f3, f4⟩ := hk.e eu (by unfold fltLo; exact g2)
        have e : throwF T (ax + bi + C) (sa + sb) W = mulF T (easeF (fltT (ax + bi + C) (sa + sb) W)) := by
          unfold throwF fltLo
          rw [eu, if_neg (by decide), g2, if_neg (by decide)]
        rw [e]
        obtain ⟨_, _, _, f5, _, _⟩ := Ieee.Format.ease_ok f4.1 f4.2.1 f4.2.2
        have KE := Lib.hid (fun w => shapeease_any (fltT (ax + bi + C) (sa + sb) W) (Ieee.Format.divF_lt _ _) f4 w)
        have k2 := fun w' => run_float_arith (P := Try.prog) w' .add 37 .f32 (fltD (ax + bi + C) (sa + sb)) (cv W) (fltA (ax + bi + C) (sa + sb) W) (Ieee.Format.bits_add hk.d hk.w)
        have k3 := fun w' => run_float_arith (P := Try.prog) w' .mul 37 .f32 (cv W) 1073741824 (fltB W) (Ieee.Format.bits_mul hk.w Ieee.Format.const_2.1)
        have k4 := fun w' => run_float_arith (P := Try.prog) w' .quo 37 .f32 (fltA (ax + bi + C) (sa + sb) W) (fltB W) (fltT (ax + bi + C) (sa + sb) W) (Ieee.Format.bits_div f1 f2 f3)
        have k5 := fun w' => run_float_arith (P := Try.prog) w' .mul 37 .f32 T (easeF (fltT (ax + bi + C) (sa + sb) W)) (mulF T (easeF (fltT (ax + bi + C) (sa + sb) W))) (Ieee.Format.bits_mul hT.1 f5)
        change (FloatKind.f32.format.order (fltD (ax + bi + C) (sa + sb)) (cv W) == some .gt || FloatKind.f32.format.order (fltD (ax + bi + C) (sa + sb)) (cv W) == some .eq) = false at g
        change (FloatKind.f32.format.order (fltD (ax + bi + C) (sa + sb)) (negF (cv W)) == some .lt || FloatKind.f32.format.order (fltD (ax + bi + C) (sa + sb)) (negF (cv W)) == some .eq) = false at g2
        clear hW eu f1 f2 f3 f4 f5 e
        generalize mulF T (easeF (fltT (ax + bi + C) (sa + sb) W)) = z at *
        generalize easeF (fltT (ax + bi + C) (sa + sb) W) = z7 at *
        generalize fltT (ax + bi + C) (sa + sb) W = z6 at *
        generalize fltA (ax + bi + C) (sa + sb) W = z5 at *
        generalize fltB W = z4 at *
        generalize negF (cv W) = zn at *
        clear hk hT
        generalize fltD (ax + bi + C) (sa + sb) = zd at *
        generalize rootF (cv (sa + sb)) = zr at *
        generalize hzk : cv (ax + bi + C) = zk at *
        generalize hzs : cv (sa + sb) = zs at *
        change floatOfInt .f32 (ax + bi + C) = zk at hzk
        change floatOfInt .f32 (sa + sb) = zs at hzs
        generalize hzw : cv W = zw at *
        change floatOfInt .f32 W = zw at hzw
        go_enter Try.func179, Try.ntmps179
        go_wp2_with fail
        generalize hW0 : w.alloc (.cells #[.int .i64 A, .int .i64 B, .int .i64 C, .int .i64 W, .float .f32 T] 95) = W0 at *
        have HK0 : Hid (Blk W0 w.heap.size #[.int .i64 A, .int .i64 B, .int .i64 C, .int .i64 W, .float .f32 T] 95) := by subst hW0; exact Blk.new _ _ _
        have HB0 : Hid (Below w.heap.size w W0) := Lib.hid (by subst hW0; exact (by repeat (first | with_reducible exact Below.refl _ _ | with_reducible apply Below.drew | with_reducible refine below_drewN ?_ _ | (with_reducible refine Below.setCell ?_ ?_ _; rotate_left; focus (first | omega | (simp <;> omega))) | (with_reducible refine Below.alloc ?_ ?_ _; rotate_left; focus (first | omega | (simp <;> omega))))))
        clear hW0
        have t3 : W0.cell? ⟨w.heap.size, 3, none⟩ = some (.int .i64 W) := HK0.out.cell 3
        have t0 : W0.cell? ⟨w.heap.size, 0, none⟩ = some (.int .i64 A) := HK0.out.cell 0
        have t1 : W0.cell? ⟨w.heap.size, 1, none⟩ = some (.int .i64 B) := HK0.out.cell 1
        have t2 : W0.cell? ⟨w.heap.size, 2, none⟩ = some (.int .i64 C) := HK0.out.cell 2
        have t4 : W0.cell? ⟨w.heap.size, 4, none⟩ = some (.float .f32 T) := HK0.out.cell 4
        have l0 : w.heap.size < W0.heap.size := HK0.out.lt
        refine (KR.out _).mono ?_
        rintro e w1 ⟨rfl, rfl⟩
        go_wp2_with fail
        go_region_held3 (fun w' => w'.cell? ⟨w.heap.size, 4, none⟩ = some (.float .f32 T) ∧ Below W0.heap.size W0 w')
          (first
            | exact ⟨t4, (Below.refl _ _).drew⟩
            | (go_split_ands
               have hs := hb.size
               have hs2 := (show Below W0.heap.size W0 _ by assumption).size
               refine ⟨?_, ?_⟩
               all_goals first
                 | (rw [hb.cell (by simp; omega)]; assumption)
                 | exact Below.trans (by assumption) (hb.mono (by omega)))
            | (go_split_ands; refine ⟨?_, ?_⟩ <;> assumption))
          (first | (go_at_call 212; go_split_ands; refine (KE.out _).mono ?_; rintro e2 w2 ⟨rfl, hb⟩))
        rename_i hHeld
        have hB := HB0.out.trans (hHeld.2.mono HB0.out.size)
        clear hHeld
        go_wp2_with fail
        go_ret
        exact ⟨rfl, (by have hszz := hB.size; repeat (first | with_reducible exact hB | with_reducible apply Below.drew | with_reducible refine below_drewN ?_ _ | (with_reducible refine Below.setCell ?_ ?_ _; rotate_left; focus (first | omega | (simp <;> omega))) | (with_reducible refine Below.alloc ?_ ?_ _; rotate_left; focus (first | omega | (simp <;> omega)))))⟩
end Go.Proofs.Ytnfebeebjelgbaa

namespace Go.Proofs.Ytnfebeebjelgbaa
open Go.ChangeShapes Go.WideShapes Go.ChangeAt Go.RowKit
open Ieee.Format (fin finE htE allFin allHt all_true all_false mulF subF addF Ht Bd divF rootF floorF easeF mixF)
set_option linter.unusedVariables false
open Ieee.Format (const_1 negF)

set_option maxRecDepth 100000 in
set_option maxHeartbeats 2000000 in
theorem refthrow_any (A B C W : Int) (T : Nat) (x y : Int) (w : World) (h : FaultAt A B C W x y) (hT : Bd 20 T) :
    Calls Try.prog 181 #[faultV A B C W T, .int .i64 x, .int .i64 y] w fun e w' => e = .returned (.float .f32 (throwF T (faultK A B C x y) (faultS A B) W)) ∧ Below w.heap.size w w' := by
  have w0 := h.w
  have c0 := h.c
  obtain ⟨a1, a2⟩ := mul_bd h.a h.x
  obtain ⟨b1, b2⟩ := mul_bd h.b h.y
  obtain ⟨s1, s2, s3⟩ := sq_ab h.a h.b h.n
  have hk := h.ok
  unfold faultK faultS at *
  clear h
  generalize hax : A * x = ax at *
  generalize hby : B * y = bi at *
  generalize hsa : A * A = sa at *
  generalize hsb : B * B = sb at *
  have k9 : -1099528404992 - 16777216000 ≤ ax + bi + C := by omega
  have k8 : ax + bi + C ≤ 1099528404992 + 16777216000 := by omega
  have KR := Lib.hid (fun w => refroot_any (cv (sa + sb)) hk.b hk.b0 w)
  have kx := Lib.hid (fun w => ref_conv_ok (ax + bi + C) w)
  have ky := Lib.hid (fun w => ref_conv_ok (sa + sb) w)
  have k1 := Lib.hid (fun w => ref_div_ok (cv (ax + bi + C)) (rootF (cv (sa + sb))) w hk.a hk.c hk.c0 hk.d)
  change Hid (∀ w, Calls Try.prog 140 #[.int .i64 (ax + bi + C)] w fun en w2 => en = .returned (.float .f32 (cv (ax + bi + C))) ∧ w = w2) at kx
  change Hid (∀ w, Calls Try.prog 140 #[.int .i64 (sa + sb)] w fun en w2 => en = .returned (.float .f32 (cv (sa + sb))) ∧ w = w2) at ky
  change Hid (∀ w, Calls Try.prog 139 #[.float .f32 (cv (ax + bi + C)), .float .f32 (rootF (cv (sa + sb)))] w fun en w2 => en = .returned (.float .f32 (fltD (ax + bi + C) (sa + sb))) ∧ w = w2) at k1
  by_cases hW : W = 0
  · subst hW
    have n1 := fun w' => run_neg Try.prog (cv 0) w'
    have kz := Lib.hid (fun w => ref_conv_ok 0 w)
    change Hid (∀ w, Calls Try.prog 140 #[.int .i64 0] w fun en w2 => en = .returned (.float .f32 (cv 0)) ∧ w = w2) at kz
    by_cases hkn : 0 ≤ ax + bi + C
    · have e : throwF T (ax + bi + C) (sa + sb) 0 = T := by
        unfold throwF fltUp
        rw [if_pos rfl, decide_eq_true hkn, if_pos rfl]
      rw [e]
      have g := hk.z rfl hkn
      change (FloatKind.f32.format.order (fltD (ax + bi + C) (sa + sb)) (cv 0) == some .gt || FloatKind.f32.format.order (fltD (ax + bi + C) (sa + sb)) (cv 0) == some .eq) = true at g
      have hkm : ¬ ax + bi + C < 0 := by omega
      clear hkn
      generalize negF (cv 0) = zn at *
      clear hk hT
      generalize fltD (ax + bi + C) (sa + sb) = zd at *
      generalize rootF (cv (sa + sb)) = zr at *
      generalize cv (ax + bi + C) = zk at *
      generalize cv (sa + sb) = zs at *
      generalize cv 0 = zw at *
      go_enter Try.func181, Try.ntmps181
      go_wp2_with fail
      generalize hW0 : w.alloc (.cells #[.int .i64 A, .int .i64 B, .int .i64 C, .int .i64 0, .float .f32 T] 95) = W0 at *
      have HK0 : Hid (Blk W0 w.heap.size #[.int .i64 A, .int .i64 B, .int .i64 C, .int .i64 0, .float .f32 T] 95) := by subst hW0; exact Blk.new _ _ _
      have HB0 : Hid (Below w.heap.size w W0) := Lib.hid (by subst hW0; exact (by repeat (first | with_reducible exact Below.refl _ _ | with_reducible apply Below.drew | with_reducible refine below_drewN ?_ _ | (with_reducible refine Below.setCell ?_ ?_ _; rotate_left; focus (first | omega | (simp <;> omega))) | (with_reducible refine Below.alloc ?_ ?_ _; rotate_left; focus (first | omega | (simp <;> omega))))))
      clear hW0
      have t0 : W0.cell? ⟨w.heap.size, 0, none⟩ = some (.int .i64 A) := HK0.out.cell 0
      have t1 : W0.cell? ⟨w.heap.size, 1, none⟩ = some (.int .i64 B) := HK0.out.cell 1
      have t3 : W0.cell? ⟨w.heap.size, 3, none⟩ = some (.int .i64 0) := HK0.out.cell 3
      have l0 : w.heap.size < W0.heap.size := HK0.out.lt
      go_quiet ((first
        | (go_at_call 140; first | with_reducible exact Calls.quiet_of_same ((kx.out _).mono fun _ _ h => ⟨h.1, h.2.symm⟩) | with_reducible exact Calls.quiet_of_same ((ky.out _).mono fun _ _ h => ⟨h.1, h.2.symm⟩) | with_reducible exact Calls.quiet_of_same ((kz.out _).mono fun _ _ h => ⟨h.1, h.2.symm⟩))
        | (go_at_call 156; with_reducible exact Calls.quiet_of_same ((KR.out _).mono fun _ _ h => ⟨h.1, h.2.symm⟩))
        | (go_at_call 139; with_reducible exact Calls.quiet_of_same ((k1.out _).mono fun _ _ h => ⟨h.1, h.2.symm⟩))))
      clear t0 t1 t3 l0
      generalize hW1 : W0.drewN nq = W1 at *
      have HK1 : Hid (Blk W1 w.heap.size #[.int .i64 A, .int .i64 B, .int .i64 C, .int .i64 0, .float .f32 T] 95) := by subst hW1; exact HK0.out
      have HB1 : Hid (Below w.heap.size w W1) := Lib.hid (by subst hW1; have h := HB0.out; exact (by have hszz := h.size; repeat (first | with_reducible exact h | with_reducible apply Below.drew | with_reducible refine below_drewN ?_ _ | (with_reducible refine Below.setCell ?_ ?_ _; rotate_left; focus (first | omega | (simp <;> omega))) | (with_reducible refine Below.alloc ?_ ?_ _; rotate_left; focus (first | omega | (simp <;> omega))))))
      clear hW1 HK0 HB0
      have t3 : W1.cell? ⟨w.heap.size, 3, none⟩ = some (.int .i64 0) := HK1.out.cell 3
      have t4 : W1.cell? ⟨w.heap.size, 4, none⟩ = some (.float .f32 T) := HK1.out.cell 4
      have l0 : w.heap.size < W1.heap.size := HK1.out.lt
      go_wp2_with fail
      go_ret
      exact ⟨rfl, (by have h := HB1.out; exact (by have hszz := h.size; repeat (first | with_reducible exact h | with_reducible apply Below.drew | with_reducible refine below_drewN ?_ _ | (with_reducible refine Below.setCell ?_ ?_ _; rotate_left; focus (first | omega | (simp <;> omega))) | (with_reducible refine Below.alloc ?_ ?_ _; rotate_left; focus (first | omega | (simp <;> omega))))))⟩
    · have e : throwF T (ax + bi + C) (sa + sb) 0 = 0 := by
        unfold throwF fltUp fltLo
        rw [if_pos rfl, decide_eq_false hkn, if_neg (by decide), hk.n rfl (by omega), if_pos rfl]
      rw [e]
      have hkm : ax + bi + C < 0 := by omega
      clear hkn
      generalize negF (cv 0) = zn at *
      clear hk hT
      generalize fltD (ax + bi + C) (sa + sb) = zd at *
      generalize rootF (cv (sa + sb)) = zr at *
      generalize cv (ax + bi + C) = zk at *
      generalize cv (sa + sb) = zs at *
      generalize cv 0 = zw at *
      go_enter Try.func181, Try.ntmps181
      go_wp2_with fail
      generalize hW0 : w.alloc (.cells #[.int .i64 A, .int .i64 B, .int .i64 C, .int .i64 0, .float .f32 T] 95) = W0 at *
      have HK0 : Hid (Blk W0 w.heap.size #[.int .i64 A, .int .i64 B, .int .i64 C, .int .i64 0, .float .f32 T] 95) := by subst hW0; exact Blk.new _ _ _
      have HB0 : Hid (Below w.heap.size w W0) := Lib.hid (by subst hW0; exact (by repeat (first | with_reducible exact Below.refl _ _ | with_reducible apply Below.drew | with_reducible refine below_drewN ?_ _ | (with_reducible refine Below.setCell ?_ ?_ _; rotate_left; focus (first | omega | (simp <;> omega))) | (with_reducible refine Below.alloc ?_ ?_ _; rotate_left; focus (first | omega | (simp <;> omega))))))
      clear hW0
      have t0 : W0.cell? ⟨w.heap.size, 0, none⟩ = some (.int .i64 A) := HK0.out.cell 0
      have t1 : W0.cell? ⟨w.heap.size, 1, none⟩ = some (.int .i64 B) := HK0.out.cell 1
      have t3 : W0.cell? ⟨w.heap.size, 3, none⟩ = some (.int .i64 0) := HK0.out.cell 3
      have l0 : w.heap.size < W0.heap.size := HK0.out.lt
      go_quiet ((first
        | (go_at_call 140; first | with_reducible exact Calls.quiet_of_same ((kx.out _).mono fun _ _ h => ⟨h.1, h.2.symm⟩) | with_reducible exact Calls.quiet_of_same ((ky.out _).mono fun _ _ h => ⟨h.1, h.2.symm⟩) | with_reducible exact Calls.quiet_of_same ((kz.out _).mono fun _ _ h => ⟨h.1, h.2.symm⟩))
        | (go_at_call 156; with_reducible exact Calls.quiet_of_same ((KR.out _).mono fun _ _ h => ⟨h.1, h.2.symm⟩))
        | (go_at_call 139; with_reducible exact Calls.quiet_of_same ((k1.out _).mono fun _ _ h => ⟨h.1, h.2.symm⟩))))
      clear t0 t1 t3 l0
      generalize hW1 : W0.drewN nq = W1 at *
      have HK1 : Hid (Blk W1 w.heap.size #[.int .i64 A, .int .i64 B, .int .i64 C, .int .i64 0, .float .f32 T] 95) := by subst hW1; exact HK0.out
      have HB1 : Hid (Below w.heap.size w W1) := Lib.hid (by subst hW1; have h := HB0.out; exact (by have hszz := h.size; repeat (first | with_reducible exact h | with_reducible apply Below.drew | with_reducible refine below_drewN ?_ _ | (with_reducible refine Below.setCell ?_ ?_ _; rotate_left; focus (first | omega | (simp <;> omega))) | (with_reducible refine Below.alloc ?_ ?_ _; rotate_left; focus (first | omega | (simp <;> omega))))))
      clear hW1 HK0 HB0
      have t3 : W1.cell? ⟨w.heap.size, 3, none⟩ = some (.int .i64 0) := HK1.out.cell 3
      have t4 : W1.cell? ⟨w.heap.size, 4, none⟩ = some (.float .f32 T) := HK1.out.cell 4
      have l0 : w.heap.size < W1.heap.size := HK1.out.lt
      go_wp2_with fail
      go_ret
      exact ⟨rfl, (by have h := HB1.out; exact (by have hszz := h.size; repeat (first | with_reducible exact h | with_reducible apply Below.drew | with_reducible refine below_drewN ?_ _ | (with_reducible refine Below.setCell ?_ ?_ _; rotate_left; focus (first | omega | (simp <;> omega))) | (with_reducible refine Below.alloc ?_ ?_ _; rotate_left; focus (first | omega | (simp <;> omega))))))⟩
  · have n1 := fun w' => run_neg Try.prog (cv W) w'
    have kz := Lib.hid (fun w => ref_conv_ok W w)
    change Hid (∀ w, Calls Try.prog 140 #[.int .i64 W] w fun en w2 => en = .returned (.float .f32 (cv W)) ∧ w = w2) at kz
    have hWq : (W == 0) = false := by simpa using hW
    cases g : geB (fltD (ax + bi + C) (sa + sb)) (cv W) with
    | true =>
      have e : throwF T (ax + bi + C) (sa + sb) W = T := by
        unfold throwF fltUp
        rw [if_neg hW, g, if_pos rfl]
      rw [e]
      change (FloatKind.f32.format.order (fltD (ax + bi + C) (sa + sb)) (cv W) == some .gt || FloatKind.f32.format.order (fltD (ax + bi + C) (sa + sb)) (cv W) == some .eq) = true at g
      clear hW
      generalize negF (cv W) = zn at *
      clear hk hT
      generalize fltD (ax + bi + C) (sa + sb) = zd at *
      generalize rootF (cv (sa + sb)) = zr at *
      generalize cv (ax + bi + C) = zk at *
      generalize cv (sa + sb) = zs at *
      generalize cv W = zw at *
      go_enter Try.func181, Try.ntmps181
      go_wp2_with fail
      generalize hW0 : w.alloc (.cells #[.int .i64 A, .int .i64 B, .int .i64 C, .int .i64 W, .float .f32 T] 95) = W0 at *
      have HK0 : Hid (Blk W0 w.heap.size #[.int .i64 A, .int .i64 B, .int .i64 C, .int .i64 W, .float .f32 T] 95) := by subst hW0; exact Blk.new _ _ _
      have HB0 : Hid (Below w.heap.size w W0) := Lib.hid (by subst hW0; exact (by repeat (first | with_reducible exact Below.refl _ _ | with_reducible apply Below.drew | with_reducible refine below_drewN ?_ _ | (with_reducible refine Below.setCell ?_ ?_ _; rotate_left; focus (first | omega | (simp <;> omega))) | (with_reducible refine Below.alloc ?_ ?_ _; rotate_left; focus (first | omega | (simp <;> omega))))))
      clear hW0
      have t0 : W0.cell? ⟨w.heap.size, 0, none⟩ = some (.int .i64 A) := HK0.out.cell 0
      have t1 : W0.cell? ⟨w.heap.size, 1, none⟩ = some (.int .i64 B) := HK0.out.cell 1
      have t3 : W0.cell? ⟨w.heap.size, 3, none⟩ = some (.int .i64 W) := HK0.out.cell 3
      have l0 : w.heap.size < W0.heap.size := HK0.out.lt
      go_quiet ((first
        | (go_at_call 140; first | with_reducible exact Calls.quiet_of_same ((kx.out _).mono fun _ _ h => ⟨h.1, h.2.symm⟩) | with_reducible exact Calls.quiet_of_same ((ky.out _).mono fun _ _ h => ⟨h.1, h.2.symm⟩) | with_reducible exact Calls.quiet_of_same ((kz.out _).mono fun _ _ h => ⟨h.1, h.2.symm⟩))
        | (go_at_call 156; with_reducible exact Calls.quiet_of_same ((KR.out _).mono fun _ _ h => ⟨h.1, h.2.symm⟩))
        | (go_at_call 139; with_reducible exact Calls.quiet_of_same ((k1.out _).mono fun _ _ h => ⟨h.1, h.2.symm⟩))))
      clear t0 t1 t3 l0
      generalize hW1 : W0.drewN nq = W1 at *
      have HK1 : Hid (Blk W1 w.heap.size #[.int .i64 A, .int .i64 B, .int .i64 C, .int .i64 W, .float .f32 T] 95) := by subst hW1; exact HK0.out
      have HB1 : Hid (Below w.heap.size w W1) := Lib.hid (by subst hW1; have h := HB0.out; exact (by have hszz := h.size; repeat (first | with_reducible exact h | with_reducible apply Below.drew | with_reducible refine below_drewN ?_ _ | (with_reducible refine Below.setCell ?_ ?_ _; rotate_left; focus (first | omega | (simp <;> omega))) | (with_reducible refine Below.alloc ?_ ?_ _; rotate_left; focus (first | omega | (simp <;> omega))))))
      clear hW1 HK0 HB0
      have t3 : W1.cell? ⟨w.heap.size, 3, none⟩ = some (.int .i64 W) := HK1.out.cell 3
      have t4 : W1.cell? ⟨w.heap.size, 4, none⟩ = some (.float .f32 T) := HK1.out.cell 4
      have l0 : w.heap.size < W1.heap.size := HK1.out.lt
      go_wp2_with fail
      go_ret
      exact ⟨rfl, (by have h := HB1.out; exact (by have hszz := h.size; repeat (first | with_reducible exact h | with_reducible apply Below.drew | with_reducible refine below_drewN ?_ _ | (with_reducible refine Below.setCell ?_ ?_ _; rotate_left; focus (first | omega | (simp <;> omega))) | (with_reducible refine Below.alloc ?_ ?_ _; rotate_left; focus (first | omega | (simp <;> omega))))))⟩
    | false =>
      have eu : fltUp (ax + bi + C) (sa + sb) W = false := by unfold fltUp; rw [if_neg hW, g]
      cases g2 : leB (fltD (ax + bi + C) (sa + sb)) (negF (cv W)) with
      | true =>
        have e : throwF T (ax + bi + C) (sa + sb) W = 0 := by
          unfold throwF fltLo
          rw [eu, if_neg (by decide), g2, if_pos rfl]
        rw [e]
        change (FloatKind.f32.format.order (fltD (ax + bi + C) (sa + sb)) (cv W) == some .gt || FloatKind.f32.format.order (fltD (ax + bi + C) (sa + sb)) (cv W) == some .eq) = false at g
        change (FloatKind.f32.format.order (fltD (ax + bi + C) (sa + sb)) (negF (cv W)) == some .lt || FloatKind.f32.format.order (fltD (ax + bi + C) (sa + sb)) (negF (cv W)) == some .eq) = true at g2
        clear hW eu
        generalize negF (cv W) = zn at *
        clear hk hT
        generalize fltD (ax + bi + C) (sa + sb) = zd at *
        generalize rootF (cv (sa + sb)) = zr at *
        generalize cv (ax + bi + C) = zk at *
        generalize cv (sa + sb) = zs at *
        generalize cv W = zw at *
        go_enter Try.func181, Try.ntmps181
        go_wp2_with fail
        generalize hW0 : w.alloc (.cells #[.int .i64 A, .int .i64 B, .int .i64 C, .int .i64 W, .float .f32 T] 95) = W0 at *
        have HK0 : Hid (Blk W0 w.heap.size #[.int .i64 A, .int .i64 B, .int .i64 C, .int .i64 W, .float .f32 T] 95) := by subst hW0; exact Blk.new _ _ _
        have HB0 : Hid (Below w.heap.size w W0) := Lib.hid (by subst hW0; exact (by repeat (first | with_reducible exact Below.refl _ _ | with_reducible apply Below.drew | with_reducible refine below_drewN ?_ _ | (with_reducible refine Below.setCell ?_ ?_ _; rotate_left; focus (first | omega | (simp <;> omega))) | (with_reducible refine Below.alloc ?_ ?_ _; rotate_left; focus (first | omega | (simp <;> omega))))))
        clear hW0
        have t0 : W0.cell? ⟨w.heap.size, 0, none⟩ = some (.int .i64 A) := HK0.out.cell 0
        have t1 : W0.cell? ⟨w.heap.size, 1, none⟩ = some (.int .i64 B) := HK0.out.cell 1
        have t3 : W0.cell? ⟨w.heap.size, 3, none⟩ = some (.int .i64 W) := HK0.out.cell 3
        have l0 : w.heap.size < W0.heap.size := HK0.out.lt
        go_quiet ((first
          | (go_at_call 140; first | with_reducible exact Calls.quiet_of_same ((kx.out _).mono fun _ _ h => ⟨h.1, h.2.symm⟩) | with_reducible exact Calls.quiet_of_same ((ky.out _).mono fun _ _ h => ⟨h.1, h.2.symm⟩) | with_reducible exact Calls.quiet_of_same ((kz.out _).mono fun _ _ h => ⟨h.1, h.2.symm⟩))
          | (go_at_call 156; with_reducible exact Calls.quiet_of_same ((KR.out _).mono fun _ _ h => ⟨h.1, h.2.symm⟩))
          | (go_at_call 139; with_reducible exact Calls.quiet_of_same ((k1.out _).mono fun _ _ h => ⟨h.1, h.2.symm⟩))))
        clear t0 t1 t3 l0
        generalize hW1 : W0.drewN nq = W1 at *
        have HK1 : Hid (Blk W1 w.heap.size #[.int .i64 A, .int .i64 B, .int .i64 C, .int .i64 W, .float .f32 T] 95) := by subst hW1; exact HK0.out
        have HB1 : Hid (Below w.heap.size w W1) := Lib.hid (by subst hW1; have h := HB0.out; exact (by have hszz := h.size; repeat (first | with_reducible exact h | with_reducible apply Below.drew | with_reducible refine below_drewN ?_ _ | (with_reducible refine Below.setCell ?_ ?_ _; rotate_left; focus (first | omega | (simp <;> omega))) | (with_reducible refine Below.alloc ?_ ?_ _; rotate_left; focus (first | omega | (simp <;> omega))))))
        clear hW1 HK0 HB0
        have t3 : W1.cell? ⟨w.heap.size, 3, none⟩ = some (.int .i64 W) := HK1.out.cell 3
        have t4 : W1.cell? ⟨w.heap.size, 4, none⟩ = some (.float .f32 T) := HK1.out.cell 4
        have l0 : w.heap.size < W1.heap.size := HK1.out.lt
        go_wp2_with fail
        go_ret
        exact ⟨rfl, (by have h := HB1.out; exact (by have hszz := h.size; repeat (first | with_reducible exact h | with_reducible apply Below.drew | with_reducible refine below_drewN ?_ _ | (with_reducible refine Below.setCell ?_ ?_ _; rotate_left; focus (first | omega | (simp <;> omega))) | (with_reducible refine Below.alloc ?_ ?_ _; rotate_left; focus (first | omega | (simp <;> omega))))))⟩
      | false =>
        obtain ⟨f1, f2, f3, f4⟩ := hk.e eu (by unfold fltLo; exact g2)
        have e : throwF T (ax + bi + C) (sa + sb) W = mulF T (easeF (fltT (ax + bi + C) (sa + sb) W)) := by
          unfold throwF fltLo
          rw [eu, if_neg (by decide), g2, if_neg (by decide)]
        rw [e]
        obtain ⟨_, _, _, f5, f6, f7⟩ := Ieee.Format.ease_ok f4.1 f4.2.1 f4.2.2
        have f8 : Bd 20 (mulF T (easeF (fltT (ax + bi + C) (sa + sb) W))) := hT.mul (Share.bd ⟨f5, f6, f7⟩) (by omega)
        have KE := Lib.hid (fun w => refease_any (fltT (ax + bi + C) (sa + sb) W) f4 w)
        have k2 := Lib.hid (fun w => ref_add_ok (fltD (ax + bi + C) (sa + sb)) (cv W) w hk.d hk.w f1)
        have k3 := Lib.hid (fun w => ref_mul_ok (cv W) 1073741824 w hk.w Ieee.Format.const_2.1 f2)
        have k4 := Lib.hid (fun w => ref_div_ok (fltA (ax + bi + C) (sa + sb) W) (fltB W) w f1 f2 f3 f4.1)
        have k5 := Lib.hid (fun w => ref_mul_ok T (easeF (fltT (ax + bi + C) (sa + sb) W)) w hT.1 f5 f8.1)
        change Hid (∀ w, Calls Try.prog 131 #[.float .f32 (fltD (ax + bi + C) (sa + sb)), .float .f32 (cv W)] w fun en w2 => en = .returned (.float .f32 (fltA (ax + bi + C) (sa + sb) W)) ∧ w = w2) at k2
        change Hid (∀ w, Calls Try.prog 136 #[.float .f32 (cv W), .float .f32 1073741824] w fun en w2 => en = .returned (.float .f32 (fltB W)) ∧ w = w2) at k3
        change Hid (∀ w, Calls Try.prog 139 #[.float .f32 (fltA (ax + bi + C) (sa + sb) W), .float .f32 (fltB W)] w fun en w2 => en = .returned (.float .f32 (fltT (ax + bi + C) (sa + sb) W)) ∧ w = w2) at k4
        change (FloatKind.f32.format.order (fltD (ax + bi + C) (sa + sb)) (cv W) == some .gt || FloatKind.f32.format.order (fltD (ax + bi + C) (sa + sb)) (cv W) == some .eq) = false at g
        change (FloatKind.f32.format.order (fltD (ax + bi + C) (sa + sb)) (negF (cv W)) == some .lt || FloatKind.f32.format.order (fltD (ax + bi + C) (sa + sb)) (negF (cv W)) == some .eq) = false at g2
        clear hW eu f1 f2 f3 f4 f5 f6 f7 f8 e
        generalize mulF T (easeF (fltT (ax + bi + C) (sa + sb) W)) = z at *
        generalize easeF (fltT (ax + bi + C) (sa + sb) W) = z7 at *
        generalize fltT (ax + bi + C) (sa + sb) W = z6 at *
        generalize fltA (ax + bi + C) (sa + sb) W = z5 at *
        generalize fltB W = z4 at *
        generalize negF (cv W) = zn at *
        clear hk hT
        generalize fltD (ax + bi + C) (sa + sb) = zd at *
        generalize rootF (cv (sa + sb)) = zr at *
        generalize cv (ax + bi + C) = zk at *
        generalize cv (sa + sb) = zs at *
        generalize cv W = zw at *
        go_enter Try.func181, Try.ntmps181
        go_wp2_with fail
        generalize hW0 : w.alloc (.cells #[.int .i64 A, .int .i64 B, .int .i64 C, .int .i64 W, .float .f32 T] 95) = W0 at *
        have HK0 : Hid (Blk W0 w.heap.size #[.int .i64 A, .int .i64 B, .int .i64 C, .int .i64 W, .float .f32 T] 95) := by subst hW0; exact Blk.new _ _ _
        have HB0 : Hid (Below w.heap.size w W0) := Lib.hid (by subst hW0; exact (by repeat (first | with_reducible exact Below.refl _ _ | with_reducible apply Below.drew | with_reducible refine below_drewN ?_ _ | (with_reducible refine Below.setCell ?_ ?_ _; rotate_left; focus (first | omega | (simp <;> omega))) | (with_reducible refine Below.alloc ?_ ?_ _; rotate_left; focus (first | omega | (simp <;> omega))))))
        clear hW0
        have t0 : W0.cell? ⟨w.heap.size, 0, none⟩ = some (.int .i64 A) := HK0.out.cell 0
        have t1 : W0.cell? ⟨w.heap.size, 1, none⟩ = some (.int .i64 B) := HK0.out.cell 1
        have t3 : W0.cell? ⟨w.heap.size, 3, none⟩ = some (.int .i64 W) := HK0.out.cell 3
        have l0 : w.heap.size < W0.heap.size := HK0.out.lt
        go_quiet ((first
          | (go_at_call 140; first | with_reducible exact Calls.quiet_of_same ((kx.out _).mono fun _ _ h => ⟨h.1, h.2.symm⟩) | with_reducible exact Calls.quiet_of_same ((ky.out _).mono fun _ _ h => ⟨h.1, h.2.symm⟩) | with_reducible exact Calls.quiet_of_same ((kz.out _).mono fun _ _ h => ⟨h.1, h.2.symm⟩))
          | (go_at_call 156; with_reducible exact Calls.quiet_of_same ((KR.out _).mono fun _ _ h => ⟨h.1, h.2.symm⟩))
          | (go_at_call 139; with_reducible exact Calls.quiet_of_same ((k1.out _).mono fun _ _ h => ⟨h.1, h.2.symm⟩))))
        clear t0 t1 t3 l0
        generalize hW1 : W0.drewN nq = W1 at *
        have HK1 : Hid (Blk W1 w.heap.size #[.int .i64 A, .int .i64 B, .int .i64 C, .int .i64 W, .float .f32 T] 95) := by subst hW1; exact HK0.out
        have HB1 : Hid (Below w.heap.size w W1) := Lib.hid (by subst hW1; have h := HB0.out; exact (by have hszz := h.size; repeat (first | with_reducible exact h | with_reducible apply Below.drew | with_reducible refine below_drewN ?_ _ | (with_reducible refine Below.setCell ?_ ?_ _; rotate_left; focus (first | omega | (simp <;> omega))) | (with_reducible refine Below.alloc ?_ ?_ _; rotate_left; focus (first | omega | (simp <;> omega))))))
        clear hW1 HK0 HB0
        have t3 : W1.cell? ⟨w.heap.size, 3, none⟩ = some (.int .i64 W) := HK1.out.cell 3
        have t4 : W1.cell? ⟨w.heap.size, 4, none⟩ = some (.float .f32 T) := HK1.out.cell 4
        have l0 : w.heap.size < W1.heap.size := HK1.out.lt
        go_wp2_with fail
        go_quiet ((first
          | (go_at_call 131; with_reducible exact Calls.quiet_of_same ((k2.out _).mono fun _ _ h => ⟨h.1, h.2.symm⟩))
          | (go_at_call 136; first | with_reducible exact Calls.quiet_of_same ((k3.out _).mono fun _ _ h => ⟨h.1, h.2.symm⟩) | with_reducible exact Calls.quiet_of_same ((k5.out _).mono fun _ _ h => ⟨h.1, h.2.symm⟩))
          | (go_at_call 139; with_reducible exact Calls.quiet_of_same ((k4.out _).mono fun _ _ h => ⟨h.1, h.2.symm⟩))
          | (go_at_call 213; with_reducible exact Calls.quiet_of_same ((KE.out _).mono fun _ _ h => ⟨h.1, h.2.symm⟩))))
        go_wp2_with fail
        go_ret
        exact ⟨rfl, (by have h := HB1.out; exact (by have hszz := h.size; repeat (first | with_reducible exact h | with_reducible apply Below.drew | with_reducible refine below_drewN ?_ _ | (with_reducible refine Below.setCell ?_ ?_ _; rotate_left; focus (first | omega | (simp <;> omega))) | (with_reducible refine Below.alloc ?_ ?_ _; rotate_left; focus (first | omega | (simp <;> omega))))))⟩
end Go.Proofs.Ytnfebeebjelgbaa
