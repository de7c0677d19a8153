import Derived.Test.YtkmcinibaffpmaaGreatJC
import Derived.Test.YtkmcinibaffpmaaGreatFloatR
import Derived.Test.YtkmcinibaffpmaaGreatFloatT
import Derived.Test.YtkmcinibaffpmaaGreatMagF
import Derived.Test.YtkmcinibaffpmaaGreatWear
import Derived.Test.YtkmcinibaffpmaaGreatHeldL
import Derived.BigQuiet
import Derived.Deep.QuietTactic
import Derived.Deep.DeepCutAuto
import Derived.Deep.RegionHeld3
import Derived.Test.YtkmcinibaffpmaaGreatInner
namespace Go.Proofs.YtkmcinibaffpmaaGreat
open Go.ChangeShapes Go.WideShapes Go.ChangeAt Go.RowKit
open Ieee.Format (fin finE htE allFin allHt all_true all_false mulF subF addF Ht Bd divF rootF floorF easeF mixF)
set_option linter.unusedVariables false
open Wide
open Ieee.Format (Wi const_0 const_1 value_wi grad_wi mix_wi near_4 near_8 mulF_spec addF_spec)

theorem ease_unit {s : Nat} (h : Share s) : fin Ieee.single (easeF s) ∧ 0 ≤ Ieee.single.V (easeF s) ∧ Ieee.single.V (easeF s) ≤ 1 := by
  obtain ⟨_, _, _, f, a, b⟩ := Ieee.Format.ease_ok h.1 h.2.1 h.2.2
  exact ⟨f, a, b⟩
theorem lat_s {x c : Int} (h1 : 1 ≤ c) (h2 : c ≤ 4096) : Share (latS (x % c) c) := (lat_share (Int.emod_nonneg _ (by omega)) (Int.emod_lt_of_pos _ (by omega)) h2).1
theorem latS_lt (m c : Int) : latS m c < 4294967296 := Ieee.Format.divF_lt _ _
theorem valF_wi (seed x y c : Int) (h1 : 1 ≤ c) (h2 : c ≤ 4096) : Wi (1 + 8 * Ieee.P2 (-24)) (valF seed x y c) := by
  obtain ⟨a, b, d⟩ := ease_unit (lat_s (x := x) h1 h2)
  obtain ⟨a', b', d'⟩ := ease_unit (lat_s (x := y) h1 h2)
  unfold valF latF
  exact value_wi (cvF_wi ..) (cvF_wi ..) (cvF_wi ..) (cvF_wi ..) a b d a' b' d'
theorem gradF_wi (seed x y c : Int) (h1 : 1 ≤ c) (h2 : c ≤ 4096) : Wi (2 + 16 * Ieee.P2 (-24)) (gradF seed x y c) := by
  have sx := lat_s (x := x) h1 h2
  have sy := lat_s (x := y) h1 h2
  obtain ⟨a, b, d⟩ := ease_unit sx
  obtain ⟨a', b', d'⟩ := ease_unit sy
  have X := sx.dx (latS_lt _ _)
  have Y := sy.dx (latS_lt _ _)
  unfold gradF latF cgF
  exact grad_wi (dot_wi _ X Y) (dot_wi _ sx.dx1 Y) (dot_wi _ X sy.dx1) (dot_wi _ sx.dx1 sy.dx1) a b d a' b' d'
end Go.Proofs.YtkmcinibaffpmaaGreat

namespace Go.Proofs.YtkmcinibaffpmaaGreat
open Go.ChangeShapes Go.WideShapes Go.ChangeAt Go.RowKit
open Ieee.Format (fin finE htE allFin allHt all_true all_false mulF subF addF Ht Bd divF rootF floorF easeF mixF)
set_option linter.unusedVariables false
open Wide
open Ieee.Format (Wi const_0 const_1 const_2 const_3 near_2 mulF_spec addF_spec subF_spec Noisy octA octS reachF reach_ok unit24)

/-! ### the fractal, in plain Lean -/
def octC (cell : Int) (k : Nat) : Int := max (cell / 2 ^ k) 1
def octF (kd seed cell x y : Int) (k : Nat) : Nat :=
  if kd = 1 then valF (hashTo seed (k : Int) 0 4 3) x y (octC cell k) else if kd = 2 then gradF (hashTo seed (k : Int) 0 4 3) x y (octC cell k) else if kd = 3 then nearF (hashTo seed (k : Int) 0 4 3) x y (octC cell k) else subF 1065353216 (mag (gradF (hashTo seed (k : Int) 0 4 3) x y (octC cell k)))
def bndF (kd : Int) : Nat := if kd = 2 then 1073741824 else if kd = 3 then 1077936128 else 1065353216
def fracF (kd seed cell : Int) (n g : Nat) (x y : Int) : Nat := octS g (octF kd seed cell x y) n
theorem octC_bd {cell : Int} (h1 : 1 ≤ cell) (h2 : cell ≤ 4096) (k : Nat) : 1 ≤ octC cell k ∧ octC cell k ≤ 4096 := by
  unfold octC
  have hp : (1 : Int) ≤ 2 ^ k := by exact_mod_cast Nat.one_le_two_pow
  have h3 : cell / 2 ^ k ≤ cell := Int.ediv_le_self _ (by omega)
  omega
theorem bndF_ok (kd : Int) : fin Ieee.single (bndF kd) ∧ 1 ≤ Ieee.single.V (bndF kd) ∧ Ieee.single.V (bndF kd) ≤ 3 := by
  unfold bndF
  split
  · exact ⟨const_2.1, by rw [const_2.2.1]; decide, by rw [const_2.2.1]; decide⟩
  · split
    · exact ⟨const_3.1, by rw [const_3.2.1]; decide, by rw [const_3.2.1]; decide⟩
    · exact ⟨const_1.1, by rw [const_1.2.1]; decide, by rw [const_1.2.1]; decide⟩
theorem ridge_ok {g : Nat} (h : Wi (2 + 16 * Ieee.P2 (-24)) g) : fin Ieee.single (mag g) ∧ fin Ieee.single (subF 1065353216 (mag g)) ∧ -(1 + 17 * Ieee.P2 (-24)) ≤ Ieee.single.V (subF 1065353216 (mag g)) ∧ Ieee.single.V (subF 1065353216 (mag g)) ≤ 1 + Ieee.P2 (-24) := by
  obtain ⟨f, a, b⟩ := h
  obtain ⟨u0, _, _, _, u4⟩ := unit24
  have fm := mag_fin f
  have hv : 0 ≤ Ieee.single.V (mag g) ∧ Ieee.single.V (mag g) ≤ 2 + 16 * Ieee.P2 (-24) := by
    obtain ⟨r, s⟩ := mag_parts g
    have : Ieee.single.V (mag g) = Ieee.single.V g ∨ Ieee.single.V (mag g) = -Ieee.single.V g := by
      unfold Ieee.Format.V
      rw [r, s]
      cases hx : Ieee.single.sgn g
      · left; rfl
      · right; simp only [Ieee.sg]; grind
    have h0 : 0 ≤ Ieee.single.V (mag g) := by
      unfold Ieee.Format.V
      rw [s]
      have := Ieee.single.rv_nonneg (Ieee.single.rung (mag g))
      simp only [Ieee.sg]; grind
    exact ⟨h0, by rcases this with h | h <;> rw [h] <;> grind⟩
  have hs := (subF_spec const_1.1 fm).2
  rw [const_1.2.1] at hs
  obtain ⟨fw, p, q, _, _⟩ := near_2 _ _ _ hs (by grind) (by grind)
  exact ⟨fm, fw, by grind, by grind⟩
theorem octF_noisy (kd seed cell x y : Int) (k : Nat) (h1 : 1 ≤ cell) (h2 : cell ≤ 4096) : Noisy (bndF kd) (octF kd seed cell x y k) := by
  obtain ⟨c1, c2⟩ := octC_bd h1 h2 k
  obtain ⟨u0, _, _, u3, u4⟩ := unit24
  have wv := valF_wi (hashTo seed (k : Int) 0 4 3) x y (octC cell k) c1 c2
  have wg := gradF_wi (hashTo seed (k : Int) 0 4 3) x y (octC cell k) c1 c2
  have wn := near_next (hashTo seed (k : Int) 0 4 3) x y (octC cell k) c1 c2
  obtain ⟨_, r1, r2, r3⟩ := ridge_ok wg
  unfold octF bndF Noisy
  rw [u3]
  by_cases k1 : kd = 1
  · rw [if_pos k1, if_neg (by omega), if_neg (by omega), const_1.2.1]
    exact ⟨wv.1, by have := wv.2.1; grind, by have := wv.2.2; grind⟩
  · rw [if_neg k1]
    by_cases k2 : kd = 2
    · rw [if_pos k2, if_pos k2, const_2.2.1]
      exact ⟨wg.1, by have := wg.2.1; grind, by have := wg.2.2; grind⟩
    · rw [if_neg k2, if_neg k2]
      by_cases k3 : kd = 3
      · rw [if_pos k3, if_pos k3, const_3.2.1]
        exact ⟨wn.1, by have := wn.2.2.1; grind, by have := wn.2.2.2.1; grind⟩
      · rw [if_neg k3, if_neg k3, const_1.2.1]
        exact ⟨r1, by grind, by grind⟩
end Go.Proofs.YtkmcinibaffpmaaGreat

namespace Go.Proofs.YtkmcinibaffpmaaGreat
open Go.ChangeShapes Go.WideShapes Go.ChangeAt Go.RowKit
open Ieee.Format (fin finE htE allFin allHt all_true all_false mulF subF addF Ht Bd divF rootF floorF easeF mixF)
set_option linter.unusedVariables false
open Wide
open Ieee.Format (bits_sub)

/-- a fractal, as a value -/
def frV (kd seed cell n : Int) (g : Nat) : Value := .agg #[.int .i64 kd, .int .u32 seed, .int .i64 cell, .int .i64 n, .float .f32 g]
set_option maxRecDepth 100000 in
set_option maxHeartbeats 1000000 in
theorem octave_any (kd seed cell n x y : Int) (g k : Nat) (w : World) (hk : k < 10) (h1 : 1 ≤ cell) (h2 : cell ≤ 4096) (hx : -8388608 ≤ x) (hx2 : x ≤ 8388608) (hy : -8388608 ≤ y) (hy2 : y ≤ 8388608) :
    Calls Tryz.prog 62 #[frV kd seed cell n g, .int .i64 (k : Int), .int .i64 x, .int .i64 y] w fun e w' => e = .returned (.float .f32 (octF kd seed cell x y k)) ∧ Below w.heap.size w w' := by
  obtain ⟨c1, c2⟩ := octC_bd h1 h2 k
  have K0 : ∀ w, Calls Tryz.prog 43 #[.int .u32 seed, .int .i64 (k : Int), .int .i64 0, .int .i64 4] w fun e w' => e = .returned (.int .u32 (hashTo seed (k : Int) 0 4 3)) ∧ w' = w := fun w => (hash1 seed k 0 4 w).mono fun _ _ h => ⟨h.1, h.2.symm⟩
  have KH := Lib.hid K0
  have KV := Lib.hid (fun w => nvalue_any (hashTo seed (k : Int) 0 4 3) x y (octC cell k) w hx hx2 hy hy2 c1 c2)
  have KG := Lib.hid (fun w => gradient_any (hashTo seed (k : Int) 0 4 3) x y (octC cell k) w hx hx2 hy hy2 c1 c2)
  have KC := Lib.hid (fun w => cells_any (hashTo seed (k : Int) 0 4 3) x y (octC cell k) w hx hx2 hy hy2 c1 c2)
  have KM := Lib.hid (fun w => magnitude_any (gradF (hashTo seed (k : Int) 0 4 3) x y (octC cell k)) (gradF_wi _ _ _ _ c1 c2).1 w)
  obtain ⟨f1, f2, _⟩ := ridge_ok (gradF_wi (hashTo seed (k : Int) 0 4 3) x y (octC cell k) c1 c2)
  have k3 := fun w' => run_float_arith (P := Tryz.prog) w' .sub 23 .f32 _ _ _ (bits_sub Ieee.Format.const_1.1 f1)
  have hk0 : (0 : Int) ≤ (k : Int) := by omega
  have hk1 : (k : Int) ≤ 64 := by omega
  have ht : ((k : Int)).toNat = k := by simp
  unfold octF frV
  unfold octC at *
  generalize hashTo seed (k : Int) 0 4 3 = s at *
  generalize hq : cell / 2 ^ k = q at *
  clear K0 c1 c2 h1 h2 hx hx2 hy hy2 hk
  generalize valF s x y (max q 1) = v1 at *
  generalize gradF s x y (max q 1) = v2 at *
  generalize nearF s x y (max q 1) = v3 at *
  generalize nextF s x y (max q 1) = v4 at *
  generalize atP s x y (max q 1) = v5 at *
  obtain ⟨px, py⟩ := v5
  unfold ptV at KC
  generalize mag v2 = v6 at *
  generalize subF 1065353216 v6 = v7 at *
  clear f1 f2
  by_cases a1 : kd = 1
  · rw [if_pos a1]
    subst a1
    go_enter Tryz.func62, Tryz.ntmps62
    go_wp2_with fail
    generalize hW0 : w.alloc (.cells #[.int .i64 1, .int .u32 seed, .int .i64 cell, .int .i64 n, .float .f32 g] 25) = W0 at *
    have A0 : Blk W0 w.heap.size #[.int .i64 1, .int .u32 seed, .int .i64 cell, .int .i64 n, .float .f32 g] 25 := by subst hW0; exact Blk.new _ _ _
    have B0 : Below w.heap.size w W0 := by subst hW0; exact (by repeat (first | with_reducible exact Below.refl _ _ | with_reducible apply Below.drew | with_reducible refine below_drewN ?_ _ | (with_reducible refine Below.setCell ?_ ?_ _; rotate_left; focus (first | omega | (simp <;> omega))) | (with_reducible refine Below.alloc ?_ ?_ _; rotate_left; focus (first | omega | (simp <;> omega)))))
    clear hW0
    have p0 := A0.cell 0
    have p1 := A0.cell 1
    have p2 := A0.cell 2
    simp at p0 p1 p2
    have l0 := A0.lt
    have HB0 := Lib.hid B0
    clear B0
    go_quiet (first | (go_at_call 43; with_reducible exact Calls.quiet_of_same (KH.out _)))
    have A1 := A0.drewN nq
    have HB1 := Lib.hid (below_drewN HB0.out nq)
    clear A0 HB0 p0 p1 p2 l0
    generalize W0.drewN nq = W1 at *
    generalize max q 1 = m at *
    have p0 := A1.cell 0
    simp at p0
    have l0 := A1.lt
    clear A1 KH
    go_wp2_with fail
    refine (KV.out _).mono ?_
    rintro e w1 ⟨rfl, b1⟩
    have HB2 := Lib.hid (HB1.out.trans (b1.mono HB1.out.size))
    clear b1 HB1 p0 l0
    go_wp2_with fail
    go_ret
    exact ⟨rfl, HB2.out⟩
  · rw [if_neg a1]
    by_cases a2 : kd = 2
    · rw [if_pos a2]
      subst a2
      go_enter Tryz.func62, Tryz.ntmps62
      go_wp2_with fail
      generalize hW0 : w.alloc (.cells #[.int .i64 2, .int .u32 seed, .int .i64 cell, .int .i64 n, .float .f32 g] 25) = W0 at *
      have A0 : Blk W0 w.heap.size #[.int .i64 2, .int .u32 seed, .int .i64 cell, .int .i64 n, .float .f32 g] 25 := by subst hW0; exact Blk.new _ _ _
      have B0 : Below w.heap.size w W0 := by subst hW0; exact (by repeat (first | with_reducible exact Below.refl _ _ | with_reducible apply Below.drew | with_reducible refine below_drewN ?_ _ | (with_reducible refine Below.setCell ?_ ?_ _; rotate_left; focus (first | omega | (simp <;> omega))) | (with_reducible refine Below.alloc ?_ ?_ _; rotate_left; focus (first | omega | (simp <;> omega)))))
      clear hW0
      have p0 := A0.cell 0
      have p1 := A0.cell 1
      have p2 := A0.cell 2
      simp at p0 p1 p2
      have l0 := A0.lt
      have HB0 := Lib.hid B0
      clear B0
      go_quiet (first | (go_at_call 43; with_reducible exact Calls.quiet_of_same (KH.out _)))
      have A1 := A0.drewN nq
      have HB1 := Lib.hid (below_drewN HB0.out nq)
      clear A0 HB0 p0 p1 p2 l0
      generalize W0.drewN nq = W1 at *
      generalize max q 1 = m at *
      have p0 := A1.cell 0
      simp at p0
      have l0 := A1.lt
      clear A1 KH
      go_wp2_with fail
      refine (KG.out _).mono ?_
      rintro e w1 ⟨rfl, b1⟩
      have HB2 := Lib.hid (HB1.out.trans (b1.mono HB1.out.size))
      clear b1 HB1 p0 l0
      go_wp2_with fail
      go_ret
      exact ⟨rfl, HB2.out⟩
    · rw [if_neg a2]
      by_cases a3 : kd = 3
      · rw [if_pos a3]
        subst a3
        go_enter Tryz.func62, Tryz.ntmps62
        go_wp2_with fail
        generalize hW0 : w.alloc (.cells #[.int .i64 3, .int .u32 seed, .int .i64 cell, .int .i64 n, .float .f32 g] 25) = W0 at *
        have A0 : Blk W0 w.heap.size #[.int .i64 3, .int .u32 seed, .int .i64 cell, .int .i64 n, .float .f32 g] 25 := by subst hW0; exact Blk.new _ _ _
        have B0 : Below w.heap.size w W0 := by subst hW0; exact (by repeat (first | with_reducible exact Below.refl _ _ | with_reducible apply Below.drew | with_reducible refine below_drewN ?_ _ | (with_reducible refine Below.setCell ?_ ?_ _; rotate_left; focus (first | omega | (simp <;> omega))) | (with_reducible refine Below.alloc ?_ ?_ _; rotate_left; focus (first | omega | (simp <;> omega)))))
        clear hW0
        have p0 := A0.cell 0
        have p1 := A0.cell 1
        have p2 := A0.cell 2
        simp at p0 p1 p2
        have l0 := A0.lt
        have HB0 := Lib.hid B0
        clear B0
        go_quiet (first | (go_at_call 43; with_reducible exact Calls.quiet_of_same (KH.out _)))
        have A1 := A0.drewN nq
        have HB1 := Lib.hid (below_drewN HB0.out nq)
        clear A0 HB0 p0 p1 p2 l0
        generalize W0.drewN nq = W1 at *
        generalize max q 1 = m at *
        have p0 := A1.cell 0
        simp at p0
        have l0 := A1.lt
        clear A1 KH
        go_wp2_with fail
        refine (KC.out _).mono ?_
        rintro e w1 ⟨rfl, b1⟩
        have HB2 := Lib.hid (HB1.out.trans (b1.mono HB1.out.size))
        clear b1 HB1 p0 l0
        go_upto_region 9 with fail
        have b3 : Below w1.heap.size w1 (w1.alloc (.cells #[.int .i64 px, .int .i64 py] 37)) := (by repeat (first | with_reducible exact Below.refl _ _ | with_reducible apply Below.drew | with_reducible refine below_drewN ?_ _ | (with_reducible refine Below.setCell ?_ ?_ _; rotate_left; focus (first | omega | (simp <;> omega))) | (with_reducible refine Below.alloc ?_ ?_ _; rotate_left; focus (first | omega | (simp <;> omega)))))
        have HB3 := Lib.hid (HB2.out.trans (b3.mono HB2.out.size))
        clear b3 HB2
        generalize w1.alloc (.cells #[.int .i64 px, .int .i64 py] 37) = w2 at *
        go_wp2_with fail
        go_ret
        exact ⟨rfl, HB3.out⟩
      · rw [if_neg a3]
        go_enter Tryz.func62, Tryz.ntmps62
        go_wp2_with fail
        generalize hW0 : w.alloc (.cells #[.int .i64 kd, .int .u32 seed, .int .i64 cell, .int .i64 n, .float .f32 g] 25) = W0 at *
        have A0 : Blk W0 w.heap.size #[.int .i64 kd, .int .u32 seed, .int .i64 cell, .int .i64 n, .float .f32 g] 25 := by subst hW0; exact Blk.new _ _ _
        have B0 : Below w.heap.size w W0 := by subst hW0; exact (by repeat (first | with_reducible exact Below.refl _ _ | with_reducible apply Below.drew | with_reducible refine below_drewN ?_ _ | (with_reducible refine Below.setCell ?_ ?_ _; rotate_left; focus (first | omega | (simp <;> omega))) | (with_reducible refine Below.alloc ?_ ?_ _; rotate_left; focus (first | omega | (simp <;> omega)))))
        clear hW0
        have p0 := A0.cell 0
        have p1 := A0.cell 1
        have p2 := A0.cell 2
        simp at p0 p1 p2
        have l0 := A0.lt
        have HB0 := Lib.hid B0
        clear B0
        go_quiet (first | (go_at_call 43; with_reducible exact Calls.quiet_of_same (KH.out _)))
        have A1 := A0.drewN nq
        have HB1 := Lib.hid (below_drewN HB0.out nq)
        clear A0 HB0 p0 p1 p2 l0
        generalize W0.drewN nq = W1 at *
        generalize max q 1 = m at *
        have p0 := A1.cell 0
        simp at p0
        have l0 := A1.lt
        clear A1 KH
        go_wp2_with fail
        refine (KG.out _).mono ?_
        rintro e w1 ⟨rfl, b1⟩
        have HB2 := Lib.hid (HB1.out.trans (b1.mono HB1.out.size))
        clear b1 HB1 p0 l0
        go_wp2_with fail
        refine (KM.out _).mono ?_
        rintro e w2 ⟨rfl, rfl⟩
        go_wp2_with fail
        go_ret
        exact ⟨rfl, HB2.out⟩
end Go.Proofs.YtkmcinibaffpmaaGreat

namespace Go.Proofs.YtkmcinibaffpmaaGreat
open Go.ChangeShapes Go.WideShapes Go.ChangeAt Go.RowKit
open Ieee.Format (fin finE htE allFin allHt all_true all_false mulF subF addF Ht Bd divF rootF floorF easeF mixF)
set_option linter.unusedVariables false
open Wide
open Ieee.Format (bits_sub bits_mul bits_add octA octS amp_ok oct_all oct_step Noisy)

/-- all that octaves reckons is finite -/
structure OctOk (g : Nat) (ψ : Nat → Nat) (n : Nat) : Prop where
  fg : fin Ieee.single g
  fa : ∀ k, fin Ieee.single (octA g k)
  fn : ∀ k, k < n → fin Ieee.single (ψ k)
  fp : ∀ k, k < n → fin Ieee.single (mulF (octA g k) (ψ k))
  fs : ∀ k, k ≤ n → fin Ieee.single (octS g ψ k)
theorem oct_ok {g b n : Nat} (ψ : Nat → Nat) (hg : fin Ieee.single g) (g0 : 0 ≤ Ieee.single.V g) (g1 : Ieee.single.V g ≤ 1) (hb : fin Ieee.single b) (b1 : 1 ≤ Ieee.single.V b) (b3 : Ieee.single.V b ≤ 3) (hn : n ≤ 10) (h : ∀ j, j < n → Noisy b (ψ j)) : OctOk g ψ n ∧ OctOk g (fun _ => b) n := by
  have hall := fun k (hk : k ≤ n) => oct_all ψ hg g0 g1 hb b1 b3 k (by omega) (fun j hj => h j (by omega))
  have hamp := amp_ok hg g0 g1
  have hst := fun k (hk : k < n) => (by
    obtain ⟨a1, a2, a3, a4, a5, a6, a7⟩ := hall k (by omega)
    obtain ⟨f, p, q⟩ := hamp k
    exact oct_step (by omega) f p q hb b1 b3 (h k hk) a1 a2 a3 a4 a6 a7 : _)
  exact ⟨⟨hg, fun k => (hamp k).1, fun k hk => (h k hk).1, fun k hk => (hst k hk).1, fun k hk => (hall k hk).1⟩, ⟨hg, fun k => (hamp k).1, fun _ _ => hb, fun k hk => (hst k hk).2.1, fun k hk => (hall k hk).2.1⟩⟩
set_option maxRecDepth 100000 in
set_option maxHeartbeats 1000000 in
theorem octaves_any (gn : Nat) (caps : Array Value) (ψ : Nat → Nat) (kd seed cell : Int) (n g : Nat) (w : World) (hn : n ≤ 10) (ok : OctOk g ψ n)
    (eg : ∀ args w, (callFunc gn args).run Tryz.prog w = .ok (.enter gn args) w)
    (hf : ∀ k : Nat, k < n → ∀ W', Below w.heap.size w W' → Calls Tryz.prog gn (#[.int .i64 (k : Int)] ++ caps) W' fun e w' => e = .returned (.float .f32 (ψ k)) ∧ Below W'.heap.size W' w') :
    Calls Tryz.prog 51 #[frV kd seed cell n g, .func (.func gn) #[] caps] w fun e w' => e = .returned (.float .f32 (octS g ψ n)) ∧ Below w.heap.size w w' := by
  have HF := Lib.hid hf
  have HK := Lib.hid ok
  clear hf ok
  unfold frV
  go_enter Tryz.func51, Tryz.ntmps51
  go_wp2_with fail
  have A0 := Blk.new w #[.int .i64 kd, .int .u32 seed, .int .i64 cell, .int .i64 (n : Int), .float .f32 g] 25
  have B0 : Below w.heap.size w (w.alloc (.cells #[.int .i64 kd, .int .u32 seed, .int .i64 cell, .int .i64 (n : Int), .float .f32 g] 25)) := (by repeat (first | with_reducible exact Below.refl _ _ | with_reducible apply Below.drew | with_reducible refine below_drewN ?_ _ | (with_reducible refine Below.setCell ?_ ?_ _; rotate_left; focus (first | omega | (simp <;> omega))) | (with_reducible refine Below.alloc ?_ ?_ _; rotate_left; focus (first | omega | (simp <;> omega)))))
  generalize w.alloc (.cells #[.int .i64 kd, .int .u32 seed, .int .i64 cell, .int .i64 (n : Int), .float .f32 g] 25) = W0 at *
  go_loopw [5, 6, 7, 10] (fun s a _ i wr => ∃ k : Nat, k ≤ n ∧ i = .int .i64 (k : Int) ∧ s = .float .f32 (octS g ψ k) ∧ a = .float .f32 (octA g k) ∧ Below w.heap.size w wr ∧ Blk wr w.heap.size #[.int .i64 kd, .int .u32 seed, .int .i64 cell, .int .i64 (n : Int), .float .f32 g] 25) (fun _ _ _ i _ => n - (intOf i).toNat)
  case atStart => exact ⟨0, by omega, rfl, rfl, rfl, B0, A0⟩
  case round =>
    obtain ⟨k, hk, rfl, rfl, rfl, B, A⟩ := hrel
    have HB := Lib.hid B
    have HA := Lib.hid A
    clear B A A0 B0
    by_cases hlt : k < n
    · have HC := Lib.hid (HF.out k hlt wr HB.out)
      have k1 := fun w' => run_float_arith (P := Tryz.prog) w' .mul 23 .f32 _ _ _ (bits_mul (HK.out.fa k) (HK.out.fn k hlt))
      have k2 := fun w' => run_float_arith (P := Tryz.prog) w' .add 23 .f32 _ _ _ (bits_add (HK.out.fs k hk) (HK.out.fp k hlt))
      have k3 := fun w' => run_float_arith (P := Tryz.prog) w' .mul 23 .f32 _ _ _ (bits_mul (HK.out.fa k) HK.out.fg)
      have e1 : octS g ψ (k + 1) = addF (octS g ψ k) (mulF (octA g k) (ψ k)) := rfl
      have e2 : octA g (k + 1) = mulF (octA g k) g := rfl
      rw [← e1] at k2
      rw [← e2] at k3
      clear e1 e2
      generalize hz1 : octS g ψ (k + 1) = z1 at *
      generalize hz2 : octA g (k + 1) = z2 at *
      have HZ1 := Lib.hid hz1
      have HZ2 := Lib.hid hz2
      clear hz1 hz2
      generalize octS g ψ k = z3 at *
      generalize octA g k = z4 at *
      generalize mulF z4 (ψ k) = z5 at *
      generalize ψ k = z6 at *
      have kl : (k : Int) < (n : Int) := by omega
      have kw : IntKind.i64.wrap ((k : Int) + 1) = ((k + 1 : Nat) : Int) := IntWalk.i64_in _ (by omega)
      go_wp2_with fail
      refine HC.out.mono ?_
      rintro e w1 ⟨rfl, b1⟩
      have HB1 := Lib.hid (HB.out.trans (b1.mono HB.out.size))
      have HA1 := Lib.hid (HA.out.below b1 HA.out.lt)
      have p4 := HA1.out.cell 4
      simp at p4
      have l4 := HA1.out.lt
      clear b1 HB HA
      go_wp2_with fail
      go_round
      case rel => exact ⟨k + 1, hlt, by go_num, by rw [HZ1.out], by rw [HZ2.out], HB1.out, HA1.out⟩
      case measure => simp [intOf]; omega
    · obtain rfl : k = n := by omega
      have kl : ¬ (k : Int) < (k : Int) := by omega
      go_wp2_with fail
      go_ret
      exact ⟨rfl, HB.out⟩
end Go.Proofs.YtkmcinibaffpmaaGreat

namespace Go.Proofs.YtkmcinibaffpmaaGreat
open Go.ChangeShapes Go.WideShapes Go.ChangeAt Go.RowKit
open Ieee.Format (fin finE htE allFin allHt all_true all_false mulF subF addF Ht Bd divF rootF floorF easeF mixF)
set_option linter.unusedVariables false
open Wide
open Ieee.Format (octA octS Noisy)

def frC (kd seed cell n : Int) (g : Nat) : Array Value := #[.int .i64 kd, .int .u32 seed, .int .i64 cell, .int .i64 n, .float .f32 g]
set_option maxRecDepth 100000 in
set_option maxHeartbeats 1000000 in
theorem fracfn_any (kd seed cell n x y : Int) (g k : Nat) (p px py : Nat) (w : World) (hk : k < 10) (h1 : 1 ≤ cell) (h2 : cell ≤ 4096) (hx : -8388608 ≤ x) (hx2 : x ≤ 8388608) (hy : -8388608 ≤ y) (hy2 : y ≤ 8388608)
    (A : Blk w p (frC kd seed cell n g) 25) (Bx : Blk w px #[.int .i64 x] 3) (By : Blk w py #[.int .i64 y] 3) :
    Calls Tryz.prog 61 #[.int .i64 (k : Int), .pointer (some ⟨p, 0, none⟩), .pointer (some ⟨px, 0, none⟩), .pointer (some ⟨py, 0, none⟩)] w fun e w' => e = .returned (.float .f32 (octF kd seed cell x y k)) ∧ Below w.heap.size w w' := by
  have KO := Lib.hid (fun w => octave_any kd seed cell n x y g k w hk h1 h2 hx hx2 hy hy2)
  generalize octF kd seed cell x y k = r at *
  unfold frV at KO
  unfold frC at A
  have p0 := A.cell 0
  have p1 := A.cell 1
  have p2 := A.cell 2
  have p3 := A.cell 3
  have p4 := A.cell 4
  have q0 := Bx.cell 0
  have q1 := By.cell 0
  simp at p0 p1 p2 p3 p4 q0 q1
  have l0 := A.lt
  have l1 := Bx.lt
  have l2 := By.lt
  clear A Bx By h1 h2 hx hx2 hy hy2 hk
  go_enter Tryz.func61, Tryz.ntmps61
  go_wp2_with fail
  refine (KO.out _).mono ?_
  rintro e w1 ⟨rfl, b1⟩
  have HB := Lib.hid b1
  clear b1
  go_wp2_with fail
  go_ret
  exact ⟨rfl, HB.out⟩
set_option maxRecDepth 100000 in
set_option maxHeartbeats 1000000 in
theorem fractal_any (kd seed cell x y : Int) (n g : Nat) (w : World) (hn : n ≤ 10) (hg : Share g) (h1 : 1 ≤ cell) (h2 : cell ≤ 4096) (hx : -8388608 ≤ x) (hx2 : x ≤ 8388608) (hy : -8388608 ≤ y) (hy2 : y ≤ 8388608) :
    Calls Tryz.prog 45 #[frV kd seed cell n g, .int .i64 x, .int .i64 y] w fun e w' => e = .returned (.float .f32 (fracF kd seed cell n g x y)) ∧ Below w.heap.size w w' := by
  obtain ⟨b1, b2, b3⟩ := bndF_ok kd
  obtain ⟨ok, _⟩ := oct_ok (octF kd seed cell x y) hg.1 hg.2.1 hg.2.2 b1 b2 b3 hn (fun k _ => octF_noisy kd seed cell x y k h1 h2)
  have KF := Lib.hid (fun p px py w (A : Blk w p (frC kd seed cell n g) 25) (Bx : Blk w px #[.int .i64 x] 3) (By : Blk w py #[.int .i64 y] 3) =>
    octaves_any 61 #[.pointer (some ⟨p, 0, none⟩), .pointer (some ⟨px, 0, none⟩), .pointer (some ⟨py, 0, none⟩)] (octF kd seed cell x y) kd seed cell n g w hn ok (enters_of Tryz.func61 (by kernel_rfl) rfl)
      (fun k hk W' hb => (by have h := fracfn_any kd seed cell n x y g k p px py W' (by omega) h1 h2 hx hx2 hy hy2 (A.below hb A.lt) (Bx.below hb Bx.lt) (By.below hb By.lt); exact h)))
  clear ok b1 b2 b3 hg h1 h2 hx hx2 hy hy2 hn
  unfold fracF
  generalize octS g (octF kd seed cell x y) n = r at *
  unfold frV frC at *
  generalize hW0 : ((w.alloc (.cells #[.int .i64 kd, .int .u32 seed, .int .i64 cell, .int .i64 (n : Int), .float .f32 g] 25)).alloc (.cells #[.int .i64 x] 3)).alloc (.cells #[.int .i64 y] 3) = W0
  have A0 : Blk W0 w.heap.size #[.int .i64 kd, .int .u32 seed, .int .i64 cell, .int .i64 (n : Int), .float .f32 g] 25 := by subst hW0; exact ((Blk.new _ _ _).alloc _).alloc _
  have A1 : Blk W0 (w.heap.size + 1) #[.int .i64 x] 3 := by
    subst hW0
    have := (Blk.new (w.alloc (.cells #[.int .i64 kd, .int .u32 seed, .int .i64 cell, .int .i64 (n : Int), .float .f32 g] 25)) #[.int .i64 x] 3).alloc (.cells #[.int .i64 y] 3)
    simpa using this
  have A2 : Blk W0 (w.heap.size + 1 + 1) #[.int .i64 y] 3 := by
    subst hW0
    have := Blk.new ((w.alloc (.cells #[.int .i64 kd, .int .u32 seed, .int .i64 cell, .int .i64 (n : Int), .float .f32 g] 25)).alloc (.cells #[.int .i64 x] 3)) #[.int .i64 y] 3
    simpa using this
  have B0 : Below w.heap.size w W0 := by subst hW0; exact (by repeat (first | with_reducible exact Below.refl _ _ | with_reducible apply Below.drew | with_reducible refine below_drewN ?_ _ | (with_reducible refine Below.setCell ?_ ?_ _; rotate_left; focus (first | omega | (simp <;> omega))) | (with_reducible refine Below.alloc ?_ ?_ _; rotate_left; focus (first | omega | (simp <;> omega)))))
  have HW0 := Lib.hid hW0
  clear hW0
  have KF1 := Lib.hid (KF.out _ _ _ _ A0 A1 A2)
  have p0 := A0.cell 0
  have p1 := A0.cell 1
  have p2 := A0.cell 2
  have p3 := A0.cell 3
  have p4 := A0.cell 4
  simp at p0 p1 p2 p3 p4
  have l0 := A0.lt
  have HB0 := Lib.hid B0
  clear A0 A1 A2 B0 KF
  go_enter Tryz.func45, Tryz.ntmps45
  go_upto_region 1 with fail
  rw [HW0.out]
  go_wp2_with fail
  refine KF1.out.mono ?_
  rintro e w1 ⟨rfl, b1⟩
  have HB := Lib.hid (HB0.out.trans (b1.mono HB0.out.size))
  clear b1
  go_wp2_with fail
  go_ret
  exact ⟨rfl, HB.out⟩
end Go.Proofs.YtkmcinibaffpmaaGreat

namespace Go.Proofs.YtkmcinibaffpmaaGreat
open Go.ChangeShapes Go.WideShapes Go.ChangeAt Go.RowKit
open Ieee.Format (fin finE htE allFin allHt all_true all_false mulF subF addF Ht Bd divF rootF floorF easeF mixF)
set_option linter.unusedVariables false
open Wide

theorem shareE_two (t : Nat) : shareE2 t 1065353216 = shareE t := by
  unfold shareE2 shareE
  by_cases hf : fin Ieee.single t
  · rw [if_pos hf]
    by_cases ht : htE [t] = 0
    · rw [if_neg (by omega)]
      cases lss t 0 <;> cases gtr t 1065353216 <;> rfl
    · rw [if_pos ht]
      have a1 : allFin [t] = true := by unfold allFin; simp [hf]
      have n1 : ¬ Ht t := fun hc => ht (Ieee.Format.htE_of_ht (Ieee.Format.allHt_iff.2 (by simpa using hc)))
      have h3 : htE [t] = 3 := Ieee.Format.htE_far a1 (by cases hh : allHt [t]; rfl; exact absurd (Ieee.Format.allHt_iff.1 hh t (by simp)) n1)
      rw [h3]
      cases h : (lss t 0 || gtr t 1065353216) with
      | true => rfl
      | false =>
        exfalso
        obtain ⟨_, b1, b2⟩ := share_of hf h
        have p := Ieee.P2_mono (show (0 : Int) ≤ 20 by omega)
        rw [Ieee.P2_zero] at p
        exact n1 (Ieee.Format.Ht.of ⟨by grind, by grind⟩)
  · rw [if_neg hf]
    have h0 : htE [t] = 2 := Ieee.Format.htE_bad (by unfold allFin; simp [hf])
    rw [h0]; rfl
theorem shareE_zero {t : Nat} (h : shareE t = 0) : Share t := by
  unfold shareE at h
  by_cases hf : fin Ieee.single t
  · rw [if_pos hf] at h
    cases hl : (lss t 0 || gtr t 1065353216) with
    | true => rw [hl] at h; simp at h
    | false => exact share_of hf hl
  · rw [if_neg hf] at h; omega
/-- the error of a fractal -/
def frE (kd cell n : Int) (g : Nat) : Int := if kd < 1 ∨ kd > 4 then 1 else if cell < 1 ∨ cell > 4096 ∨ n < 1 ∨ n > 10 then 3 else shareE g
theorem frE_zero {kd cell n : Int} {g : Nat} (h : frE kd cell n g = 0) : (1 ≤ kd ∧ kd ≤ 4) ∧ (1 ≤ cell ∧ cell ≤ 4096) ∧ (1 ≤ n ∧ n ≤ 10) ∧ Share g := by
  unfold frE at h
  split at h
  · omega
  · split at h
    · omega
    · exact ⟨by omega, by omega, by omega, shareE_zero h⟩
set_option maxRecDepth 100000 in
set_option maxHeartbeats 1000000 in
theorem frcheck_any (kd seed cell n : Int) (g : Nat) (hg : g < 4294967296) (w : World) :
    Calls Tryz.prog 18 #[frV kd seed cell n g] w fun e w' => e = .returned (.int .i64 (frE kd cell n g)) ∧ Below w.heap.size w w' := by
  have KS := Lib.hid (fun w => share_any g hg w)
  try rw [shareE_two] at KS
  unfold frE frV
  clear hg
  generalize shareE g = s at *
  by_cases a1 : kd < 1
  · simp only [a1, true_or, if_true]
    go_enter Tryz.func18, Tryz.ntmps18
    go_wp2_with fail
    go_ret
    exact ⟨rfl, (by repeat (first | with_reducible exact Below.refl _ _ | with_reducible apply Below.drew | with_reducible refine below_drewN ?_ _ | (with_reducible refine Below.setCell ?_ ?_ _; rotate_left; focus (first | omega | (simp <;> omega))) | (with_reducible refine Below.alloc ?_ ?_ _; rotate_left; focus (first | omega | (simp <;> omega)))))⟩
  · by_cases a2 : kd > 4
    · simp only [a1, a2, false_or, if_true]
      go_enter Tryz.func18, Tryz.ntmps18
      go_wp2_with fail
      go_ret
      exact ⟨rfl, (by repeat (first | with_reducible exact Below.refl _ _ | with_reducible apply Below.drew | with_reducible refine below_drewN ?_ _ | (with_reducible refine Below.setCell ?_ ?_ _; rotate_left; focus (first | omega | (simp <;> omega))) | (with_reducible refine Below.alloc ?_ ?_ _; rotate_left; focus (first | omega | (simp <;> omega)))))⟩
    · simp only [a1, a2, or_self, if_false]
      by_cases a3 : cell < 1
      · simp only [a3, true_or, if_true]
        go_enter Tryz.func18, Tryz.ntmps18
        go_wp2_with fail
        go_ret
        exact ⟨rfl, (by repeat (first | with_reducible exact Below.refl _ _ | with_reducible apply Below.drew | with_reducible refine below_drewN ?_ _ | (with_reducible refine Below.setCell ?_ ?_ _; rotate_left; focus (first | omega | (simp <;> omega))) | (with_reducible refine Below.alloc ?_ ?_ _; rotate_left; focus (first | omega | (simp <;> omega)))))⟩
      · by_cases a4 : cell > 4096
        · simp only [a3, a4, false_or, true_or, if_true]
          go_enter Tryz.func18, Tryz.ntmps18
          go_wp2_with fail
          go_ret
          exact ⟨rfl, (by repeat (first | with_reducible exact Below.refl _ _ | with_reducible apply Below.drew | with_reducible refine below_drewN ?_ _ | (with_reducible refine Below.setCell ?_ ?_ _; rotate_left; focus (first | omega | (simp <;> omega))) | (with_reducible refine Below.alloc ?_ ?_ _; rotate_left; focus (first | omega | (simp <;> omega)))))⟩
        · by_cases a5 : n < 1
          · simp only [a3, a4, a5, false_or, true_or, if_true]
            go_enter Tryz.func18, Tryz.ntmps18
            go_wp2_with fail
            go_ret
            exact ⟨rfl, (by repeat (first | with_reducible exact Below.refl _ _ | with_reducible apply Below.drew | with_reducible refine below_drewN ?_ _ | (with_reducible refine Below.setCell ?_ ?_ _; rotate_left; focus (first | omega | (simp <;> omega))) | (with_reducible refine Below.alloc ?_ ?_ _; rotate_left; focus (first | omega | (simp <;> omega)))))⟩
          · by_cases a6 : n > 10
            · simp only [a3, a4, a5, a6, false_or, if_true]
              go_enter Tryz.func18, Tryz.ntmps18
              go_wp2_with fail
              go_ret
              exact ⟨rfl, (by repeat (first | with_reducible exact Below.refl _ _ | with_reducible apply Below.drew | with_reducible refine below_drewN ?_ _ | (with_reducible refine Below.setCell ?_ ?_ _; rotate_left; focus (first | omega | (simp <;> omega))) | (with_reducible refine Below.alloc ?_ ?_ _; rotate_left; focus (first | omega | (simp <;> omega)))))⟩
            · simp only [a3, a4, a5, a6, or_self, if_false]
              go_enter Tryz.func18, Tryz.ntmps18
              go_wp2_with fail
              have b0 : Below w.heap.size w (w.alloc (.cells #[.int .i64 kd, .int .u32 seed, .int .i64 cell, .int .i64 n, .float .f32 g] 25)) := (by repeat (first | with_reducible exact Below.refl _ _ | with_reducible apply Below.drew | with_reducible refine below_drewN ?_ _ | (with_reducible refine Below.setCell ?_ ?_ _; rotate_left; focus (first | omega | (simp <;> omega))) | (with_reducible refine Below.alloc ?_ ?_ _; rotate_left; focus (first | omega | (simp <;> omega)))))
              refine (KS.out _).mono ?_
              rintro e w1 ⟨rfl, b1⟩
              have HB := Lib.hid (b0.trans (b1.mono b0.size))
              clear b0 b1
              go_wp2_with fail
              go_ret
              exact ⟨rfl, HB.out⟩
set_option maxRecDepth 100000 in
set_option maxHeartbeats 1000000 in
theorem refrcheck_any (kd seed cell n : Int) (g : Nat) (hg : g < 4294967296) (w : World) :
    Calls Tryz.prog 16 #[frV kd seed cell n g] w fun e w' => e = .returned (.int .i64 (frE kd cell n g)) ∧ Below w.heap.size w w' := by
  have KS := Lib.hid (fun w => refshare_any g 1065353216 hg w)
  try rw [shareE_two] at KS
  unfold frE frV
  clear hg
  generalize shareE g = s at *
  by_cases a1 : kd < 1
  · simp only [a1, true_or, if_true]
    go_enter Tryz.func16, Tryz.ntmps16
    go_wp2_with fail
    go_ret
    exact ⟨rfl, (by repeat (first | with_reducible exact Below.refl _ _ | with_reducible apply Below.drew | with_reducible refine below_drewN ?_ _ | (with_reducible refine Below.setCell ?_ ?_ _; rotate_left; focus (first | omega | (simp <;> omega))) | (with_reducible refine Below.alloc ?_ ?_ _; rotate_left; focus (first | omega | (simp <;> omega)))))⟩
  · by_cases a2 : kd > 4
    · simp only [a1, a2, false_or, if_true]
      go_enter Tryz.func16, Tryz.ntmps16
      go_wp2_with fail
      go_ret
      exact ⟨rfl, (by repeat (first | with_reducible exact Below.refl _ _ | with_reducible apply Below.drew | with_reducible refine below_drewN ?_ _ | (with_reducible refine Below.setCell ?_ ?_ _; rotate_left; focus (first | omega | (simp <;> omega))) | (with_reducible refine Below.alloc ?_ ?_ _; rotate_left; focus (first | omega | (simp <;> omega)))))⟩
    · simp only [a1, a2, or_self, if_false]
      by_cases a3 : cell < 1
      · simp only [a3, true_or, if_true]
        go_enter Tryz.func16, Tryz.ntmps16
        go_wp2_with fail
        go_ret
        exact ⟨rfl, (by repeat (first | with_reducible exact Below.refl _ _ | with_reducible apply Below.drew | with_reducible refine below_drewN ?_ _ | (with_reducible refine Below.setCell ?_ ?_ _; rotate_left; focus (first | omega | (simp <;> omega))) | (with_reducible refine Below.alloc ?_ ?_ _; rotate_left; focus (first | omega | (simp <;> omega)))))⟩
      · by_cases a4 : cell > 4096
        · simp only [a3, a4, false_or, true_or, if_true]
          go_enter Tryz.func16, Tryz.ntmps16
          go_wp2_with fail
          go_ret
          exact ⟨rfl, (by repeat (first | with_reducible exact Below.refl _ _ | with_reducible apply Below.drew | with_reducible refine below_drewN ?_ _ | (with_reducible refine Below.setCell ?_ ?_ _; rotate_left; focus (first | omega | (simp <;> omega))) | (with_reducible refine Below.alloc ?_ ?_ _; rotate_left; focus (first | omega | (simp <;> omega)))))⟩
        · by_cases a5 : n < 1
          · simp only [a3, a4, a5, false_or, true_or, if_true]
            go_enter Tryz.func16, Tryz.ntmps16
            go_wp2_with fail
            go_ret
            exact ⟨rfl, (by repeat (first | with_reducible exact Below.refl _ _ | with_reducible apply Below.drew | with_reducible refine below_drewN ?_ _ | (with_reducible refine Below.setCell ?_ ?_ _; rotate_left; focus (first | omega | (simp <;> omega))) | (with_reducible refine Below.alloc ?_ ?_ _; rotate_left; focus (first | omega | (simp <;> omega)))))⟩
          · by_cases a6 : n > 10
            · simp only [a3, a4, a5, a6, false_or, if_true]
              go_enter Tryz.func16, Tryz.ntmps16
              go_wp2_with fail
              go_ret
              exact ⟨rfl, (by repeat (first | with_reducible exact Below.refl _ _ | with_reducible apply Below.drew | with_reducible refine below_drewN ?_ _ | (with_reducible refine Below.setCell ?_ ?_ _; rotate_left; focus (first | omega | (simp <;> omega))) | (with_reducible refine Below.alloc ?_ ?_ _; rotate_left; focus (first | omega | (simp <;> omega)))))⟩
            · simp only [a3, a4, a5, a6, or_self, if_false]
              go_enter Tryz.func16, Tryz.ntmps16
              go_wp2_with fail
              have b0 : Below w.heap.size w (w.alloc (.cells #[.int .i64 kd, .int .u32 seed, .int .i64 cell, .int .i64 n, .float .f32 g] 25)) := (by repeat (first | with_reducible exact Below.refl _ _ | with_reducible apply Below.drew | with_reducible refine below_drewN ?_ _ | (with_reducible refine Below.setCell ?_ ?_ _; rotate_left; focus (first | omega | (simp <;> omega))) | (with_reducible refine Below.alloc ?_ ?_ _; rotate_left; focus (first | omega | (simp <;> omega)))))
              refine (KS.out _).mono ?_
              rintro e w1 ⟨rfl, b1⟩
              have HB := Lib.hid (b0.trans (b1.mono b0.size))
              clear b0 b1
              go_wp2_with fail
              go_ret
              exact ⟨rfl, HB.out⟩
end Go.Proofs.YtkmcinibaffpmaaGreat

namespace Go.Proofs.YtkmcinibaffpmaaGreat
open Go.ChangeShapes Go.WideShapes Go.ChangeAt Go.RowKit
open Ieee.Format (fin finE htE allFin allHt all_true all_false mulF subF addF Ht Bd divF rootF floorF easeF mixF)
set_option linter.unusedVariables false
open Wide
open Ieee.Format (bits_sub bits_mul bits_add octA octS const_1)

theorem gradF_lt (seed x y c : Int) : gradF seed x y c < 4294967296 := by unfold gradF latF mixF; exact Ieee.Format.addF_lt _ _
set_option maxRecDepth 100000 in
set_option maxHeartbeats 2000000 in
theorem reffractal_any (kd seed cell x y : Int) (n g : Nat) (w : World) (hn : n ≤ 10) (hg : Share g) (h1 : 1 ≤ cell) (h2 : cell ≤ 4096) (hx : -8388608 ≤ x) (hx2 : x ≤ 8388608) (hy : -8388608 ≤ y) (hy2 : y ≤ 8388608) :
    Calls Tryz.prog 48 #[frV kd seed cell n g, .int .i64 x, .int .i64 y] w fun e w' => e = .returned (.float .f32 (fracF kd seed cell n g x y)) ∧ Below w.heap.size w w' := by
  obtain ⟨b1, b2, b3⟩ := bndF_ok kd
  obtain ⟨ok, _⟩ := oct_ok (octF kd seed cell x y) hg.1 hg.2.1 hg.2.2 b1 b2 b3 hn (fun k _ => octF_noisy kd seed cell x y k h1 h2)
  have HK := Lib.hid ok
  have HC := Lib.hid (fun k => octC_bd h1 h2 k)
  have HX := Lib.hid (And.intro hx (And.intro hx2 (And.intro hy hy2)))
  clear ok b1 b2 b3 hg h1 h2 hx hx2 hy hy2
  unfold fracF frV
  go_enter Tryz.func48, Tryz.ntmps48
  go_wp2_with fail
  have A0 := Blk.new w #[.int .i64 kd, .int .u32 seed, .int .i64 cell, .int .i64 (n : Int), .float .f32 g] 25
  have B0 : Below w.heap.size w (w.alloc (.cells #[.int .i64 kd, .int .u32 seed, .int .i64 cell, .int .i64 (n : Int), .float .f32 g] 25)) := (by repeat (first | with_reducible exact Below.refl _ _ | with_reducible apply Below.drew | with_reducible refine below_drewN ?_ _ | (with_reducible refine Below.setCell ?_ ?_ _; rotate_left; focus (first | omega | (simp <;> omega))) | (with_reducible refine Below.alloc ?_ ?_ _; rotate_left; focus (first | omega | (simp <;> omega)))))
  generalize w.alloc (.cells #[.int .i64 kd, .int .u32 seed, .int .i64 cell, .int .i64 (n : Int), .float .f32 g] 25) = W0 at *
  go_loopw [7, 8, 9, 10, 11, 12, 15, 36, 43, 50] (fun s a _ _ _ _ i _ _ _ wr => ∃ k : Nat, k ≤ n ∧ i = .int .i64 (k : Int) ∧ s = .float .f32 (octS g (octF kd seed cell x y) k) ∧ a = .float .f32 (octA g k) ∧ Below w.heap.size w wr ∧ Blk wr w.heap.size #[.int .i64 kd, .int .u32 seed, .int .i64 cell, .int .i64 (n : Int), .float .f32 g] 25) (fun _ _ _ _ _ _ i _ _ _ _ => n - (intOf i).toNat)
  case atStart => exact ⟨0, by omega, rfl, rfl, rfl, B0, A0⟩
  case round =>
    obtain ⟨k, hk, rfl, rfl, rfl, B, A⟩ := hrel
    have HB := Lib.hid B
    have HA := Lib.hid A
    clear B A A0 B0
    by_cases hlt : k < n
    · have KM1 := Lib.hid (fun w => ref_mul_ok (octA g k) (octF kd seed cell x y k) w (HK.out.fa k) (HK.out.fn k hlt) (HK.out.fp k hlt))
      have KA1 := Lib.hid (fun w => ref_add_ok (octS g (octF kd seed cell x y) k) (mulF (octA g k) (octF kd seed cell x y k)) w (HK.out.fs k hk) (HK.out.fp k hlt) (HK.out.fs (k + 1) hlt))
      have KM2 := Lib.hid (fun w => ref_mul_ok (octA g k) g w (HK.out.fa k) HK.out.fg (HK.out.fa (k + 1)))
      obtain ⟨c1, c2⟩ := HC.out k
      obtain ⟨hx, hx2, hy, hy2⟩ := HX.out
      have KH := Lib.hid (fun w => hash2_bel seed (k : Int) 0 4 w)
      have KV := Lib.hid (fun w => refvalue_any (hashTo seed (k : Int) 0 4 3) x y (octC cell k) w hx hx2 hy hy2 c1 c2)
      have KG := Lib.hid (fun w => refgradient_any (hashTo seed (k : Int) 0 4 3) x y (octC cell k) w hx hx2 hy hy2 c1 c2)
      have KC := Lib.hid (fun w => refcells_any (hashTo seed (k : Int) 0 4 3) x y (octC cell k) w hx hx2 hy hy2 c1 c2)
      obtain ⟨f1, f2, _⟩ := ridge_ok (gradF_wi (hashTo seed (k : Int) 0 4 3) x y (octC cell k) c1 c2)
      have KMG := Lib.hid (fun w => refabs_any (gradF (hashTo seed (k : Int) 0 4 3) x y (octC cell k)) (gradF_lt _ _ _ _) w)
      change Hid (∀ w, Calls Tryz.prog 54 #[.float .f32 (gradF (hashTo seed (k : Int) 0 4 3) x y (octC cell k))] w fun e w' => e = .returned (.float .f32 (mag (gradF (hashTo seed (k : Int) 0 4 3) x y (octC cell k)))) ∧ w = w') at KMG
      have KSB := Lib.hid (fun w => ref_sub_ok 1065353216 (mag (gradF (hashTo seed (k : Int) 0 4 3) x y (octC cell k))) w const_1.1 f1 f2)
      have e1 : octS g (octF kd seed cell x y) (k + 1) = addF (octS g (octF kd seed cell x y) k) (mulF (octA g k) (octF kd seed cell x y k)) := rfl
      have e2 : octA g (k + 1) = mulF (octA g k) g := rfl
      rw [← e1] at KA1
      rw [← e2] at KM2
      have e6 : octF kd seed cell x y k = (if kd = 1 then valF (hashTo seed (k : Int) 0 4 3) x y (octC cell k) else if kd = 2 then gradF (hashTo seed (k : Int) 0 4 3) x y (octC cell k) else if kd = 3 then nearF (hashTo seed (k : Int) 0 4 3) x y (octC cell k) else subF 1065353216 (mag (gradF (hashTo seed (k : Int) 0 4 3) x y (octC cell k)))) := rfl
      have HE6 := Lib.hid e6
      clear e1 e2 e6 f1 f2 c1 c2 hx hx2 hy hy2
      generalize hz1 : octS g (octF kd seed cell x y) (k + 1) = z1 at *
      generalize hz2 : octA g (k + 1) = z2 at *
      have HZ1 := Lib.hid hz1
      have HZ2 := Lib.hid hz2
      clear hz1 hz2
      generalize octS g (octF kd seed cell x y) k = z3 at *
      generalize octA g k = z4 at *
      generalize mulF z4 (octF kd seed cell x y k) = z5 at *
      have kl : (k : Int) < (n : Int) := by omega
      have kw : IntKind.i64.wrap ((k : Int) + 1) = ((k + 1 : Nat) : Int) := IntWalk.i64_in _ (by omega)
      have hk0 : (0 : Int) ≤ (k : Int) := by omega
      have hk1 : (k : Int) ≤ 64 := by omega
      have ht : ((k : Int)).toNat = k := by simp
      unfold octC at *
      generalize octF kd seed cell x y k = z6 at *
      generalize hashTo seed (k : Int) 0 4 3 = s at *
      generalize hq : cell / 2 ^ k = q at *
      generalize valF s x y (max q 1) = v1 at *
      generalize gradF s x y (max q 1) = v2 at *
      generalize nearF s x y (max q 1) = v3 at *
      generalize nextF s x y (max q 1) = v4 at *
      generalize atP s x y (max q 1) = v5 at *
      obtain ⟨px, py⟩ := v5
      unfold ptV at KC
      generalize mag v2 = v6 at *
      generalize subF 1065353216 v6 = v7 at *
      have p0 := HA.out.cell 0
      have p1 := HA.out.cell 1
      have p2 := HA.out.cell 2
      simp at p0 p1 p2
      have l0 := HA.out.lt
      by_cases a1 : kd = 1
      · have e6 := HE6.out
        rw [if_pos a1] at e6
        subst e6
        clear HE6 KG KC KMG KSB
        subst a1
        go_wp2_with fail
        go_region_held3 (fun w' => w'.cell? ⟨w.heap.size, 0, none⟩ = some (.int .i64 1) ∧ w'.cell? ⟨w.heap.size, 1, none⟩ = some (.int .u32 seed) ∧ w'.cell? ⟨w.heap.size, 2, none⟩ = some (.int .i64 cell) ∧ Below wr.heap.size wr w')
          (first
            | exact ⟨p0, p1, p2, (Below.refl _ _).drew⟩
            | (go_split_ands
               have hs := hb.size
               have hs2 := (show Below wr.heap.size wr _ by assumption).size
               refine ⟨?_, ?_, ?_, ?_⟩
               all_goals first
                 | (rw [hb.cell (by simp; omega)]; assumption)
                 | exact Below.trans (by assumption) (hb.mono (by omega)))
            | (go_split_ands; refine ⟨?_, ?_, ?_, ?_⟩ <;> assumption))
          (first
            | (go_at_call 49; go_split_ands; refine (KH.out _).mono ?_; rintro e2 w2 ⟨rfl, hb⟩))
        all_goals
          rename_i hHeld
          have HB1 := Lib.hid (HB.out.trans (hHeld.2.2.2.mono HB.out.size))
          have HA1 := Lib.hid (HA.out.below hHeld.2.2.2 HA.out.lt)
          clear hHeld HB HA p0 p1 p2 l0
          have p0 := HA1.out.cell 0
          have p4 := HA1.out.cell 4
          simp at p0 p4
          have l0 := HA1.out.lt
          generalize max q 1 = m at *
          go_wp2_with fail
          refine (KV.out _).mono ?_
          rintro e w3 ⟨rfl, b3⟩
          have HB3 := Lib.hid (HB1.out.trans (b3.mono HB1.out.size))
          have HA3 := Lib.hid (HA1.out.below b3 HA1.out.lt)
          clear b3 HB1 HA1 p0 p4 l0
          have p4 := HA3.out.cell 4
          simp at p4
          have l0 := HA3.out.lt
          go_wp2_with fail
          refine (KM1.out _).mono ?_
          rintro e w4 ⟨rfl, rfl⟩
          go_wp2_with fail
          refine (KA1.out _).mono ?_
          rintro e w4 ⟨rfl, rfl⟩
          go_wp2_with fail
          refine (KM2.out _).mono ?_
          rintro e w4 ⟨rfl, rfl⟩
          go_wp2_with fail
          go_round
          case rel => exact ⟨k + 1, hlt, by go_num, by rw [HZ1.out], by rw [HZ2.out], HB3.out, HA3.out⟩
          case measure => simp [intOf]; omega
      · by_cases a2 : kd = 2
        · have e6 := HE6.out
          rw [if_neg a1, if_pos a2] at e6
          subst e6
          clear HE6 KV KC KMG KSB
          subst a2
          go_wp2_with fail
          go_region_held3 (fun w' => w'.cell? ⟨w.heap.size, 0, none⟩ = some (.int .i64 2) ∧ w'.cell? ⟨w.heap.size, 1, none⟩ = some (.int .u32 seed) ∧ w'.cell? ⟨w.heap.size, 2, none⟩ = some (.int .i64 cell) ∧ Below wr.heap.size wr w')
            (first
              | exact ⟨p0, p1, p2, (Below.refl _ _).drew⟩
              | (go_split_ands
                 have hs := hb.size
                 have hs2 := (show Below wr.heap.size wr _ by assumption).size
                 refine ⟨?_, ?_, ?_, ?_⟩
                 all_goals first
                   | (rw [hb.cell (by simp; omega)]; assumption)
                   | exact Below.trans (by assumption) (hb.mono (by omega)))
              | (go_split_ands; refine ⟨?_, ?_, ?_, ?_⟩ <;> assumption))
            (first
              | (go_at_call 49; go_split_ands; refine (KH.out _).mono ?_; rintro e2 w2 ⟨rfl, hb⟩))
          all_goals
            rename_i hHeld
            have HB1 := Lib.hid (HB.out.trans (hHeld.2.2.2.mono HB.out.size))
            have HA1 := Lib.hid (HA.out.below hHeld.2.2.2 HA.out.lt)
            clear hHeld HB HA p0 p1 p2 l0
            have p0 := HA1.out.cell 0
            have p4 := HA1.out.cell 4
            simp at p0 p4
            have l0 := HA1.out.lt
            generalize max q 1 = m at *
            go_wp2_with fail
            refine (KG.out _).mono ?_
            rintro e w3 ⟨rfl, b3⟩
            have HB3 := Lib.hid (HB1.out.trans (b3.mono HB1.out.size))
            have HA3 := Lib.hid (HA1.out.below b3 HA1.out.lt)
            clear b3 HB1 HA1 p0 p4 l0
            have p4 := HA3.out.cell 4
            simp at p4
            have l0 := HA3.out.lt
            go_wp2_with fail
            refine (KM1.out _).mono ?_
            rintro e w4 ⟨rfl, rfl⟩
            go_wp2_with fail
            refine (KA1.out _).mono ?_
            rintro e w4 ⟨rfl, rfl⟩
            go_wp2_with fail
            refine (KM2.out _).mono ?_
            rintro e w4 ⟨rfl, rfl⟩
            go_wp2_with fail
            go_round
            case rel => exact ⟨k + 1, hlt, by go_num, by rw [HZ1.out], by rw [HZ2.out], HB3.out, HA3.out⟩
            case measure => simp [intOf]; omega
        · by_cases a3 : kd = 3
          · have e6 := HE6.out
            rw [if_neg a1, if_neg a2, if_pos a3] at e6
            subst e6
            clear HE6 KV KG KMG KSB
            subst a3
            go_wp2_with fail
            go_region_held3 (fun w' => w'.cell? ⟨w.heap.size, 0, none⟩ = some (.int .i64 3) ∧ w'.cell? ⟨w.heap.size, 1, none⟩ = some (.int .u32 seed) ∧ w'.cell? ⟨w.heap.size, 2, none⟩ = some (.int .i64 cell) ∧ Below wr.heap.size wr w')
              (first
                | exact ⟨p0, p1, p2, (Below.refl _ _).drew⟩
                | (go_split_ands
                   have hs := hb.size
                   have hs2 := (show Below wr.heap.size wr _ by assumption).size
                   refine ⟨?_, ?_, ?_, ?_⟩
                   all_goals first
                     | (rw [hb.cell (by simp; omega)]; assumption)
                     | exact Below.trans (by assumption) (hb.mono (by omega)))
                | (go_split_ands; refine ⟨?_, ?_, ?_, ?_⟩ <;> assumption))
              (first
                | (go_at_call 49; go_split_ands; refine (KH.out _).mono ?_; rintro e2 w2 ⟨rfl, hb⟩))
            all_goals
              rename_i hHeld
              have HB1 := Lib.hid (HB.out.trans (hHeld.2.2.2.mono HB.out.size))
              have HA1 := Lib.hid (HA.out.below hHeld.2.2.2 HA.out.lt)
              clear hHeld HB HA p0 p1 p2 l0
              have p0 := HA1.out.cell 0
              have p4 := HA1.out.cell 4
              simp at p0 p4
              have l0 := HA1.out.lt
              generalize max q 1 = m at *
              go_wp2_with fail
              refine (KC.out _).mono ?_
              rintro e w3 ⟨rfl, b3⟩
              have HB3 := Lib.hid (HB1.out.trans (b3.mono HB1.out.size))
              have HA3 := Lib.hid (HA1.out.below b3 HA1.out.lt)
              clear b3 HB1 HA1 p0 p4 l0
              have p4 := HA3.out.cell 4
              simp at p4
              have l0 := HA3.out.lt
              go_wp2_with fail
              refine (KM1.out _).mono ?_
              rintro e w4 ⟨rfl, rfl⟩
              go_wp2_with fail
              refine (KA1.out _).mono ?_
              rintro e w4 ⟨rfl, rfl⟩
              go_wp2_with fail
              refine (KM2.out _).mono ?_
              rintro e w4 ⟨rfl, rfl⟩
              go_wp2_with fail
              go_round
              case rel => exact ⟨k + 1, hlt, by go_num, by rw [HZ1.out], by rw [HZ2.out], HB3.out, HA3.out⟩
              case measure => simp [intOf]; omega
          · have e6 := HE6.out
            rw [if_neg a1, if_neg a2, if_neg a3] at e6
            subst e6
            clear HE6 KV KC
            go_wp2_with fail
            go_region_held3 (fun w' => w'.cell? ⟨w.heap.size, 0, none⟩ = some (.int .i64 kd) ∧ w'.cell? ⟨w.heap.size, 1, none⟩ = some (.int .u32 seed) ∧ w'.cell? ⟨w.heap.size, 2, none⟩ = some (.int .i64 cell) ∧ Below wr.heap.size wr w')
              (first
                | exact ⟨p0, p1, p2, (Below.refl _ _).drew⟩
                | (go_split_ands
                   have hs := hb.size
                   have hs2 := (show Below wr.heap.size wr _ by assumption).size
                   refine ⟨?_, ?_, ?_, ?_⟩
                   all_goals first
                     | (rw [hb.cell (by simp; omega)]; assumption)
                     | exact Below.trans (by assumption) (hb.mono (by omega)))
                | (go_split_ands; refine ⟨?_, ?_, ?_, ?_⟩ <;> assumption))
              (first
                | (go_at_call 49; go_split_ands; refine (KH.out _).mono ?_; rintro e2 w2 ⟨rfl, hb⟩))
            all_goals
              rename_i hHeld
              have HB1 := Lib.hid (HB.out.trans (hHeld.2.2.2.mono HB.out.size))
              have HA1 := Lib.hid (HA.out.below hHeld.2.2.2 HA.out.lt)
              clear hHeld HB HA p0 p1 p2 l0
              have p0 := HA1.out.cell 0
              have p4 := HA1.out.cell 4
              simp at p0 p4
              have l0 := HA1.out.lt
              generalize max q 1 = m at *
              go_wp2_with fail
              refine (KG.out _).mono ?_
              rintro e w3 ⟨rfl, b3⟩
              have HB3 := Lib.hid (HB1.out.trans (b3.mono HB1.out.size))
              have HA3 := Lib.hid (HA1.out.below b3 HA1.out.lt)
              clear b3 HB1 HA1 p0 p4 l0
              have p4 := HA3.out.cell 4
              simp at p4
              have l0 := HA3.out.lt
              go_wp2_with fail
              refine (KMG.out _).mono ?_
              rintro e w4 ⟨rfl, rfl⟩
              go_wp2_with fail
              refine (KSB.out _).mono ?_
              rintro e w4 ⟨rfl, rfl⟩
              go_wp2_with fail
              refine (KM1.out _).mono ?_
              rintro e w4 ⟨rfl, rfl⟩
              go_wp2_with fail
              refine (KA1.out _).mono ?_
              rintro e w4 ⟨rfl, rfl⟩
              go_wp2_with fail
              refine (KM2.out _).mono ?_
              rintro e w4 ⟨rfl, rfl⟩
              go_wp2_with fail
              go_round
              case rel => exact ⟨k + 1, hlt, by go_num, by rw [HZ1.out], by rw [HZ2.out], HB3.out, HA3.out⟩
              case measure => simp [intOf]; omega
    · obtain rfl : k = n := by omega
      have kl : ¬ (k : Int) < (k : Int) := by omega
      go_wp2_with fail
      go_ret
      exact ⟨rfl, HB.out⟩
end Go.Proofs.YtkmcinibaffpmaaGreat

namespace Go.Proofs.YtkmcinibaffpmaaGreat
open Go.ChangeShapes Go.WideShapes Go.ChangeAt Go.RowKit
open Ieee.Format (fin finE htE allFin allHt all_true all_false mulF subF addF Ht Bd divF rootF floorF easeF mixF)
set_option linter.unusedVariables false
open Wide
open Ieee.Format (bits_mul octA octS reachF const_1)

/-- the error of a fractal and a place -/
def frxE (kd cell n : Int) (g : Nat) (x y : Int) : Int := if frE kd cell n g = 0 then plP x y else frE kd cell n g
theorem plE_one (x y : Int) : plE x y 1 = plP x y := by
  by_cases h : plP x y = 0
  · rw [plE_in h, h]; rfl
  · exact plE_out h
theorem frE_nat {kd cell n : Int} {g : Nat} (h : frE kd cell n g = 0) : ∃ m : Nat, n = (m : Int) ∧ 1 ≤ m ∧ m ≤ 10 := by
  obtain ⟨_, _, h3, _⟩ := frE_zero h
  exact ⟨n.toNat, by omega, by omega, by omega⟩
set_option maxRecDepth 100000 in
theorem reachfn_any (b k : Nat) (p : Nat) (w : World) (hp : Blk w p #[.float .f32 b] 23) :
    Calls Tryz.prog 52 #[.int .i64 (k : Int), .pointer (some ⟨p, 0, none⟩)] w fun e w' => e = .returned (.float .f32 b) ∧ Below w.heap.size w w' := by
  have c0 := hp.cell 0
  simp at c0
  have l0 := hp.lt
  clear hp
  go_enter Tryz.func52, Tryz.ntmps52
  go_wp2_with fail
  go_ret
  exact ⟨rfl, (by repeat (first | with_reducible exact Below.refl _ _ | with_reducible apply Below.drew | with_reducible refine below_drewN ?_ _ | (with_reducible refine Below.setCell ?_ ?_ _; rotate_left; focus (first | omega | (simp <;> omega))) | (with_reducible refine Below.alloc ?_ ?_ _; rotate_left; focus (first | omega | (simp <;> omega)))))⟩
set_option maxRecDepth 100000 in
set_option maxHeartbeats 1000000 in
theorem reach_any (kd seed cell : Int) (n g : Nat) (w : World) (hn : n ≤ 10) (h1 : 1 ≤ n) (hg : Share g) :
    Calls Tryz.prog 25 #[frV kd seed cell n g] w fun e w' => e = .returned (.float .f32 (reachF g (bndF kd) n)) ∧ Below w.heap.size w w' := by
  obtain ⟨b1, b2, b3⟩ := bndF_ok kd
  obtain ⟨_, ok⟩ := oct_ok (b := bndF kd) (fun _ => bndF kd) hg.1 hg.2.1 hg.2.2 b1 b2 b3 hn (fun k _ => ⟨b1, by have := (Ieee.P2_pos (-19)); grind, by have := (Ieee.P2_pos (-19)); grind⟩)
  have k3 := fun w' => run_float_arith (P := Tryz.prog) w' .mul 23 .f32 _ _ _ (bits_mul (ok.fs n (Nat.le_refl _)) Ieee.Format.const_reach.1)
  have KF := Lib.hid (fun p w (A : Blk w p #[.float .f32 (bndF kd)] 23) =>
    octaves_any 52 #[.pointer (some ⟨p, 0, none⟩)] (fun _ => bndF kd) kd seed cell n g w hn ok (enters_of Tryz.func52 (by kernel_rfl) rfl)
      (fun k hk W' hb => (by have h := reachfn_any (bndF kd) k p W' (A.below hb A.lt); exact h)))
  unfold reachF
  clear ok b1 b2 b3 hg h1 hn
  generalize mulF (octS g (fun _ => bndF kd) n) 1065354055 = r at *
  generalize octS g (fun _ => bndF kd) n = s at *
  unfold bndF at KF
  unfold frV at *
  by_cases a1 : kd = 2
  · rw [if_pos a1] at KF
    subst a1
    go_enter Tryz.func25, Tryz.ntmps25
    go_upto_region 7 with fail
    generalize hW0 : (w.alloc (.cells #[.int .i64 2, .int .u32 seed, .int .i64 cell, .int .i64 (n : Int), .float .f32 g] 25)).alloc (.cells #[.float .f32 1073741824] 23) = W0
    have A0 : Blk W0 w.heap.size #[.int .i64 2, .int .u32 seed, .int .i64 cell, .int .i64 (n : Int), .float .f32 g] 25 := by subst hW0; exact (Blk.new _ _ _).alloc _
    have A1 : Blk W0 (w.heap.size + 1) #[.float .f32 1073741824] 23 := by
      subst hW0
      have := Blk.new (w.alloc (.cells #[.int .i64 2, .int .u32 seed, .int .i64 cell, .int .i64 (n : Int), .float .f32 g] 25)) #[.float .f32 1073741824] 23
      simpa using this
    have b0 : Below w.heap.size w W0 := by subst hW0; exact (by repeat (first | with_reducible exact Below.refl _ _ | with_reducible apply Below.drew | with_reducible refine below_drewN ?_ _ | (with_reducible refine Below.setCell ?_ ?_ _; rotate_left; focus (first | omega | (simp <;> omega))) | (with_reducible refine Below.alloc ?_ ?_ _; rotate_left; focus (first | omega | (simp <;> omega)))))
    have HB0 := Lib.hid b0
    have KF1 := Lib.hid (KF.out _ _ A1)
    have p0 := A0.cell 0
    have p1 := A0.cell 1
    have p2 := A0.cell 2
    have p3 := A0.cell 3
    have p4 := A0.cell 4
    simp at p0 p1 p2 p3 p4
    have l0 := A0.lt
    clear A0 A1 b0 hW0 KF
    go_wp2_with fail
    refine KF1.out.mono ?_
    rintro e w1 ⟨rfl, b1⟩
    have HB1 := Lib.hid (HB0.out.trans (b1.mono HB0.out.size))
    clear b1
    go_wp2_with fail
    go_ret
    exact ⟨rfl, HB1.out⟩
  · rw [if_neg a1] at KF
    by_cases a2 : kd = 3
    · rw [if_pos a2] at KF
      subst a2
      go_enter Tryz.func25, Tryz.ntmps25
      go_upto_region 7 with fail
      generalize hW0 : (w.alloc (.cells #[.int .i64 3, .int .u32 seed, .int .i64 cell, .int .i64 (n : Int), .float .f32 g] 25)).alloc (.cells #[.float .f32 1077936128] 23) = W0
      have A0 : Blk W0 w.heap.size #[.int .i64 3, .int .u32 seed, .int .i64 cell, .int .i64 (n : Int), .float .f32 g] 25 := by subst hW0; exact (Blk.new _ _ _).alloc _
      have A1 : Blk W0 (w.heap.size + 1) #[.float .f32 1077936128] 23 := by
        subst hW0
        have := Blk.new (w.alloc (.cells #[.int .i64 3, .int .u32 seed, .int .i64 cell, .int .i64 (n : Int), .float .f32 g] 25)) #[.float .f32 1077936128] 23
        simpa using this
      have b0 : Below w.heap.size w W0 := by subst hW0; exact (by repeat (first | with_reducible exact Below.refl _ _ | with_reducible apply Below.drew | with_reducible refine below_drewN ?_ _ | (with_reducible refine Below.setCell ?_ ?_ _; rotate_left; focus (first | omega | (simp <;> omega))) | (with_reducible refine Below.alloc ?_ ?_ _; rotate_left; focus (first | omega | (simp <;> omega)))))
      have HB0 := Lib.hid b0
      have KF1 := Lib.hid (KF.out _ _ A1)
      have p0 := A0.cell 0
      have p1 := A0.cell 1
      have p2 := A0.cell 2
      have p3 := A0.cell 3
      have p4 := A0.cell 4
      simp at p0 p1 p2 p3 p4
      have l0 := A0.lt
      clear A0 A1 b0 hW0 KF
      go_wp2_with fail
      refine KF1.out.mono ?_
      rintro e w1 ⟨rfl, b1⟩
      have HB1 := Lib.hid (HB0.out.trans (b1.mono HB0.out.size))
      clear b1
      go_wp2_with fail
      go_ret
      exact ⟨rfl, HB1.out⟩
    · rw [if_neg a2] at KF
      go_enter Tryz.func25, Tryz.ntmps25
      go_upto_region 7 with fail
      generalize hW0 : (w.alloc (.cells #[.int .i64 kd, .int .u32 seed, .int .i64 cell, .int .i64 (n : Int), .float .f32 g] 25)).alloc (.cells #[.float .f32 1065353216] 23) = W0
      have A0 : Blk W0 w.heap.size #[.int .i64 kd, .int .u32 seed, .int .i64 cell, .int .i64 (n : Int), .float .f32 g] 25 := by subst hW0; exact (Blk.new _ _ _).alloc _
      have A1 : Blk W0 (w.heap.size + 1) #[.float .f32 1065353216] 23 := by
        subst hW0
        have := Blk.new (w.alloc (.cells #[.int .i64 kd, .int .u32 seed, .int .i64 cell, .int .i64 (n : Int), .float .f32 g] 25)) #[.float .f32 1065353216] 23
        simpa using this
      have b0 : Below w.heap.size w W0 := by subst hW0; exact (by repeat (first | with_reducible exact Below.refl _ _ | with_reducible apply Below.drew | with_reducible refine below_drewN ?_ _ | (with_reducible refine Below.setCell ?_ ?_ _; rotate_left; focus (first | omega | (simp <;> omega))) | (with_reducible refine Below.alloc ?_ ?_ _; rotate_left; focus (first | omega | (simp <;> omega)))))
      have HB0 := Lib.hid b0
      have KF1 := Lib.hid (KF.out _ _ A1)
      have p0 := A0.cell 0
      have p1 := A0.cell 1
      have p2 := A0.cell 2
      have p3 := A0.cell 3
      have p4 := A0.cell 4
      simp at p0 p1 p2 p3 p4
      have l0 := A0.lt
      clear A0 A1 b0 hW0 KF
      go_wp2_with fail
      refine KF1.out.mono ?_
      rintro e w1 ⟨rfl, b1⟩
      have HB1 := Lib.hid (HB0.out.trans (b1.mono HB0.out.size))
      clear b1
      go_wp2_with fail
      go_ret
      exact ⟨rfl, HB1.out⟩
end Go.Proofs.YtkmcinibaffpmaaGreat

namespace Go.Proofs.YtkmcinibaffpmaaGreat
open Go.ChangeShapes Go.WideShapes Go.ChangeAt Go.RowKit
open Ieee.Format (fin finE htE allFin allHt all_true all_false mulF subF addF Ht Bd divF rootF floorF easeF mixF)
set_option linter.unusedVariables false
open Wide
open Ieee.Format (bits_mul octA octS reachF const_1)

set_option maxRecDepth 100000 in
set_option maxHeartbeats 1000000 in
theorem refreach_any (kd seed cell : Int) (n g : Nat) (w : World) (hk1 : 1 ≤ kd) (hk4 : kd ≤ 4) (hn : n ≤ 10) (h1 : 1 ≤ n) (hg : Share g) :
    Calls Tryz.prog 33 #[frV kd seed cell n g] w fun e w' => e = .returned (.float .f32 (reachF g (bndF kd) n)) ∧ Below w.heap.size w w' := by
  obtain ⟨b1, b2, b3⟩ := bndF_ok kd
  have hz : ∀ k, 0 ≤ k → True := fun _ _ => trivial
  obtain ⟨_, ok⟩ := oct_ok (b := bndF kd) (fun _ => bndF kd) hg.1 hg.2.1 hg.2.2 b1 b2 b3 hn (fun k _ => ⟨b1, by have := (Ieee.P2_pos (-19)); grind, by have := (Ieee.P2_pos (-19)); grind⟩)
  obtain ⟨_, f2, _⟩ := Ieee.Format.reach_ok (fun _ => bndF kd) hg.1 hg.2.1 hg.2.2 b1 b2 b3 h1 hn (fun k _ => ⟨b1, by have := (Ieee.P2_pos (-19)); grind, by have := (Ieee.P2_pos (-19)); grind⟩)
  have KM3 := Lib.hid (fun w => ref_mul_ok (octS g (fun _ => bndF kd) n) 1065354055 w (ok.fs n (Nat.le_refl _)) Ieee.Format.const_reach.1 f2)
  change Hid (∀ w, Calls Tryz.prog 32 #[.float .f32 (octS g (fun _ => bndF kd) n), .float .f32 1065354055] w fun e w' => e = .returned (.float .f32 (reachF g (bndF kd) n)) ∧ w = w') at KM3
  have HK := Lib.hid ok
  clear ok b1 b2 b3 hg h1 f2 hz
  generalize reachF g (bndF kd) n = r at *
  unfold frV
  rcases (show kd = 1 ∨ kd = 2 ∨ kd = 3 ∨ kd = 4 by omega) with rfl | rfl | rfl | rfl
  · clear hk1 hk4
    change Hid (OctOk g (fun _ => 1065353216) n) at HK
    change Hid (∀ w, Calls Tryz.prog 32 #[.float .f32 (octS g (fun _ => 1065353216) n), .float .f32 1065354055] w fun e w' => e = .returned (.float .f32 r) ∧ w = w') at KM3
    go_enter Tryz.func33, Tryz.ntmps33
    go_upto_region 2 with fail
    generalize hW0 : (w.alloc (.cells #[.int .i64 1, .int .u32 seed, .int .i64 cell, .int .i64 (n : Int), .float .f32 g] 25)).alloc (.cells #[.float .f32 1065353216, .float .f32 1073741824, .float .f32 1077936128, .float .f32 1065353216] 23) = W0
    have A0 : Blk W0 w.heap.size #[.int .i64 1, .int .u32 seed, .int .i64 cell, .int .i64 (n : Int), .float .f32 g] 25 := by subst hW0; exact (Blk.new _ _ _).alloc _
    have b0 : Below w.heap.size w W0 := by subst hW0; exact (by repeat (first | with_reducible exact Below.refl _ _ | with_reducible apply Below.drew | with_reducible refine below_drewN ?_ _ | (with_reducible refine Below.setCell ?_ ?_ _; rotate_left; focus (first | omega | (simp <;> omega))) | (with_reducible refine Below.alloc ?_ ?_ _; rotate_left; focus (first | omega | (simp <;> omega)))))
    have p3 := A0.cell 3
    simp at p3
    have l0 := A0.lt
    clear hW0
    go_wp2_with fail
    go_loopw [4, 5, 14] (fun s a i wr => ∃ k : Nat, k ≤ n ∧ i = .int .i64 (k : Int) ∧ s = .float .f32 (octS g (fun _ => 1065353216) k) ∧ a = .float .f32 (octA g k) ∧ Below w.heap.size w wr ∧ Blk wr w.heap.size #[.int .i64 1, .int .u32 seed, .int .i64 cell, .int .i64 (n : Int), .float .f32 g] 25) (fun _ _ i _ => n - (intOf i).toNat)
    case atStart => exact ⟨0, by omega, rfl, rfl, rfl, b0, A0⟩
    case round =>
      obtain ⟨k, hk, rfl, rfl, rfl, B, A⟩ := hrel
      have HB := Lib.hid B
      have HA := Lib.hid A
      clear B A A0 b0 p3 l0
      by_cases hlt : k < n
      · have KM1 := Lib.hid (fun w => ref_mul_ok (octA g k) 1065353216 w (HK.out.fa k) (HK.out.fn k hlt) (HK.out.fp k hlt))
        have KA1 := Lib.hid (fun w => ref_add_ok (octS g (fun _ => 1065353216) k) (mulF (octA g k) 1065353216) w (HK.out.fs k hk) (HK.out.fp k hlt) (HK.out.fs (k + 1) hlt))
        have KM2 := Lib.hid (fun w => ref_mul_ok (octA g k) g w (HK.out.fa k) HK.out.fg (HK.out.fa (k + 1)))
        have e1 : octS g (fun _ => 1065353216) (k + 1) = addF (octS g (fun _ => 1065353216) k) (mulF (octA g k) 1065353216) := rfl
        have e2 : octA g (k + 1) = mulF (octA g k) g := rfl
        rw [← e1] at KA1
        rw [← e2] at KM2
        clear e1 e2
        generalize hz1 : octS g (fun _ => 1065353216) (k + 1) = z1 at *
        generalize hz2 : octA g (k + 1) = z2 at *
        have HZ1 := Lib.hid hz1
        have HZ2 := Lib.hid hz2
        clear hz1 hz2
        generalize octS g (fun _ => 1065353216) k = z3 at *
        generalize octA g k = z4 at *
        generalize mulF z4 1065353216 = z5 at *
        have kl : (k : Int) < (n : Int) := by omega
        have kw : IntKind.i64.wrap ((k : Int) + 1) = ((k + 1 : Nat) : Int) := IntWalk.i64_in _ (by omega)
        have p4 := HA.out.cell 4
        simp at p4
        have l4 := HA.out.lt
        go_wp2_with fail
        refine (KM1.out _).mono ?_
        rintro e w4 ⟨rfl, rfl⟩
        go_wp2_with fail
        refine (KA1.out _).mono ?_
        rintro e w4 ⟨rfl, rfl⟩
        go_wp2_with fail
        refine (KM2.out _).mono ?_
        rintro e w4 ⟨rfl, rfl⟩
        go_wp2_with fail
        go_round
        case rel => exact ⟨k + 1, hlt, by go_num, by rw [HZ1.out], by rw [HZ2.out], HB.out, HA.out⟩
        case measure => simp [intOf]; omega
      · obtain rfl : k = n := by omega
        have kl : ¬ (k : Int) < (k : Int) := by omega
        go_wp2_with fail
        refine (KM3.out _).mono ?_
        rintro e w4 ⟨rfl, rfl⟩
        go_wp2_with fail
        go_ret
        exact ⟨rfl, HB.out⟩
  · clear hk1 hk4
    change Hid (OctOk g (fun _ => 1073741824) n) at HK
    change Hid (∀ w, Calls Tryz.prog 32 #[.float .f32 (octS g (fun _ => 1073741824) n), .float .f32 1065354055] w fun e w' => e = .returned (.float .f32 r) ∧ w = w') at KM3
    go_enter Tryz.func33, Tryz.ntmps33
    go_upto_region 2 with fail
    generalize hW0 : (w.alloc (.cells #[.int .i64 2, .int .u32 seed, .int .i64 cell, .int .i64 (n : Int), .float .f32 g] 25)).alloc (.cells #[.float .f32 1065353216, .float .f32 1073741824, .float .f32 1077936128, .float .f32 1065353216] 23) = W0
    have A0 : Blk W0 w.heap.size #[.int .i64 2, .int .u32 seed, .int .i64 cell, .int .i64 (n : Int), .float .f32 g] 25 := by subst hW0; exact (Blk.new _ _ _).alloc _
    have b0 : Below w.heap.size w W0 := by subst hW0; exact (by repeat (first | with_reducible exact Below.refl _ _ | with_reducible apply Below.drew | with_reducible refine below_drewN ?_ _ | (with_reducible refine Below.setCell ?_ ?_ _; rotate_left; focus (first | omega | (simp <;> omega))) | (with_reducible refine Below.alloc ?_ ?_ _; rotate_left; focus (first | omega | (simp <;> omega)))))
    have p3 := A0.cell 3
    simp at p3
    have l0 := A0.lt
    clear hW0
    go_wp2_with fail
    go_loopw [4, 5, 14] (fun s a i wr => ∃ k : Nat, k ≤ n ∧ i = .int .i64 (k : Int) ∧ s = .float .f32 (octS g (fun _ => 1073741824) k) ∧ a = .float .f32 (octA g k) ∧ Below w.heap.size w wr ∧ Blk wr w.heap.size #[.int .i64 2, .int .u32 seed, .int .i64 cell, .int .i64 (n : Int), .float .f32 g] 25) (fun _ _ i _ => n - (intOf i).toNat)
    case atStart => exact ⟨0, by omega, rfl, rfl, rfl, b0, A0⟩
    case round =>
      obtain ⟨k, hk, rfl, rfl, rfl, B, A⟩ := hrel
      have HB := Lib.hid B
      have HA := Lib.hid A
      clear B A A0 b0 p3 l0
      by_cases hlt : k < n
      · have KM1 := Lib.hid (fun w => ref_mul_ok (octA g k) 1073741824 w (HK.out.fa k) (HK.out.fn k hlt) (HK.out.fp k hlt))
        have KA1 := Lib.hid (fun w => ref_add_ok (octS g (fun _ => 1073741824) k) (mulF (octA g k) 1073741824) w (HK.out.fs k hk) (HK.out.fp k hlt) (HK.out.fs (k + 1) hlt))
        have KM2 := Lib.hid (fun w => ref_mul_ok (octA g k) g w (HK.out.fa k) HK.out.fg (HK.out.fa (k + 1)))
        have e1 : octS g (fun _ => 1073741824) (k + 1) = addF (octS g (fun _ => 1073741824) k) (mulF (octA g k) 1073741824) := rfl
        have e2 : octA g (k + 1) = mulF (octA g k) g := rfl
        rw [← e1] at KA1
        rw [← e2] at KM2
        clear e1 e2
        generalize hz1 : octS g (fun _ => 1073741824) (k + 1) = z1 at *
        generalize hz2 : octA g (k + 1) = z2 at *
        have HZ1 := Lib.hid hz1
        have HZ2 := Lib.hid hz2
        clear hz1 hz2
        generalize octS g (fun _ => 1073741824) k = z3 at *
        generalize octA g k = z4 at *
        generalize mulF z4 1073741824 = z5 at *
        have kl : (k : Int) < (n : Int) := by omega
        have kw : IntKind.i64.wrap ((k : Int) + 1) = ((k + 1 : Nat) : Int) := IntWalk.i64_in _ (by omega)
        have p4 := HA.out.cell 4
        simp at p4
        have l4 := HA.out.lt
        go_wp2_with fail
        refine (KM1.out _).mono ?_
        rintro e w4 ⟨rfl, rfl⟩
        go_wp2_with fail
        refine (KA1.out _).mono ?_
        rintro e w4 ⟨rfl, rfl⟩
        go_wp2_with fail
        refine (KM2.out _).mono ?_
        rintro e w4 ⟨rfl, rfl⟩
        go_wp2_with fail
        go_round
        case rel => exact ⟨k + 1, hlt, by go_num, by rw [HZ1.out], by rw [HZ2.out], HB.out, HA.out⟩
        case measure => simp [intOf]; omega
      · obtain rfl : k = n := by omega
        have kl : ¬ (k : Int) < (k : Int) := by omega
        go_wp2_with fail
        refine (KM3.out _).mono ?_
        rintro e w4 ⟨rfl, rfl⟩
        go_wp2_with fail
        go_ret
        exact ⟨rfl, HB.out⟩
  · clear hk1 hk4
    change Hid (OctOk g (fun _ => 1077936128) n) at HK
    change Hid (∀ w, Calls Tryz.prog 32 #[.float .f32 (octS g (fun _ => 1077936128) n), .float .f32 1065354055] w fun e w' => e = .returned (.float .f32 r) ∧ w = w') at KM3
    go_enter Tryz.func33, Tryz.ntmps33
    go_upto_region 2 with fail
    generalize hW0 : (w.alloc (.cells #[.int .i64 3, .int .u32 seed, .int .i64 cell, .int .i64 (n : Int), .float .f32 g] 25)).alloc (.cells #[.float .f32 1065353216, .float .f32 1073741824, .float .f32 1077936128, .float .f32 1065353216] 23) = W0
    have A0 : Blk W0 w.heap.size #[.int .i64 3, .int .u32 seed, .int .i64 cell, .int .i64 (n : Int), .float .f32 g] 25 := by subst hW0; exact (Blk.new _ _ _).alloc _
    have b0 : Below w.heap.size w W0 := by subst hW0; exact (by repeat (first | with_reducible exact Below.refl _ _ | with_reducible apply Below.drew | with_reducible refine below_drewN ?_ _ | (with_reducible refine Below.setCell ?_ ?_ _; rotate_left; focus (first | omega | (simp <;> omega))) | (with_reducible refine Below.alloc ?_ ?_ _; rotate_left; focus (first | omega | (simp <;> omega)))))
    have p3 := A0.cell 3
    simp at p3
    have l0 := A0.lt
    clear hW0
    go_wp2_with fail
    go_loopw [4, 5, 14] (fun s a i wr => ∃ k : Nat, k ≤ n ∧ i = .int .i64 (k : Int) ∧ s = .float .f32 (octS g (fun _ => 1077936128) k) ∧ a = .float .f32 (octA g k) ∧ Below w.heap.size w wr ∧ Blk wr w.heap.size #[.int .i64 3, .int .u32 seed, .int .i64 cell, .int .i64 (n : Int), .float .f32 g] 25) (fun _ _ i _ => n - (intOf i).toNat)
    case atStart => exact ⟨0, by omega, rfl, rfl, rfl, b0, A0⟩
    case round =>
      obtain ⟨k, hk, rfl, rfl, rfl, B, A⟩ := hrel
      have HB := Lib.hid B
      have HA := Lib.hid A
      clear B A A0 b0 p3 l0
      by_cases hlt : k < n
      · have KM1 := Lib.hid (fun w => ref_mul_ok (octA g k) 1077936128 w (HK.out.fa k) (HK.out.fn k hlt) (HK.out.fp k hlt))
        have KA1 := Lib.hid (fun w => ref_add_ok (octS g (fun _ => 1077936128) k) (mulF (octA g k) 1077936128) w (HK.out.fs k hk) (HK.out.fp k hlt) (HK.out.fs (k + 1) hlt))
        have KM2 := Lib.hid (fun w => ref_mul_ok (octA g k) g w (HK.out.fa k) HK.out.fg (HK.out.fa (k + 1)))
        have e1 : octS g (fun _ => 1077936128) (k + 1) = addF (octS g (fun _ => 1077936128) k) (mulF (octA g k) 1077936128) := rfl
        have e2 : octA g (k + 1) = mulF (octA g k) g := rfl
        rw [← e1] at KA1
        rw [← e2] at KM2
        clear e1 e2
        generalize hz1 : octS g (fun _ => 1077936128) (k + 1) = z1 at *
        generalize hz2 : octA g (k + 1) = z2 at *
        have HZ1 := Lib.hid hz1
        have HZ2 := Lib.hid hz2
        clear hz1 hz2
        generalize octS g (fun _ => 1077936128) k = z3 at *
        generalize octA g k = z4 at *
        generalize mulF z4 1077936128 = z5 at *
        have kl : (k : Int) < (n : Int) := by omega
        have kw : IntKind.i64.wrap ((k : Int) + 1) = ((k + 1 : Nat) : Int) := IntWalk.i64_in _ (by omega)
        have p4 := HA.out.cell 4
        simp at p4
        have l4 := HA.out.lt
        go_wp2_with fail
        refine (KM1.out _).mono ?_
        rintro e w4 ⟨rfl, rfl⟩
        go_wp2_with fail
        refine (KA1.out _).mono ?_
        rintro e w4 ⟨rfl, rfl⟩
        go_wp2_with fail
        refine (KM2.out _).mono ?_
        rintro e w4 ⟨rfl, rfl⟩
        go_wp2_with fail
        go_round
        case rel => exact ⟨k + 1, hlt, by go_num, by rw [HZ1.out], by rw [HZ2.out], HB.out, HA.out⟩
        case measure => simp [intOf]; omega
      · obtain rfl : k = n := by omega
        have kl : ¬ (k : Int) < (k : Int) := by omega
        go_wp2_with fail
        refine (KM3.out _).mono ?_
        rintro e w4 ⟨rfl, rfl⟩
        go_wp2_with fail
        go_ret
        exact ⟨rfl, HB.out⟩
  · clear hk1 hk4
    change Hid (OctOk g (fun _ => 1065353216) n) at HK
    change Hid (∀ w, Calls Tryz.prog 32 #[.float .f32 (octS g (fun _ => 1065353216) n), .float .f32 1065354055] w fun e w' => e = .returned (.float .f32 r) ∧ w = w') at KM3
    go_enter Tryz.func33, Tryz.ntmps33
    go_upto_region 2 with fail
    generalize hW0 : (w.alloc (.cells #[.int .i64 4, .int .u32 seed, .int .i64 cell, .int .i64 (n : Int), .float .f32 g] 25)).alloc (.cells #[.float .f32 1065353216, .float .f32 1073741824, .float .f32 1077936128, .float .f32 1065353216] 23) = W0
    have A0 : Blk W0 w.heap.size #[.int .i64 4, .int .u32 seed, .int .i64 cell, .int .i64 (n : Int), .float .f32 g] 25 := by subst hW0; exact (Blk.new _ _ _).alloc _
    have b0 : Below w.heap.size w W0 := by subst hW0; exact (by repeat (first | with_reducible exact Below.refl _ _ | with_reducible apply Below.drew | with_reducible refine below_drewN ?_ _ | (with_reducible refine Below.setCell ?_ ?_ _; rotate_left; focus (first | omega | (simp <;> omega))) | (with_reducible refine Below.alloc ?_ ?_ _; rotate_left; focus (first | omega | (simp <;> omega)))))
    have p3 := A0.cell 3
    simp at p3
    have l0 := A0.lt
    clear hW0
    go_wp2_with fail
    go_loopw [4, 5, 14] (fun s a i wr => ∃ k : Nat, k ≤ n ∧ i = .int .i64 (k : Int) ∧ s = .float .f32 (octS g (fun _ => 1065353216) k) ∧ a = .float .f32 (octA g k) ∧ Below w.heap.size w wr ∧ Blk wr w.heap.size #[.int .i64 4, .int .u32 seed, .int .i64 cell, .int .i64 (n : Int), .float .f32 g] 25) (fun _ _ i _ => n - (intOf i).toNat)
    case atStart => exact ⟨0, by omega, rfl, rfl, rfl, b0, A0⟩
    case round =>
      obtain ⟨k, hk, rfl, rfl, rfl, B, A⟩ := hrel
      have HB := Lib.hid B
      have HA := Lib.hid A
      clear B A A0 b0 p3 l0
      by_cases hlt : k < n
      · have KM1 := Lib.hid (fun w => ref_mul_ok (octA g k) 1065353216 w (HK.out.fa k) (HK.out.fn k hlt) (HK.out.fp k hlt))
        have KA1 := Lib.hid (fun w => ref_add_ok (octS g (fun _ => 1065353216) k) (mulF (octA g k) 1065353216) w (HK.out.fs k hk) (HK.out.fp k hlt) (HK.out.fs (k + 1) hlt))
        have KM2 := Lib.hid (fun w => ref_mul_ok (octA g k) g w (HK.out.fa k) HK.out.fg (HK.out.fa (k + 1)))
        have e1 : octS g (fun _ => 1065353216) (k + 1) = addF (octS g (fun _ => 1065353216) k) (mulF (octA g k) 1065353216) := rfl
        have e2 : octA g (k + 1) = mulF (octA g k) g := rfl
        rw [← e1] at KA1
        rw [← e2] at KM2
        clear e1 e2
        generalize hz1 : octS g (fun _ => 1065353216) (k + 1) = z1 at *
        generalize hz2 : octA g (k + 1) = z2 at *
        have HZ1 := Lib.hid hz1
        have HZ2 := Lib.hid hz2
        clear hz1 hz2
        generalize octS g (fun _ => 1065353216) k = z3 at *
        generalize octA g k = z4 at *
        generalize mulF z4 1065353216 = z5 at *
        have kl : (k : Int) < (n : Int) := by omega
        have kw : IntKind.i64.wrap ((k : Int) + 1) = ((k + 1 : Nat) : Int) := IntWalk.i64_in _ (by omega)
        have p4 := HA.out.cell 4
        simp at p4
        have l4 := HA.out.lt
        go_wp2_with fail
        refine (KM1.out _).mono ?_
        rintro e w4 ⟨rfl, rfl⟩
        go_wp2_with fail
        refine (KA1.out _).mono ?_
        rintro e w4 ⟨rfl, rfl⟩
        go_wp2_with fail
        refine (KM2.out _).mono ?_
        rintro e w4 ⟨rfl, rfl⟩
        go_wp2_with fail
        go_round
        case rel => exact ⟨k + 1, hlt, by go_num, by rw [HZ1.out], by rw [HZ2.out], HB.out, HA.out⟩
        case measure => simp [intOf]; omega
      · obtain rfl : k = n := by omega
        have kl : ¬ (k : Int) < (k : Int) := by omega
        go_wp2_with fail
        refine (KM3.out _).mono ?_
        rintro e w4 ⟨rfl, rfl⟩
        go_wp2_with fail
        go_ret
        exact ⟨rfl, HB.out⟩
end Go.Proofs.YtkmcinibaffpmaaGreat

namespace Go.Proofs.YtkmcinibaffpmaaGreat
open Go.ChangeShapes Go.WideShapes Go.ChangeAt Go.RowKit
open Ieee.Format (fin finE htE allFin allHt all_true all_false mulF subF addF Ht Bd divF rootF floorF easeF mixF)
set_option linter.unusedVariables false
open Wide
open Ieee.Format (octS reachF)

/-- what Field makes -/
def fracL (kd seed cell : Int) (n g : Nat) (X Y : Int) (Wn Hn : Nat) : List Nat := madeL (fun x y => fracF kd seed cell n g x y) X Y Wn (Hn * Wn)
theorem frac_within (kd seed cell x y : Int) {n g : Nat} (h1 : 1 ≤ n) (hn : n ≤ 10) (hg : Share g) (c1 : 1 ≤ cell) (c2 : cell ≤ 4096) :
    fin Ieee.single (fracF kd seed cell n g x y) ∧ fin Ieee.single (reachF g (bndF kd) n) ∧ Ieee.single.V (fracF kd seed cell n g x y) ≤ Ieee.single.V (reachF g (bndF kd) n) ∧ -Ieee.single.V (fracF kd seed cell n g x y) ≤ Ieee.single.V (reachF g (bndF kd) n) ∧ Ieee.single.V (reachF g (bndF kd) n) ≤ 32 ∧ 0 ≤ Ieee.single.V (reachF g (bndF kd) n) := by
  obtain ⟨b1, b2, b3⟩ := bndF_ok kd
  obtain ⟨ok, _⟩ := oct_ok (octF kd seed cell x y) hg.1 hg.2.1 hg.2.2 b1 b2 b3 hn (fun k _ => octF_noisy kd seed cell x y k c1 c2)
  obtain ⟨_, f2, r1, r2, r3, r4⟩ := Ieee.Format.reach_ok (octF kd seed cell x y) hg.1 hg.2.1 hg.2.2 b1 b2 b3 h1 hn (fun k _ => octF_noisy kd seed cell x y k c1 c2)
  exact ⟨ok.fs n (Nat.le_refl _), f2, r1, r2, r3, r4⟩
theorem fracF_lt (kd seed cell x y : Int) (n g : Nat) : fracF kd seed cell n g x y < 4294967296 := by
  unfold fracF
  cases n with
  | zero => unfold octS; decide
  | succ k => unfold octS; exact Ieee.Format.addF_lt _ _
theorem frac_res (kd seed cell : Int) {n g : Nat} (X Y : Int) (Wn Hn : Nat) (h1 : 1 ≤ n) (hn : n ≤ 10) (hg : Share g) (c1 : 1 ≤ cell) (c2 : cell ≤ 4096) : resC (fracL kd seed cell n g X Y Wn Hn) = 0 := by
  unfold resC
  rw [if_pos]
  refine Ieee.Format.allHt_iff.2 fun x hx => ?_
  unfold fracL madeL at hx
  obtain ⟨k, _, rfl⟩ := List.mem_map.1 hx
  obtain ⟨f, _, r1, r2, r3, _⟩ := frac_within kd seed cell (X + ((k % Wn : Nat) : Int)) (Y + ((k / Wn : Nat) : Int)) h1 hn hg c1 c2
  have p : (32 : Rat) ≤ Ieee.P2 20 := by rw [show Ieee.P2 20 = ((2 ^ 20 : Nat) : Rat) from Ieee.P2_nat 20]; decide
  exact Ieee.Format.Ht.of ⟨by simp only; grind, by simp only; grind⟩
theorem fracL_small (kd seed cell : Int) (n g : Nat) (X Y : Int) (Wn Hn : Nat) (h2 : Wn ≤ 512) (h4 : Hn ≤ 512) : (fracL kd seed cell n g X Y Wn Hn).length ≤ 1099511627776 := by
  unfold fracL
  rw [madeL_len]
  have := Nat.mul_le_mul h4 h2
  omega
theorem box_frg (w : World) (c1 : Array Value) (t1 : TypeId) (X Y W H : Int) : ∀ W0, W0 = ((w.alloc (.cells c1 t1)).alloc (.cells #[.int .i64 X, .int .i64 Y, .int .i64 W, .int .i64 H] 29)).alloc (.cells #[.int .i64 0, .int .i64 0, .int .i64 0, .int .i64 0, .slice none 0 0] 32) →
    Blk W0 w.heap.size c1 t1 ∧ Reg W0 (w.heap.size + 1) X Y W H ∧ Fld W0 (w.heap.size + 1 + 1) 0 0 0 0 (.slice none 0 0) ∧ Below w.heap.size w W0 := by
  rintro _ rfl
  refine ⟨((Blk.new w c1 t1).alloc _).alloc _, ?_, ?_, (by repeat (first | with_reducible exact Below.refl _ _ | with_reducible apply Below.drew | with_reducible refine below_drewN ?_ _ | (with_reducible refine Below.setCell ?_ ?_ _; rotate_left; focus (first | omega | (simp <;> omega))) | (with_reducible refine Below.alloc ?_ ?_ _; rotate_left; focus (first | omega | (simp <;> omega)))))⟩
  · have := (Reg.new (w.alloc (.cells c1 t1)) X Y W H).alloc (.cells #[.int .i64 0, .int .i64 0, .int .i64 0, .int .i64 0, .slice none 0 0] 32)
    simpa using this
  · have := Fld.new ((w.alloc (.cells c1 t1)).alloc (.cells #[.int .i64 X, .int .i64 Y, .int .i64 W, .int .i64 H] 29)) 0 0 0 0 (.slice none 0 0)
    simpa using this
end Go.Proofs.YtkmcinibaffpmaaGreat
