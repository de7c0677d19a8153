import Derived.Test.YtimhpmccmafnpaaGreatG13
import Derived.Test.YtimhpmccmafnpaaGreatG07
import Derived.Test.YtimhpmccmafnpaaGreatG08
import Derived.Test.YtimhpmccmafnpaaGreatG01
import Derived.Test.YtimhpmccmafnpaaGreatG04
import Derived.Test.YtimhpmccmafnpaaGreatG02
import Derived.Test.YtimhpmccmafnpaaGreatG12
import Derived.Test.YtimhpmccmafnpaaGreatG09
import Derived.BigQuiet
import Derived.Sort.LotA

namespace Ieee
namespace Format
open Go

/-- finite, and at most c in magnitude -/
def Wi (c : Rat) (x : Nat) : Prop := single.fin x ∧ -c ≤ single.V x ∧ single.V x ≤ c
/-- how far a rounded number lies from the number -/
theorem Rounds.err {x : Rat} {s : Bool} {w c : Nat} {e : Int} (h : single.Rounds x s w) (fc : single.fin c) (hc : single.sgn c = false) (h1 : x ≤ single.V c) (h2 : -single.V c ≤ x)
    (hr : ∀ r, r < single.rung c → single.rplace r ≤ e) : single.fin w ∧ 2 * single.V w ≤ 2 * x + P2 e ∧ 2 * x ≤ 2 * single.V w + P2 e := by
  obtain ⟨fw, _, _, hle, _⟩ := h.bound fc hc h1 h2
  refine ⟨fw, ?_⟩
  obtain ⟨r, rfl, hn⟩ := h
  have hlt : r < single.infRung := (single.fin_word_iff s r).1 fw
  rw [single.V_word hlt]
  rw [single.rung_word s (single.min_lt_sw r), Nat.min_eq_left (Nat.le_of_lt hlt)] at hle
  have hv : sg s * x ≤ single.rv (single.rung c) := by
    rw [← V_pos_word hc]
    cases s <;> simp [sg] <;> grind
  have key : 2 * single.rv r ≤ 2 * (sg s * x) + P2 e ∧ 2 * (sg s * x) ≤ 2 * single.rv r + P2 e := by
    rcases Nat.lt_or_ge r (single.rung c) with hlt2 | hge
    · obtain ⟨a, b⟩ := hn.off
      have := P2_mono (hr r hlt2)
      grind
    · obtain rfl : r = single.rung c := by omega
      have hp := P2_pos e
      refine ⟨?_, by grind⟩
      rcases hn.2.1 with h0 | h0
      · rw [h0, single.rv_zero]
        have := hn.2.2
        grind
      · rcases Nat.eq_zero_or_pos (single.rung c) with hz | hz
        · rw [hz, single.rv_zero]
          have := hn.2.2
          grind
        · have h3 : single.rv (single.rung c - 1) + single.rv (single.rung c) ≤ 2 * (sg s * x) := by
            split at h0
            · exact h0
            · exact Rat.le_of_lt h0
          have h4 := single.rv_succ (single.rung c - 1)
          rw [show single.rung c - 1 + 1 = single.rung c from by omega] at h4
          have := P2_mono (hr (single.rung c - 1) (by omega))
          grind
  cases s <;> simp [sg] at key ⊢ <;> grind
theorem place_le {r R : Nat} {e : Int} (he : single.rplace R = e) : ∀ q, q < r → r ≤ R + 1 → single.rplace q ≤ e := fun q hq hr => by
  rw [← he]; exact single.rplace_mono (by omega)
theorem const_4 : single.fin 1082130432 ∧ single.V 1082130432 = 4 ∧ single.sgn 1082130432 = false := by
  have := V_const false 128 8388608 (.inr (by decide)) (by decide) (by decide)
  rw [show single.word false (128 * 8388608 + 8388608) = 1082130432 from by decide] at this
  refine ⟨this.1, ?_, this.2.2⟩
  rw [this.2.1, show ((128 : Nat) : Int) - 149 = -21 from rfl, show ((8388608 : Nat) : Rat) = P2 23 from (P2_nat 23).symm, ← P2_add]
  simp [sg]
  exact P2_nat 2
theorem const_8 : single.fin 1090519040 ∧ single.V 1090519040 = 8 ∧ single.sgn 1090519040 = false := by
  have := V_const false 129 8388608 (.inr (by decide)) (by decide) (by decide)
  rw [show single.word false (129 * 8388608 + 8388608) = 1090519040 from by decide] at this
  refine ⟨this.1, ?_, this.2.2⟩
  rw [this.2.1, show ((129 : Nat) : Int) - 149 = -20 from rfl, show ((8388608 : Nat) : Rat) = P2 23 from (P2_nat 23).symm, ← P2_add]
  simp [sg]
  exact P2_nat 3
/-- numbers of at most M are rounded by at most d, and stay at most M -/
def Near1 (M d : Rat) : Prop := ∀ (x : Rat) (s : Bool) (w : Nat), single.Rounds x s w → x ≤ M → -M ≤ x → single.fin w ∧ single.V w ≤ x + d ∧ x ≤ single.V w + d ∧ single.V w ≤ M ∧ -M ≤ single.V w
theorem near_of {c : Nat} {M : Rat} (e d : Int) (R : Nat) (hd : d = e - 1) (hc : single.fin c ∧ single.V c = M ∧ single.sgn c = false) (hR : c % 2147483648 = R + 1) (he : single.rplace R = e) : Near1 M (P2 d) := by
  subst hd
  intro x s w h h1 h2
  obtain ⟨fc, vc, sc⟩ := hc
  rw [← vc] at h1 h2
  have h3 := h.err fc sc h1 h2 (fun r hr => place_le he r (by rw [rung_lit, hR] at hr; exact hr) (Nat.le_refl _))
  have h4 := h.bound fc sc h1 h2
  rw [vc] at h4
  have h5 := P2_double e
  exact ⟨h3.1, by grind, by grind, h4.2.1, h4.2.2.1⟩
theorem place_at (l k : Nat) (h : k < 8388608) : single.rplace ((l + 1) * 8388608 + k) = -149 + (l : Int) := by
  unfold rplace
  have e1 : single.binade = 8388608 := by decide
  have e2 : single.leastPlace = -149 := by decide
  rw [e1, e2, if_neg (by omega), show ((l + 1) * 8388608 + k) / 8388608 = l + 1 from by omega]
  simp
theorem place_2 : single.rplace 1073741823 = -23 := by
  rw [show (1073741823 : Nat) = (126 + 1) * 8388608 + 8388607 from by omega, place_at _ _ (by omega)]; rfl
theorem place_4 : single.rplace 1082130431 = -22 := by
  rw [show (1082130431 : Nat) = (127 + 1) * 8388608 + 8388607 from by omega, place_at _ _ (by omega)]; rfl
theorem place_8 : single.rplace 1090519039 = -21 := by
  rw [show (1090519039 : Nat) = (128 + 1) * 8388608 + 8388607 from by omega, place_at _ _ (by omega)]; rfl
theorem near_2 : Near1 2 (P2 (-24)) := near_of (-23) (-24) 1073741823 (by omega) const_2 (by omega) place_2
theorem near_4 : Near1 4 (P2 (-23)) := near_of (-22) (-23) 1082130431 (by omega) const_4 (by omega) place_4
theorem near_8 : Near1 8 (P2 (-22)) := near_of (-21) (-22) 1090519039 (by omega) const_8 (by omega) place_8
theorem mix_lin {c dM U A B D P : Rat} (u0 : 0 ≤ U) (u1 : U ≤ 1) (hd : 0 ≤ dM) (a1 : -c ≤ A) (a2 : A ≤ c) (b1 : -c ≤ B) (b2 : B ≤ c) (D1 : D ≤ B - A + dM) (D2 : B - A ≤ D + dM) (P1 : P ≤ D * U + dM) (P2 : D * U ≤ P + dM) :
    A + P ≤ c + 2 * dM ∧ -(c + 2 * dM) ≤ A + P := by
  have e0 : 0 ≤ 1 - U := by grind
  have q1 := Rat.mul_le_mul_of_nonneg_right a2 e0
  have q2 := Rat.mul_le_mul_of_nonneg_right a1 e0
  have q3 := Rat.mul_le_mul_of_nonneg_right b2 u0
  have q4 := Rat.mul_le_mul_of_nonneg_right b1 u0
  have q5 := Rat.mul_le_mul_of_nonneg_right D1 u0
  have q6 := Rat.mul_le_mul_of_nonneg_right D2 u0
  have q7 := Rat.mul_le_mul_of_nonneg_left u1 hd
  constructor <;> grind
/-- between two numbers -/
theorem mix_wi {c M N dM dN : Rat} {a b u : Nat} (KM : Near1 M dM) (KN : Near1 N dN) (ha : Wi c a) (hb : Wi c b) (hu : single.fin u) (u0 : 0 ≤ single.V u) (u1 : single.V u ≤ 1) (hM : 2 * c ≤ M) (hN : c + 2 * dM ≤ N) (hd : 0 ≤ dM) (hM0 : 0 ≤ M) :
    single.fin (subF b a) ∧ single.fin (mulF (subF b a) u) ∧ Wi (c + 2 * dM + dN) (mixF a b u) := by
  obtain ⟨fa, a1, a2⟩ := ha
  obtain ⟨fb, b1, b2⟩ := hb
  obtain ⟨fD, D1, D2, D3, D4⟩ := KM _ _ _ (subF_spec fb fa).2 (by grind) (by grind)
  have m1 := Rat.mul_le_mul_of_nonneg_right D3 u0
  have m2 := Rat.mul_le_mul_of_nonneg_right D4 u0
  have m3 := Rat.mul_le_mul_of_nonneg_left u1 hM0
  obtain ⟨fP, P1, P2, _, _⟩ := KM _ _ _ (mulF_spec fD hu).2 (by grind) (by grind)
  obtain ⟨s1, s2⟩ := mix_lin u0 u1 hd a1 a2 b1 b2 D1 D2 P1 P2
  obtain ⟨fS, S1, S2, _, _⟩ := KN _ _ _ (addF_spec fa fP).2 (by grind) (by grind)
  exact ⟨fD, fP, fS, by unfold mixF; grind, by unfold mixF; grind⟩
/-- the noise of values: three steps between numbers of at most 1 -/
theorem value_wi {a b c d u v : Nat} (ha : Wi 1 a) (hb : Wi 1 b) (hc : Wi 1 c) (hd : Wi 1 d) (hu : single.fin u) (u0 : 0 ≤ single.V u) (u1 : single.V u ≤ 1) (hv : single.fin v) (v0 : 0 ≤ single.V v) (v1 : single.V v ≤ 1) :
    Wi (1 + 8 * P2 (-24)) (mixF (mixF a b u) (mixF c d u) v) := by
  have p := P2_pos (-24)
  have q : P2 (-23) = 2 * P2 (-24) := P2_double (-23)
  have r : 16777216 * P2 (-24) = 1 := by
    have := P2_add 24 (-24)
    rw [show P2 24 = ((2 ^ 24 : Nat) : Rat) from P2_nat 24] at this
    rw [show (24 : Int) + -24 = 0 from rfl, P2_zero] at this
    rw [this]; rfl
  have h1 := (mix_wi near_2 near_2 ha hb hu u0 u1 (by grind) (by grind) (by grind) (by grind)).2.2
  have h2 := (mix_wi near_2 near_2 hc hd hu u0 u1 (by grind) (by grind) (by grind) (by grind)).2.2
  have h3 := (mix_wi near_4 near_2 h1 h2 hv v0 v1 (by grind) (by grind) (by grind) (by grind)).2.2
  obtain ⟨f, x, y⟩ := h3
  exact ⟨f, by grind, by grind⟩
/-- the noise of directions -/
theorem grad_wi {a b c d u v : Nat} (ha : Wi 2 a) (hb : Wi 2 b) (hc : Wi 2 c) (hd : Wi 2 d) (hu : single.fin u) (u0 : 0 ≤ single.V u) (u1 : single.V u ≤ 1) (hv : single.fin v) (v0 : 0 ≤ single.V v) (v1 : single.V v ≤ 1) :
    Wi (2 + 16 * P2 (-24)) (mixF (mixF a b u) (mixF c d u) v) := by
  have p := P2_pos (-24)
  have q : P2 (-23) = 2 * P2 (-24) := P2_double (-23)
  have q2 : P2 (-22) = 2 * P2 (-23) := P2_double (-22)
  have r : 16777216 * P2 (-24) = 1 := by
    have := P2_add 24 (-24)
    rw [show P2 24 = ((2 ^ 24 : Nat) : Rat) from P2_nat 24] at this
    rw [show (24 : Int) + -24 = 0 from rfl, P2_zero] at this
    rw [this]; rfl
  have h1 := (mix_wi near_4 near_4 ha hb hu u0 u1 (by grind) (by grind) (by grind) (by grind)).2.2
  have h2 := (mix_wi near_4 near_4 hc hd hu u0 u1 (by grind) (by grind) (by grind) (by grind)).2.2
  have h3 := (mix_wi near_8 near_4 h1 h2 hv v0 v1 (by grind) (by grind) (by grind) (by grind)).2.2
  obtain ⟨f, x, y⟩ := h3
  exact ⟨f, by grind, by grind⟩
end Format
end Ieee




namespace Go.Proofs.YtimhpmccmafnpaaGreat
open Go.ChangeShapes Go.WideShapes Go.ChangeAt Go.RowKit
open Ieee.Format (fin finE htE allFin allHt all_true all_false mulF subF addF Ht Bd divF rootF floorF easeF mixF)
set_option linter.unusedVariables false
open Ieee.Format (Wi const_0 const_1 const_n1 conv_exact divF_lt div_bound div_nonneg subF_spec)

/-! ### noise on a lattice, in plain Lean -/
def latS (m c : Int) : Nat := divF (floatOfInt .f32 m) (floatOfInt .f32 c)
theorem lat_conv {c : Int} (h1 : 0 ≤ c) (h2 : c ≤ 4096) : fin Ieee.single (floatOfInt .f32 c) ∧ Ieee.single.V (floatOfInt .f32 c) = (c : Rat) ∧ Ieee.single.sgn (floatOfInt .f32 c) = false := by
  obtain ⟨a, b, d⟩ := conv_exact c (by omega) (by omega)
  exact ⟨a, b, by rw [d]; exact decide_eq_false (by omega)⟩
theorem lat_share {m c : Int} (h0 : 0 ≤ m) (h1 : m < c) (h2 : c ≤ 4096) : Share (latS m c) ∧ fin Ieee.single (floatOfInt .f32 m) ∧ fin Ieee.single (floatOfInt .f32 c) ∧ Ieee.single.V (floatOfInt .f32 c) ≠ 0 := by
  obtain ⟨a1, a2, a3⟩ := lat_conv h0 (by omega)
  obtain ⟨b1, b2, b3⟩ := lat_conv (show 0 ≤ c by omega) h2
  have hc : (0 : Rat) < (c : Rat) := by exact_mod_cast (show (0 : Int) < c by omega)
  have hm : (0 : Rat) ≤ (m : Rat) := by exact_mod_cast h0
  have hmc : (m : Rat) ≤ (c : Rat) := by exact_mod_cast (show m ≤ c by omega)
  have p : 0 < Ieee.single.V (floatOfInt .f32 c) := by rw [b2]; exact hc
  have r1 := div_bound a1 b1 p const_1.1 const_1.2.2 (by rw [const_1.2.1, a2, b2]; grind) (by rw [const_1.2.1, a2, b2]; grind)
  rw [const_1.2.1] at r1
  have r2 := div_nonneg a1 b1 p r1.1 (by rw [a2]; exact hm)
  exact ⟨⟨r1.1, r2, r1.2.1⟩, a1, b1, by grind⟩
theorem sub_one {s : Nat} (h : Share s) : fin Ieee.single (subF s 1065353216) ∧ -1 ≤ Ieee.single.V (subF s 1065353216) ∧ Ieee.single.V (subF s 1065353216) ≤ 1 := by
  obtain ⟨f, a, b⟩ := h
  have := (subF_spec f const_1.1).2.bound const_1.1 const_1.2.2 (by rw [const_1.2.1]; grind) (by rw [const_1.2.1]; grind)
  rw [const_1.2.1] at this
  exact ⟨this.1, this.2.2.1, this.2.1⟩
/-- the value at a place, made of those of the four corners around it -/
def latF (ψ : Int → Int → Nat → Nat → Nat) (x y c : Int) : Nat :=
  mixF (mixF (ψ (x / c) (y / c) (latS (x % c) c) (latS (y % c) c)) (ψ (x / c + 1) (y / c) (subF (latS (x % c) c) 1065353216) (latS (y % c) c)) (easeF (latS (x % c) c)))
    (mixF (ψ (x / c) (y / c + 1) (latS (x % c) c) (subF (latS (y % c) c) 1065353216)) (ψ (x / c + 1) (y / c + 1) (subF (latS (x % c) c) 1065353216) (subF (latS (y % c) c) 1065353216)) (easeF (latS (x % c) c)))
    (easeF (latS (y % c) c))
end Go.Proofs.YtimhpmccmafnpaaGreat



namespace Go.Proofs.YtimhpmccmafnpaaGreat
open Go.ChangeShapes Go.WideShapes Go.ChangeAt Go.RowKit
open Ieee.Format (fin finE htE allFin allHt all_true all_false mulF subF addF Ht Bd divF rootF floorF easeF mixF)
set_option linter.unusedVariables false
open Ieee.Format (const_1 bits_sub bits_div subF_lt divF_lt)

/-- how far from a corner -/
def Dx (d : Nat) : Prop := fin Ieee.single d ∧ -1 ≤ Ieee.single.V d ∧ Ieee.single.V d ≤ 1 ∧ d < 4294967296
theorem Share.dx {s : Nat} (h : Share s) (hl : s < 4294967296) : Dx s := ⟨h.1, by have := h.2.1; grind, h.2.2, hl⟩
theorem Share.dx1 {s : Nat} (h : Share s) : Dx (subF s 1065353216) := ⟨(sub_one h).1, (sub_one h).2.1, (sub_one h).2.2, subF_lt _ _⟩
end Go.Proofs.YtimhpmccmafnpaaGreat




namespace Go.Proofs.YtimhpmccmafnpaaGreat
open Go.ChangeShapes Go.WideShapes Go.ChangeAt Go.RowKit
open Ieee.Format (fin finE htE allFin allHt all_true all_false mulF subF addF Ht Bd divF rootF floorF easeF mixF)
set_option linter.unusedVariables false

/-! ### noise of values -/
def cvF (seed : Int) (k l : Int) (_ _ : Nat) : Nat := Ieee.Format.signedF (hashTo seed k l 0 3)
theorem cvF_wi (seed k l : Int) (dx dy : Nat) : Ieee.Format.Wi 1 (cvF seed k l dx dy) := by
  obtain ⟨h0, h1⟩ := hash_bounds seed k l 0
  obtain ⟨_, f, _⟩ := Ieee.Format.signed_ok _ h0 h1
  obtain ⟨_, _, a, b⟩ := Ieee.Format.unit_bounds _ h0 h1
  exact ⟨f, a, Rat.le_of_lt b⟩
/-- the noise of values at a place -/
def valF (seed x y c : Int) : Nat := latF (cvF seed) x y c
end Go.Proofs.YtimhpmccmafnpaaGreat


namespace Go.Proofs.YtimhpmccmafnpaaGreat
open Go.ChangeShapes Go.WideShapes Go.ChangeAt Go.RowKit
open Ieee.Format (fin finE htE allFin allHt all_true all_false mulF subF addF Ht Bd divF rootF floorF easeF mixF)
set_option linter.unusedVariables false
open Ieee.Format (Wi const_0 const_1 const_n1 mulF_spec addF_spec bits_mul bits_add mulF_lt addF_lt conv_exact)

/-! ### noise of directions -/
def gX (k : Nat) : Int := [1, 1, 0, -1, -1, -1, 0, 1].getD k 0
def gY (k : Nat) : Int := [0, 1, 1, 1, 0, -1, -1, -1].getD k 0
theorem gX_le (k : Nat) : -1 ≤ gX k ∧ gX k ≤ 1 := by
  match k with
  | 0 | 1 | 2 | 3 | 4 | 5 | 6 | 7 => decide
  | k + 8 => simp [gX]
theorem gY_le (k : Nat) : -1 ≤ gY k ∧ gY k ≤ 1 := by
  match k with
  | 0 | 1 | 2 | 3 | 4 | 5 | 6 | 7 => decide
  | k + 8 => simp [gY]
/-- the share of a direction -/
def dotF (k : Nat) (dx dy : Nat) : Nat := addF (mulF (floatOfInt .f32 (gX k)) dx) (mulF (floatOfInt .f32 (gY k)) dy)
def cgF (seed : Int) (k l : Int) (dx dy : Nat) : Nat := dotF (hashTo seed k l 1 3 % 8).toNat dx dy
theorem unit_mul {z : Int} {d : Nat} (h1 : -1 ≤ z) (h2 : z ≤ 1) (hd : Dx d) : fin Ieee.single (floatOfInt .f32 z) ∧ Wi 1 (mulF (floatOfInt .f32 z) d) := by
  obtain ⟨fd, d1, d2, _⟩ := hd
  obtain ⟨fz, vz, _⟩ := conv_exact z (by omega) (by omega)
  have hb : (z : Rat) * Ieee.single.V d ≤ 1 ∧ -1 ≤ (z : Rat) * Ieee.single.V d := by
    rcases (by omega : z = -1 ∨ z = 0 ∨ z = 1) with rfl | rfl | rfl <;> simp <;> grind
  have := (mulF_spec fz fd).2.bound const_1.1 const_1.2.2 (by rw [const_1.2.1, vz]; exact hb.1) (by rw [const_1.2.1, vz]; exact hb.2)
  rw [const_1.2.1] at this
  exact ⟨fz, this.1, this.2.2.1, this.2.1⟩
theorem dot_wi (k : Nat) {dx dy : Nat} (hx : Dx dx) (hy : Dx dy) : Wi 2 (dotF k dx dy) := by
  obtain ⟨_, fa, a1, a2⟩ := unit_mul (gX_le k).1 (gX_le k).2 hx
  obtain ⟨_, fb, b1, b2⟩ := unit_mul (gY_le k).1 (gY_le k).2 hy
  have := (addF_spec fa fb).2.bound Ieee.Format.const_2.1 Ieee.Format.const_2.2.2 (by rw [Ieee.Format.const_2.2.1]; grind) (by rw [Ieee.Format.const_2.2.1]; grind)
  rw [Ieee.Format.const_2.2.1] at this
  exact ⟨this.1, this.2.2.1, this.2.1⟩
/-- the directions' noise at a place -/
def gradF (seed x y c : Int) : Nat := latF (cgF seed) x y c
end Go.Proofs.YtimhpmccmafnpaaGreat




namespace Go.Proofs.YtimhpmccmafnpaaGreat
open Go.ChangeShapes Go.WideShapes Go.ChangeAt Go.RowKit
open Ieee.Format (fin finE htE allFin allHt all_true all_false mulF subF addF Ht Bd divF rootF floorF easeF mixF)
set_option linter.unusedVariables false

/-! ### the two nearest of a list, and the insertion sort, in plain Lean -/
section
variable {α : Type} [Inhabited α]
/-- one step of the search for the two nearest -/
def scanStep (f : α → Int) (s : Int × Int × α) (c : α) : Int × Int × α :=
  if s.1 < 0 ∨ f c < s.1 then (f c, s.1, c) else if s.2.1 < 0 ∨ f c < s.2.1 then (s.1, f c, s.2.2) else s
omit [Inhabited α] in
end
end Go.Proofs.YtimhpmccmafnpaaGreat



namespace Ieee
namespace Format
open Go

/-- the form of a root in double -/
theorem sqrt_at {X : Nat} (hX : double.fin X) (h0 : 0 < double.V X) (hb : double.V X ≤ P2 128) :
    ∃ (Z n : Nat) (h : Int) (q : Nat), double.sqrt X = some Z ∧ double.fin Z ∧ 324518553658426726783156020576256 ≤ n ∧ n < 1298074214633706907132624082305024 ∧ double.V X = (n : Rat) * (P2 h * P2 h) ∧ q * q ≤ n ∧ n < (q + 1) * (q + 1) ∧
      double.Rounds (((2 * q + (q * q != n).toNat : Nat) : Rat) * P2 (h - 1)) false Z := by
  obtain ⟨Z0, e0, f0, _⟩ := sqrt_spec hX (Rat.le_of_lt h0) hb
  have hml := double.rmag_lt (double.rung X)
  have hV := double.V_read X
  have e1 := e0
  unfold sqrt at e0
  rw [double.read_fin hX] at e0
  generalize double.rmag (double.rung X) = m at *
  generalize double.rplace (double.rung X) = i at *
  generalize double.sgn X = s at *
  have hm : m ≠ 0 := by rintro rfl; rw [hV] at h0; simp at h0
  have hm0 : (0 : Rat) < (m : Rat) := by exact_mod_cast (show 0 < m by omega)
  have hmp : 0 < (m : Rat) * P2 i := Rat.mul_pos hm0 (P2_pos i)
  have hs : s = false := by
    cases s
    · rfl
    · exfalso; rw [hV] at h0; simp [sg] at h0; grind
  subst hs
  have hVm : double.V X = (m : Rat) * P2 i := by rw [hV]; simp [sg]
  unfold Datum.root at e0
  simp only [if_neg hm, Bool.false_eq_true, if_false, Option.map_some] at e0
  obtain ⟨more, hmore⟩ : ∃ more, more = 2 * (double.fractionBits + 2) - m.log2 + ((i - ((2 * (double.fractionBits + 2) - m.log2 : Nat) : Int)) % 2).toNat := ⟨_, rfl⟩
  rw [← hmore] at e0
  have hfb : double.fractionBits = 52 := rfl
  rw [hfb] at hmore
  have hlm : m.log2 ≤ 52 := by
    have : m.log2 < 53 := (Nat.log2_lt hm).2 (by rw [binade_two] at hml; exact hml)
    omega
  have hmore2 : 108 ≤ m.log2 + more := by omega
  have hmore3 : m.log2 + more ≤ 109 := by omega
  have heven : (i - more) % 2 = 0 := by omega
  obtain ⟨h, hh⟩ : ∃ h, h = (i - more) / 2 := ⟨_, rfl⟩
  have hi : i = h + h + more := by omega
  rw [← hh] at e0
  have big : 324518553658426726783156020576256 ≤ m <<< more := by
    rw [Nat.shiftLeft_eq]
    have g2 : 2 ^ m.log2 ≤ m := Nat.log2_self_le hm
    calc 324518553658426726783156020576256 = 2 ^ 108 := by decide
      _ ≤ 2 ^ (m.log2 + more) := Nat.pow_le_pow_right (by omega) hmore2
      _ = 2 ^ m.log2 * 2 ^ more := Nat.pow_add ..
      _ ≤ m * 2 ^ more := Nat.mul_le_mul_right _ g2
  have small : m <<< more < 1298074214633706907132624082305024 := by
    rw [Nat.shiftLeft_eq]
    have g2 : m < 2 ^ (m.log2 + 1) := Nat.lt_log2_self
    calc m * 2 ^ more < 2 ^ (m.log2 + 1) * 2 ^ more := Nat.mul_lt_mul_of_pos_right g2 (Nat.two_pow_pos _)
      _ = 2 ^ (m.log2 + 1 + more) := (Nat.pow_add ..).symm
      _ ≤ 2 ^ 110 := Nat.pow_le_pow_right (by omega) (by omega)
      _ = 1298074214633706907132624082305024 := by decide
  have hat : double.V X = ((m <<< more : Nat) : Rat) * (P2 h * P2 h) := by
    rw [hVm, hi, P2_add, P2_add, Nat.shiftLeft_eq, Rat.natCast_mul, P2_nat]; grind
  generalize m <<< more = n at *
  obtain ⟨q1, q2⟩ := whole_root n (by omega) _ rfl
  generalize Datum.rootFrom n (n.log2 / 2 + 1) 0 = q at *
  have hr := double.write_rounds double_fb false (2 * q + (q * q != n).toNat) (h - 1) (x := ((2 * q + (q * q != n).toNat : Nat) : Rat) * P2 (h - 1)) (by simp [sg])
  injection e0 with e0
  rw [e0] at hr
  exact ⟨Z0, n, h, q, e1, f0, big, small, hat, q1, q2, hr⟩
theorem sqrt_le {n n' q q' : Nat} {h h' : Int} (b1 : 324518553658426726783156020576256 ≤ n) (b2 : n < 1298074214633706907132624082305024) (b1' : 324518553658426726783156020576256 ≤ n') (b2' : n' < 1298074214633706907132624082305024)
    (q1 : q * q ≤ n) (q2 : n < (q + 1) * (q + 1)) (q1' : q' * q' ≤ n') (q2' : n' < (q' + 1) * (q' + 1)) (hle : (n : Rat) * (P2 h * P2 h) ≤ (n' : Rat) * (P2 h' * P2 h')) :
    ((2 * q + (q * q != n).toNat : Nat) : Rat) * P2 (h - 1) ≤ ((2 * q' + (q' * q' != n').toNat : Nat) : Rat) * P2 (h' - 1) := by
  have hp := P2_pos h
  have hp' := P2_pos h'
  rcases (by omega : h = h' ∨ h < h' ∨ h' < h) with e | e | e
  · subst e
    have hn : n ≤ n' := by
      have := mul_le_cancel (Rat.mul_pos hp hp) hle
      exact_mod_cast this
    have hq : q ≤ q' := by
      apply Nat.le_of_not_lt
      intro hc
      have := Nat.mul_le_mul (show q' + 1 ≤ q from hc) (show q' + 1 ≤ q from hc)
      omega
    have hz : 2 * q + (q * q != n).toNat ≤ 2 * q' + (q' * q' != n').toNat := by
      rcases (by omega : q = q' ∨ q + 1 ≤ q') with rfl | h1
      · by_cases c : q * q = n'
        · have e : n' = n := by omega
          rw [e]; exact Nat.le_refl _
        · have : (q * q != n').toNat = 1 := by simp [c]
          have := Bool.toNat_le (q * q != n)
          omega
      · have := Bool.toNat_le (q * q != n)
        omega
    exact Rat.mul_le_mul_of_nonneg_right (by exact_mod_cast hz) (Rat.le_of_lt (P2_pos _))
  · have hq : q < 36028797018963968 := by
      apply Nat.lt_of_not_le
      intro hc
      have := Nat.mul_le_mul hc hc
      omega
    have hq' : 18014398509481983 ≤ q' := by
      apply Nat.le_of_not_lt
      intro hc
      have := Nat.mul_le_mul (show q' + 1 ≤ 18014398509481983 from hc) (show q' + 1 ≤ 18014398509481983 from hc)
      omega
    have hq'' : 18014398509481984 ≤ q' := by
      rcases (by omega : q' = 18014398509481983 ∨ 18014398509481984 ≤ q') with rfl | h1
      · omega
      · exact h1
    have t := Bool.toNat_le (q * q != n)
    have a1 : ((2 * q + (q * q != n).toNat : Nat) : Rat) ≤ ((72057594037927936 : Nat) : Rat) := by exact_mod_cast (show 2 * q + (q * q != n).toNat ≤ 72057594037927936 by omega)
    have a2 : ((36028797018963968 : Nat) : Rat) ≤ ((2 * q' + (q' * q' != n').toNat : Nat) : Rat) := by exact_mod_cast (show 36028797018963968 ≤ 2 * q' + (q' * q' != n').toNat by omega)
    have p1 := P2_mono (show h - 1 + 1 ≤ h' - 1 by omega)
    rw [P2_succ] at p1
    have g := P2_pos (h - 1)
    have g' := P2_pos (h' - 1)
    have s1 := Rat.mul_le_mul_of_nonneg_right a1 (Rat.le_of_lt g)
    have s2 := Rat.mul_le_mul_of_nonneg_right a2 (Rat.le_of_lt g')
    have s3 := Rat.mul_le_mul_of_nonneg_left p1 (show (0 : Rat) ≤ ((36028797018963968 : Nat) : Rat) from Rat.natCast_nonneg)
    have s4 : ((72057594037927936 : Nat) : Rat) = 2 * ((36028797018963968 : Nat) : Rat) := by decide +kernel
    grind
  · exfalso
    have p1 := P2_mono (show h' + 1 ≤ h by omega)
    rw [P2_succ] at p1
    have p2 := sq_le (show 0 ≤ 2 * P2 h' by grind) p1
    have a1 : ((324518553658426726783156020576256 : Nat) : Rat) ≤ (n : Rat) := by exact_mod_cast b1
    have a2 : (n' : Rat) < ((1298074214633706907132624082305024 : Nat) : Rat) := by exact_mod_cast b2'
    have hpp := Rat.mul_pos hp hp
    have hpp' := Rat.mul_pos hp' hp'
    have s1 := Rat.mul_le_mul_of_nonneg_right a1 (Rat.le_of_lt hpp)
    have s2 := Rat.mul_lt_mul_of_pos_right a2 hpp'
    have s3 := Rat.mul_le_mul_of_nonneg_left p2 (show (0 : Rat) ≤ ((324518553658426726783156020576256 : Nat) : Rat) from Rat.natCast_nonneg)
    have s4 : ((1298074214633706907132624082305024 : Nat) : Rat) = 4 * ((324518553658426726783156020576256 : Nat) : Rat) := by decide +kernel
    grind
/-- rounding keeps the order -/
theorem Rounds.mono {f : Format} {x y : Rat} {w v : Nat} (h : f.Rounds x false w) (h' : f.Rounds y false v) (fw : f.fin w) (fv : f.fin v) (hxy : x ≤ y) : f.V w ≤ f.V v := by
  obtain ⟨r, rfl, hr⟩ := h
  obtain ⟨r', rfl, hr'⟩ := h'
  have l1 := (f.fin_word_iff false r).1 fw
  have l2 := (f.fin_word_iff false r').1 fv
  rw [f.V_word l1, f.V_word l2]
  have := f.rv_mono (hr.mono hr' (by simp [sg]; exact hxy))
  simp [sg]; exact this
theorem pos_sgn {f : Format} {x : Nat} (h : 0 < f.V x) : f.sgn x = false := by
  unfold V at h
  cases e : f.sgn x
  · rfl
  · rw [e] at h
    have := f.rv_nonneg (f.rung x)
    simp [sg] at h
    grind
theorem root_mono {x y : Nat} (hx : single.fin x) (hy : single.fin y) (h0 : 0 ≤ single.V x) (hxy : single.V x ≤ single.V y) : single.V (rootF x) ≤ single.V (rootF y) := by
  obtain ⟨X, Z, a1, a2, a3, a4, a5, a6, a7⟩ := root_spec hx h0
  obtain ⟨Y, T, b1, b2, b3, b4, b5, b6, b7⟩ := root_spec hy (by grind)
  by_cases hz : single.V x = 0
  · have := a6 0 const_0.1 const_0.2.2 (by rw [hz, const_0.2.1]; simp)
    rw [const_0.2.1] at this
    grind
  · have hm : ∀ {x}, single.fin x → single.V x ≤ P2 128 := fun {x} hx => by
      have := single.rv_mono (Nat.le_of_lt hx)
      rw [rv_inf] at this
      unfold V
      have p := single.rv_nonneg (single.rung x)
      cases single.sgn x <;> simp [sg] <;> grind
    have mx := hm hx
    have my := hm hy
    obtain ⟨X', e1, f1, g1, _⟩ := widen hx
    obtain ⟨Y', e2, f2, g2, _⟩ := widen hy
    obtain rfl : X = X' := by rw [a1] at e1; exact Option.some.inj e1
    obtain rfl : Y = Y' := by rw [b1] at e2; exact Option.some.inj e2
    obtain ⟨Z', n, h, q, c1, c2, c3, c4, c5, c6, c7, c8⟩ := sqrt_at f1 (by rw [g1]; grind) (by rw [g1]; exact mx)
    obtain ⟨T', n', h', q', d1, d2, d3, d4, d5, d6, d7, d8⟩ := sqrt_at f2 (by rw [g2]; grind) (by rw [g2]; exact my)
    obtain rfl : Z = Z' := by rw [a2] at c1; exact Option.some.inj c1
    obtain rfl : T = T' := by rw [b2] at d1; exact Option.some.inj d1
    have le1 := sqrt_le c3 c4 d3 d4 c6 c7 d6 d7 (by rw [← c5, ← d5, g1, g2]; exact hxy)
    have le2 := c8.mono d8 c2 d2 le1
    obtain ⟨Z2, z1, _, z3, z4, _⟩ := sqrt_spec f1 (by rw [g1]; exact h0) (by rw [g1]; exact mx)
    obtain ⟨T2, t1, _, t3, t4, _⟩ := sqrt_spec f2 (by rw [g2]; grind) (by rw [g2]; exact my)
    obtain rfl : Z = Z2 := by rw [a2] at z1; exact Option.some.inj z1
    obtain rfl : T = T2 := by rw [b2] at t1; exact Option.some.inj t1
    have u := P2_mono (show (64 : Int) ≤ 100 by omega)
    have u2 := P2_pos 100
    obtain ⟨w, w1, w2, w3⟩ := narrow_any c2 (by grind) (by grind)
    obtain ⟨v, v1, v2, v3⟩ := narrow_any d2 (by grind) (by grind)
    obtain rfl : w = rootF x := by rw [a3] at w1; exact (Option.some.inj w1).symm
    obtain rfl : v = rootF y := by rw [b3] at v1; exact (Option.some.inj v1).symm
    by_cases zp : 0 < double.V Z
    · rw [pos_sgn zp] at w3
      rw [pos_sgn (show 0 < double.V T by grind)] at v3
      exact w3.mono v3 w2 v2 le2
    · have z0 : double.V Z = 0 := by grind
      have := (w3.bound const_0.1 const_0.2.2 (by rw [z0, const_0.2.1]; decide) (by rw [z0, const_0.2.1]; decide)).2.1
      rw [const_0.2.1] at this
      grind
theorem conv_mono {m n : Int} (h0 : 0 ≤ m) (h : m ≤ n) (hn : n ≤ 1073741824) : single.V (floatOfInt .f32 m) ≤ single.V (floatOfInt .f32 n) := by
  have a := conv_rounds m
  have b := conv_rounds n
  rw [show decide (m < 0) = false from decide_eq_false (by omega)] at a
  rw [show decide (n < 0) = false from decide_eq_false (by omega)] at b
  exact a.mono b (conv_big (k := 30) (by omega) (by omega) (by omega)).1 (conv_big (k := 30) (by omega) (by omega) (by omega)).1 (Rat.intCast_le_intCast.2 h)
theorem div_mono {x y c : Nat} (hx : single.fin x) (hy : single.fin y) (hc : single.fin c) (c0 : 0 < single.V c) (h0 : 0 ≤ single.V x) (hxy : single.V x ≤ single.V y) (fx : single.fin (divF x c)) (fy : single.fin (divF y c)) : single.V (divF x c) ≤ single.V (divF y c) := by
  have hcne : single.V c ≠ 0 := by grind
  have a := (divF_spec hx hc hcne).2
  have b := (divF_spec hy hc hcne).2
  by_cases z : single.V x = 0
  · have e : single.V x / single.V c = 0 := by rw [z, Rat.div_def, Rat.zero_mul]
    rw [e] at a
    have := (a.bound const_0.1 const_0.2.2 (by rw [const_0.2.1]; decide) (by rw [const_0.2.1]; decide)).2.1
    rw [const_0.2.1] at this
    have := div_nonneg hy hc c0 fy (by grind)
    grind
  · rw [pos_sgn (show 0 < single.V x by grind), pos_sgn c0] at a
    rw [pos_sgn (show 0 < single.V y by grind), pos_sgn c0] at b
    refine a.mono b fx fy ?_
    rw [Rat.div_def, Rat.div_def]
    exact Rat.mul_le_mul_of_nonneg_right hxy (Rat.le_of_lt (Rat.inv_pos.2 c0))
/-- the distance of a lattice's centre, of its square: between 0 and 4 -/
def farF (d c : Int) : Nat := divF (rootF (floatOfInt .f32 d)) (floatOfInt .f32 c)
theorem sq_bd {c : Int} (h1 : 1 ≤ c) (h2 : c ≤ 4096) : 1 ≤ c * c ∧ c * c ≤ 16777216 := by
  have a := Int.mul_le_mul h2 h2 (by omega) (by omega)
  have b := Int.mul_le_mul h1 h1 (by omega) (by omega)
  omega
theorem sq_exact {k c : Int} {p q : Nat} (hp : k * k = ((2 ^ p : Nat) : Int)) (hq : q = p + 24) (hp4 : p ≤ 4) (h1 : 1 ≤ c) (h2 : c ≤ 4096) : single.V (floatOfInt .f32 ((k * c) * (k * c))) = (((k * c) * (k * c) : Int) : Rat) := by
  have e : (k * c) * (k * c) = (c * c) * ((2 ^ p : Nat) : Int) := by rw [← hp]; grind
  obtain ⟨c1, c2⟩ := sq_bd h1 h2
  have x := conv_rounds ((k * c) * (k * c))
  rw [e] at x ⊢
  have pp : (0 : Int) < ((2 ^ p : Nat) : Int) := by have := Nat.two_pow_pos p; omega
  rw [show decide ((c * c) * ((2 ^ p : Nat) : Int) < 0) = false from decide_eq_false (by have := Int.mul_nonneg (show 0 ≤ c * c by omega) (Int.le_of_lt pp); omega)] at x
  by_cases c4 : c * c = 16777216
  · rw [c4] at x ⊢
    refine (x.exact 1 q (by decide) (by decide) (by omega) (by omega) ?_).2.1
    rw [P2_nat, hq, Nat.pow_add, Rat.intCast_mul, Rat.natCast_mul, Rat.intCast_natCast]
    have : ((16777216 : Int) : Rat) = ((2 ^ 24 : Nat) : Rat) := by decide +kernel
    rw [this]
    have : ((1 : Int) : Rat) = 1 := rfl
    grind
  · refine (x.exact (c * c) p (by omega) (by omega) (by omega) (by omega) ?_).2.1
    rw [P2_nat, Rat.intCast_mul, Rat.intCast_natCast]
theorem far_ok {d c : Int} (k : Int) (hk : k = 2 ∨ k = 4) (h0 : 0 ≤ d) (h1 : 1 ≤ c) (h2 : c ≤ 4096) (hd : d ≤ (k * c) * (k * c)) :
    single.fin (floatOfInt .f32 d) ∧ 0 ≤ single.V (floatOfInt .f32 d) ∧ single.fin (rootF (floatOfInt .f32 d)) ∧ single.fin (floatOfInt .f32 c) ∧ 0 < single.V (floatOfInt .f32 c) ∧ single.fin (farF d c) ∧ 0 ≤ single.V (farF d c) ∧ single.V (farF d c) ≤ (k : Rat) := by
  obtain ⟨c1, c2⟩ := sq_bd h1 h2
  have e : (k * c) * (k * c) = (k * k) * (c * c) := by grind
  have ve : single.V (floatOfInt .f32 ((k * c) * (k * c))) = (((k * c) * (k * c) : Int) : Rat) := by
    rcases hk with rfl | rfl
    · exact sq_exact (p := 2) (q := 26) rfl rfl (by omega) h1 h2
    · exact sq_exact (p := 4) (q := 28) rfl rfl (by omega) h1 h2
  have hb : 1 ≤ k ∧ k ≤ 4 ∧ (k * c) * (k * c) ≤ 268435456 ∧ 1 ≤ k * c ∧ k * c ≤ 16384 := by
    rw [e]
    rcases hk with rfl | rfl <;> omega
  obtain ⟨k1, k4, hsq, kc1, kc2⟩ := hb
  have b := conv_big (n := d) (k := 28) (by omega) (by omega) (by omega)
  have n := conv_nonneg (n := d) (k := 28) (by omega) h0 (by omega)
  obtain ⟨fc, vc, sc⟩ := conv_24 (n := c) h1 (by omega)
  obtain ⟨fk, vk, sk⟩ := conv_24 (n := k * c) kc1 (by omega)
  obtain ⟨fK, vK, sK⟩ := conv_24 (n := k) k1 (by omega)
  obtain ⟨X, Z, _, _, _, f, g, u, _⟩ := root_spec b.1 n
  have hc0 : 0 < single.V (floatOfInt .f32 c) := by
    rw [vc]
    have : ((0 : Int) : Rat) < (c : Rat) := Rat.intCast_lt_intCast.2 (by omega)
    simpa using this
  have hm : single.V (floatOfInt .f32 d) ≤ single.V (floatOfInt .f32 (k * c)) * single.V (floatOfInt .f32 (k * c)) := by
    have m := conv_mono h0 hd (by omega)
    rw [ve] at m
    rw [vk, ← Rat.intCast_mul]
    exact m
  have le := u _ fk sk hm
  have q := div_bound f fc hc0 fK sK (by rw [vK, vc]; rw [vk, Rat.intCast_mul] at le; exact le) (by
    rw [vK, vc]
    have : (0 : Rat) ≤ (k : Rat) * (c : Rat) := by rw [← Rat.intCast_mul]; exact Rat.intCast_nonneg.2 (by omega)
    grind)
  rw [vK] at q
  exact ⟨b.1, n, f, fc, hc0, q.1, div_nonneg f fc hc0 q.1 g, q.2.1⟩
theorem far_mono {d e c : Int} (h0 : 0 ≤ d) (hde : d ≤ e) (h1 : 1 ≤ c) (h2 : c ≤ 4096) (hd : e ≤ (4 * c) * (4 * c)) : single.V (farF d c) ≤ single.V (farF e c) := by
  obtain ⟨a1, a2, a3, a4, a5, a6, a7, a8⟩ := far_ok (d := d) 4 (.inr rfl) h0 h1 h2 (by omega)
  obtain ⟨b1, b2, b3, b4, b5, b6, b7, b8⟩ := far_ok (d := e) 4 (.inr rfl) (by omega) h1 h2 hd
  obtain ⟨_, _, _, _, _, _, g, _, _⟩ := root_spec a1 a2
  obtain ⟨c1, c2⟩ := sq_bd h1 h2
  exact div_mono a3 b3 a4 a5 g (root_mono a1 b1 a2 (conv_mono h0 hde (by
    have : (4 * c) * (4 * c) = 16 * (c * c) := by grind
    omega))) a6 b6
end Format
end Ieee




namespace Go.Proofs.YtimhpmccmafnpaaGreat
open Go.ChangeShapes Go.WideShapes Go.ChangeAt Go.RowKit
open Ieee.Format (fin finE htE allFin allHt all_true all_false mulF subF addF Ht Bd divF rootF floorF easeF mixF)
set_option linter.unusedVariables false

/-! ### the centres of a lattice -/
def cenX (seed i j c : Int) : Int := i * c + hashTo seed i j 2 3 % c
def cenY (seed i j c : Int) : Int := j * c + hashTo seed i j 3 3 % c
def cen (seed i j c : Int) : Int × Int := (cenX seed i j c, cenY seed i j c)
def sqI (a b : Int × Int) : Int := (a.1 - b.1) * (a.1 - b.1) + (a.2 - b.2) * (a.2 - b.2)
/-! ### the nearest centres, in plain Lean -/
def cenAt (seed i j c : Int) (n : Nat) : Int × Int := cen seed (i - 1 + (n % 3 : Nat)) (j - 1 + (n / 3 : Nat)) c
def cenL (seed i j c : Int) : List (Int × Int) := (List.range 9).map (cenAt seed i j c)
/-- the squares of the two least distances, and the nearest centre -/
def near3 (seed x y c : Int) : Int × Int × (Int × Int) := (cenL seed (x / c) (y / c) c).foldl (scanStep (fun p => sqI p (x, y))) (-1, -1, (0, 0))
theorem sqI_nonneg (a b : Int × Int) : 0 ≤ sqI a b := by
  unfold sqI
  have : ∀ z : Int, 0 ≤ z * z := fun z => by
    rcases Int.le_total 0 z with h | h
    · exact Int.mul_nonneg h h
    · exact Int.mul_nonneg_of_nonpos_of_nonpos h h
  have h1 := this (a.1 - b.1)
  have h2 := this (a.2 - b.2)
  omega
theorem sq_le_of {a m : Int} (h1 : -m ≤ a) (h2 : a ≤ m) : a * a ≤ m * m := by
  have := Int.mul_nonneg (show 0 ≤ m - a by omega) (show 0 ≤ m + a by omega)
  grind
theorem off_le {x c z : Int} {n : Nat} (h1 : 1 ≤ c) (hn : n < 3) (hz0 : 0 ≤ z) (hz1 : z < c) : -(2 * c) ≤ (x / c - 1 + (n : Int)) * c + z - x ∧ (x / c - 1 + (n : Int)) * c + z - x ≤ 2 * c ∧ (n = 1 → -c ≤ (x / c - 1 + (n : Int)) * c + z - x ∧ (x / c - 1 + (n : Int)) * c + z - x ≤ c) := by
  have e := Int.emod_add_mul_ediv x c
  have e1 := Int.emod_nonneg x (show c ≠ 0 by omega)
  have e2 := Int.emod_lt_of_pos x (show 0 < c by omega)
  have e3 : (x / c - 1 + (n : Int)) * c = c * (x / c) - c + (n : Int) * c := by grind
  rw [e3]
  rcases (by omega : n = 0 ∨ n = 1 ∨ n = 2) with rfl | rfl | rfl <;> simp only [Int.cast_ofNat_Int] <;> omega
theorem cen_near (seed x y c : Int) (h1 : 1 ≤ c) (n : Nat) (hn : n < 9) : sqI (cenAt seed (x / c) (y / c) c n) (x, y) ≤ (4 * c) * (4 * c) ∧ (n = 4 → sqI (cenAt seed (x / c) (y / c) c n) (x, y) ≤ (2 * c) * (2 * c)) := by
  have r1 := Int.emod_nonneg (hashTo seed (x / c - 1 + (n % 3 : Nat)) (y / c - 1 + (n / 3 : Nat)) 2 3) (show c ≠ 0 by omega)
  have r2 := Int.emod_lt_of_pos (hashTo seed (x / c - 1 + (n % 3 : Nat)) (y / c - 1 + (n / 3 : Nat)) 2 3) (show 0 < c by omega)
  have r3 := Int.emod_nonneg (hashTo seed (x / c - 1 + (n % 3 : Nat)) (y / c - 1 + (n / 3 : Nat)) 3 3) (show c ≠ 0 by omega)
  have r4 := Int.emod_lt_of_pos (hashTo seed (x / c - 1 + (n % 3 : Nat)) (y / c - 1 + (n / 3 : Nat)) 3 3) (show 0 < c by omega)
  unfold sqI cenAt cen cenX cenY
  simp only
  obtain ⟨a1, a2, a3⟩ := off_le (x := x) (n := n % 3) h1 (by omega) r1 r2
  obtain ⟨b1, b2, b3⟩ := off_le (x := y) (n := n / 3) h1 (by omega) r3 r4
  generalize (x / c - 1 + ((n % 3 : Nat) : Int)) * c + hashTo seed (x / c - 1 + (n % 3 : Nat)) (y / c - 1 + (n / 3 : Nat)) 2 3 % c - x = A at *
  generalize (y / c - 1 + ((n / 3 : Nat) : Int)) * c + hashTo seed (x / c - 1 + (n % 3 : Nat)) (y / c - 1 + (n / 3 : Nat)) 3 3 % c - y = B at *
  have s1 := sq_le_of a1 a2
  have s2 := sq_le_of b1 b2
  have c0 := Int.mul_nonneg (show 0 ≤ c by omega) (show 0 ≤ c by omega)
  have e1 : (2 * c) * (2 * c) = 4 * (c * c) := by grind
  have e2 : (4 * c) * (4 * c) = 16 * (c * c) := by grind
  refine ⟨by omega, fun h4 => ?_⟩
  subst h4
  have t1 := sq_le_of (a3 rfl).1 (a3 rfl).2
  have t2 := sq_le_of (b3 rfl).1 (b3 rfl).2
  omega
section
variable {α : Type}
theorem scan_inv (f : α → Int) (hf : ∀ a, 0 ≤ f a) (B : Int) : ∀ (L : List α) (s : Int × Int × α), (∀ a ∈ L, f a ≤ B) → 0 ≤ s.1 → s.1 ≤ B → (s.2.1 = -1 ∨ s.1 ≤ s.2.1) → s.2.1 ≤ B →
    0 ≤ (L.foldl (scanStep f) s).1 ∧ (L.foldl (scanStep f) s).1 ≤ s.1 ∧ (∀ a ∈ L, (L.foldl (scanStep f) s).1 ≤ f a) ∧ ((L.foldl (scanStep f) s).2.1 = -1 ∨ (L.foldl (scanStep f) s).1 ≤ (L.foldl (scanStep f) s).2.1) ∧ (L.foldl (scanStep f) s).2.1 ≤ B ∧ ((s.2.1 ≠ -1 ∨ L ≠ []) → (L.foldl (scanStep f) s).2.1 ≠ -1)
  | [], s, _, h0, hB, h1, h2 => by
    refine ⟨h0, Int.le_refl _, fun a h => absurd h (by simp), h1, h2, fun h => ?_⟩
    rcases h with h | h
    · exact h
    · exact absurd rfl h
  | c :: t, s, hL, h0, hB, h1, h2 => by
    have hc0 := hf c
    have hcB := hL c (by simp)
    rw [List.foldl_cons]
    have key : 0 ≤ (scanStep f s c).1 ∧ (scanStep f s c).1 ≤ s.1 ∧ (scanStep f s c).1 ≤ f c ∧ (scanStep f s c).1 ≤ (scanStep f s c).2.1 ∧ (scanStep f s c).2.1 ≤ B := by
      unfold scanStep
      split
      · exact ⟨hc0, by omega, by simp, by simp; omega, by simp; omega⟩
      · split
        · exact ⟨h0, by simp, by simp; omega, by simp; omega, by simp; omega⟩
        · exact ⟨h0, by simp, by omega, by omega, h2⟩
    obtain ⟨k1, k2, k3, k4, k5⟩ := key
    obtain ⟨a1, a2, a3, a4, a5, a6⟩ := scan_inv f hf B t (scanStep f s c) (fun a h => hL a (by simp [h])) k1 (by omega) (.inr k4) k5
    refine ⟨a1, by omega, fun a h => ?_, a4, a5, fun _ => a6 (.inl (by omega))⟩
    rcases List.mem_cons.1 h with rfl | h
    · omega
    · exact a3 a h
end
theorem cenL_cons (seed i j c : Int) : cenL seed i j c = cenAt seed i j c 0 :: (List.range 8).map (fun n => cenAt seed i j c (n + 1)) := by
  unfold cenL; simp [List.range_succ_eq_map, Function.comp_def]
theorem near3_ok (seed x y c : Int) (h1 : 1 ≤ c) : 0 ≤ (near3 seed x y c).1 ∧ (near3 seed x y c).1 ≤ (2 * c) * (2 * c) ∧ (near3 seed x y c).1 ≤ (near3 seed x y c).2.1 ∧ (near3 seed x y c).2.1 ≤ (4 * c) * (4 * c) := by
  have hb := fun n hn => cen_near seed x y c h1 n hn
  unfold near3
  have hmem : ∀ a ∈ cenL seed (x / c) (y / c) c, sqI a (x, y) ≤ (4 * c) * (4 * c) := fun a h => by
    unfold cenL at h
    obtain ⟨n, hn, rfl⟩ := List.mem_map.1 h
    exact (hb n (List.mem_range.1 hn)).1
  have h4 : cenAt seed (x / c) (y / c) c 4 ∈ cenL seed (x / c) (y / c) c := by unfold cenL; exact List.mem_map.2 ⟨4, by simp, rfl⟩
  have h00 := sqI_nonneg (cenAt seed (x / c) (y / c) c 0) (x, y)
  have hB0 := (hb 0 (by omega)).1
  have hc0 := Int.mul_nonneg (show 0 ≤ 4 * c by omega) (show 0 ≤ 4 * c by omega)
  rw [cenL_cons] at hmem h4 ⊢
  rw [List.foldl_cons]
  have hs : scanStep (fun p => sqI p (x, y)) (-1, -1, (0, 0)) (cenAt seed (x / c) (y / c) c 0) = (sqI (cenAt seed (x / c) (y / c) c 0) (x, y), -1, cenAt seed (x / c) (y / c) c 0) := by simp [scanStep]
  rw [hs]
  obtain ⟨a1, a2, a3, a4, a5, a6⟩ := scan_inv (fun p => sqI p (x, y)) (fun a => sqI_nonneg a _) ((4 * c) * (4 * c)) ((List.range 8).map (fun n => cenAt seed (x / c) (y / c) c (n + 1))) (sqI (cenAt seed (x / c) (y / c) c 0) (x, y), -1, cenAt seed (x / c) (y / c) c 0)
    (fun a h => hmem a (List.mem_cons_of_mem _ h)) h00 hB0 (.inl rfl) (by show (-1 : Int) ≤ (4 * c) * (4 * c); omega)
  have a6 := a6 (.inr (by simp))
  refine ⟨a1, ?_, ?_, a5⟩
  · have := (hb 4 (by omega)).2 rfl
    rcases List.mem_cons.1 h4 with h | h
    · rw [h] at this
      exact Int.le_trans a2 this
    · exact Int.le_trans (a3 _ h) this
  · rcases a4 with h | h
    · exact absurd h a6
    · exact h
def nearF (seed x y c : Int) : Nat := Ieee.Format.farF (near3 seed x y c).1 c
def nextF (seed x y c : Int) : Nat := Ieee.Format.farF (near3 seed x y c).2.1 c
theorem near_next (seed x y c : Int) (h1 : 1 ≤ c) (h2 : c ≤ 4096) : fin Ieee.single (nearF seed x y c) ∧ fin Ieee.single (nextF seed x y c) ∧ 0 ≤ Ieee.single.V (nearF seed x y c) ∧ Ieee.single.V (nearF seed x y c) ≤ 2 ∧ Ieee.single.V (nearF seed x y c) ≤ Ieee.single.V (nextF seed x y c) := by
  obtain ⟨a1, a2, a3, a4⟩ := near3_ok seed x y c h1
  obtain ⟨_, _, _, _, _, b6, b7, b8⟩ := Ieee.Format.far_ok 2 (.inl rfl) a1 h1 h2 a2
  obtain ⟨_, _, _, _, _, c6, _, _⟩ := Ieee.Format.far_ok 4 (.inr rfl) (show 0 ≤ (near3 seed x y c).2.1 by omega) h1 h2 a4
  exact ⟨b6, c6, b7, b8, Ieee.Format.far_mono a1 a3 h1 h2 a4⟩
end Go.Proofs.YtimhpmccmafnpaaGreat


namespace Ieee
namespace Format
open Go

/-! ### the three sums, in plain Lean -/
def sv : Rat := P2 (-24)
end Format
end Ieee



namespace Go.Proofs.YtimhpmccmafnpaaGreat
open Go.ChangeShapes Go.WideShapes Go.ChangeAt Go.RowKit
open Ieee.Format (fin finE htE allFin allHt all_true all_false mulF subF addF Ht Bd divF rootF floorF easeF mixF)
set_option linter.unusedVariables false

open Ieee.Format (Wi const_0 const_1 value_wi grad_wi mix_wi near_4 near_8 mulF_spec addF_spec)

theorem ease_unit {s : Nat} (h : Share s) : fin Ieee.single (easeF s) ∧ 0 ≤ Ieee.single.V (easeF s) ∧ Ieee.single.V (easeF s) ≤ 1 := by
  obtain ⟨_, _, _, f, a, b⟩ := Ieee.Format.ease_ok h.1 h.2.1 h.2.2
  exact ⟨f, a, b⟩
theorem lat_s {x c : Int} (h1 : 1 ≤ c) (h2 : c ≤ 4096) : Share (latS (x % c) c) := (lat_share (Int.emod_nonneg _ (by omega)) (Int.emod_lt_of_pos _ (by omega)) h2).1
theorem latS_lt (m c : Int) : latS m c < 4294967296 := Ieee.Format.divF_lt _ _
theorem valF_wi (seed x y c : Int) (h1 : 1 ≤ c) (h2 : c ≤ 4096) : Wi (1 + 8 * Ieee.P2 (-24)) (valF seed x y c) := by
  obtain ⟨a, b, d⟩ := ease_unit (lat_s (x := x) h1 h2)
  obtain ⟨a', b', d'⟩ := ease_unit (lat_s (x := y) h1 h2)
  unfold valF latF
  exact value_wi (cvF_wi ..) (cvF_wi ..) (cvF_wi ..) (cvF_wi ..) a b d a' b' d'
theorem gradF_wi (seed x y c : Int) (h1 : 1 ≤ c) (h2 : c ≤ 4096) : Wi (2 + 16 * Ieee.P2 (-24)) (gradF seed x y c) := by
  have sx := lat_s (x := x) h1 h2
  have sy := lat_s (x := y) h1 h2
  obtain ⟨a, b, d⟩ := ease_unit sx
  obtain ⟨a', b', d'⟩ := ease_unit sy
  have X := sx.dx (latS_lt _ _)
  have Y := sy.dx (latS_lt _ _)
  unfold gradF latF cgF
  exact grad_wi (dot_wi _ X Y) (dot_wi _ sx.dx1 Y) (dot_wi _ X sy.dx1) (dot_wi _ sx.dx1 sy.dx1) a b d a' b' d'
end Go.Proofs.YtimhpmccmafnpaaGreat


namespace Ieee
namespace Format
open Go

/-! ### sums of octaves, in plain Lean -/
theorem const_32 : single.fin 1107296256 ∧ single.V 1107296256 = 32 ∧ single.sgn 1107296256 = false := by
  have := V_const false 131 8388608 (.inr (by decide)) (by decide) (by decide)
  rw [show single.word false (131 * 8388608 + 8388608) = 1107296256 from by decide] at this
  refine ⟨this.1, ?_, this.2.2⟩
  rw [this.2.1, show ((131 : Nat) : Int) - 149 = -18 from rfl, show ((8388608 : Nat) : Rat) = P2 23 from (P2_nat 23).symm, ← P2_add]
  simp [sg]
  exact P2_nat 5
theorem place_32 : single.rplace 1107296255 = -19 := by
  rw [show (1107296255 : Nat) = (130 + 1) * 8388608 + 8388607 from by omega, place_at _ _ (by omega)]; rfl
theorem near_32 : Near1 32 (P2 (-20)) := near_of (-19) (-20) 1107296255 (by omega) const_32 (by omega) place_32
/-- the share of an octave -/
def octA (g : Nat) : Nat → Nat
  | 0 => 1065353216
  | k + 1 => mulF (octA g k) g
/-- the sum of the first octaves -/
def octS (g : Nat) (n : Nat → Nat) : Nat → Nat
  | 0 => 0
  | k + 1 => addF (octS g n k) (mulF (octA g k) (n k))
def reachF (g b k : Nat) : Nat := mulF (octS g (fun _ => b) k) 1065354055
theorem amp_ok {g : Nat} (hg : single.fin g) (g0 : 0 ≤ single.V g) (g1 : single.V g ≤ 1) : ∀ k, single.fin (octA g k) ∧ 0 ≤ single.V (octA g k) ∧ single.V (octA g k) ≤ 1
  | 0 => by unfold octA; exact ⟨const_1.1, by rw [const_1.2.1]; decide, by rw [const_1.2.1]; decide⟩
  | k + 1 => by
    obtain ⟨f, a, b⟩ := amp_ok hg g0 g1 k
    unfold octA
    have m0 := Rat.mul_nonneg a g0
    have m1 := Rat.mul_le_mul_of_nonneg_left g1 a
    have hr := (mulF_spec f hg).2
    have hb := hr.bound const_1.1 const_1.2.2 (by rw [const_1.2.1]; grind) (by rw [const_1.2.1]; grind)
    rw [const_1.2.1] at hb
    exact ⟨hb.1, hr.nonneg hb.1 m0, hb.2.1⟩
theorem unit24 : 0 < P2 (-24) ∧ P2 (-23) = 2 * P2 (-24) ∧ P2 (-20) = 16 * P2 (-24) ∧ P2 (-19) = 32 * P2 (-24) ∧ 16777216 * P2 (-24) = 1 := by
  have q1 : P2 (-23) = 2 * P2 (-24) := P2_double (-23)
  have q2 : P2 (-22) = 2 * P2 (-23) := P2_double (-22)
  have q3 : P2 (-21) = 2 * P2 (-22) := P2_double (-21)
  have q4 : P2 (-20) = 2 * P2 (-21) := P2_double (-20)
  have q5 : P2 (-19) = 2 * P2 (-20) := P2_double (-19)
  refine ⟨P2_pos _, q1, by grind, by grind, ?_⟩
  have := P2_add 24 (-24)
  rw [show P2 24 = ((2 ^ 24 : Nat) : Rat) from P2_nat 24] at this
  rw [show (24 : Int) + -24 = 0 from rfl, P2_zero] at this
  rw [this]; rfl
/-- what an octave's noise may be -/
def Noisy (b n : Nat) : Prop := single.fin n ∧ -(single.V b + P2 (-19)) ≤ single.V n ∧ single.V n ≤ single.V b + P2 (-19)
theorem oct_step {g b n s r k : Nat} (hk : k < 10) (fg : single.fin (octA g k)) (a0 : 0 ≤ single.V (octA g k)) (a1 : single.V (octA g k) ≤ 1) (hb : single.fin b) (b1 : 1 ≤ single.V b) (b3 : single.V b ≤ 3) (hn : Noisy b n)
    (fs : single.fin s) (fr : single.fin r) (r0 : 0 ≤ single.V r) (r1 : single.V r ≤ (k : Rat) * 3 + (k : Rat) * P2 (-20)) (hs1 : single.V s ≤ single.V r + (k : Rat) * (68 * P2 (-24))) (hs2 : -single.V s ≤ single.V r + (k : Rat) * (68 * P2 (-24))) :
    single.fin (mulF (octA g k) n) ∧ single.fin (mulF (octA g k) b) ∧ single.fin (addF s (mulF (octA g k) n)) ∧ single.fin (addF r (mulF (octA g k) b)) ∧ 0 ≤ single.V (addF r (mulF (octA g k) b)) ∧ 0 ≤ single.V (mulF (octA g k) b) ∧
    single.V r + single.V (mulF (octA g k) b) ≤ single.V (addF r (mulF (octA g k) b)) + P2 (-20) ∧ single.V (octA g k) * single.V b ≤ single.V (mulF (octA g k) b) + P2 (-23) ∧
    single.V (addF r (mulF (octA g k) b)) ≤ ((k + 1 : Nat) : Rat) * 3 + ((k + 1 : Nat) : Rat) * P2 (-20) ∧
    single.V (addF s (mulF (octA g k) n)) ≤ single.V (addF r (mulF (octA g k) b)) + ((k + 1 : Nat) : Rat) * (68 * P2 (-24)) ∧
    -single.V (addF s (mulF (octA g k) n)) ≤ single.V (addF r (mulF (octA g k) b)) + ((k + 1 : Nat) : Rat) * (68 * P2 (-24)) := by
  obtain ⟨u0, u1, u2, u3, u4⟩ := unit24
  obtain ⟨fn, n1, n2⟩ := hn
  have k0 : (0 : Rat) ≤ (k : Rat) := Rat.natCast_nonneg
  have k9 : (k : Rat) ≤ 9 := by exact_mod_cast (show k ≤ 9 by omega)
  have kc : ((k + 1 : Nat) : Rat) = (k : Rat) + 1 := by push_cast; rfl
  rw [kc]
  generalize hA : single.V (octA g k) = A at *
  have d0 : 0 ≤ P2 (-19) := by grind
  have m1 := Rat.mul_le_mul_of_nonneg_left n2 a0
  have m2 := Rat.mul_le_mul_of_nonneg_left n1 a0
  have m3 := Rat.mul_le_mul_of_nonneg_right a1 d0
  have m4 := Rat.mul_le_mul_of_nonneg_right a1 (show 0 ≤ single.V b by grind)
  have m5 := Rat.mul_nonneg a0 (show 0 ≤ single.V b by grind)
  have pn := (mulF_spec fg fn).2
  have pb := (mulF_spec fg hb).2
  rw [hA] at pn pb
  obtain ⟨fp, p1, p2, _, _⟩ := near_4 _ _ _ pn (by grind) (by grind)
  obtain ⟨fq, q1, q2, q3, q4⟩ := near_4 _ _ _ pb (by grind) (by grind)
  have q0 := pb.nonneg fq m5
  have q5 : single.V (mulF (octA g k) b) ≤ 3 := by
    have := pb.bound const_3.1 const_3.2.2 (by rw [const_3.2.1]; grind) (by rw [const_3.2.1]; grind)
    rw [const_3.2.1] at this
    exact this.2.1
  have j1 := Rat.mul_le_mul_of_nonneg_right k9 (Rat.le_of_lt u0)
  have ps := (addF_spec fs fp).2
  have pr := (addF_spec fr fq).2
  have e20 : ((k : Rat) + 1) * P2 (-20) = (k : Rat) * P2 (-20) + P2 (-20) := by rw [Rat.add_mul, Rat.one_mul]
  have e68 : ((k : Rat) + 1) * (68 * P2 (-24)) = (k : Rat) * (68 * P2 (-24)) + 68 * P2 (-24) := by rw [Rat.add_mul, Rat.one_mul]
  have l20 : (k : Rat) * P2 (-20) = 16 * ((k : Rat) * P2 (-24)) := by rw [u2]; grind
  have l68 : (k : Rat) * (68 * P2 (-24)) = 68 * ((k : Rat) * P2 (-24)) := by grind
  rw [Rat.mul_add] at m1
  rw [Rat.mul_neg, Rat.mul_add] at m2
  rw [Rat.one_mul] at m3 m4
  rw [e20, e68]
  clear e20 e68
  rw [l68] at hs1 hs2 ⊢
  rw [l20] at r1 ⊢
  clear l20 l68 n1 n2
  generalize (k : Rat) * P2 (-24) = ku at *
  obtain ⟨fS, s1, s2, _, _⟩ := near_32 _ _ _ ps (by clear ps pr pb pn; generalize A * P2 (-19) = w1 at *; generalize A * single.V b = w2 at *; generalize A * single.V n = w3 at *; grind) (by clear ps pr pb pn; generalize A * P2 (-19) = w1 at *; generalize A * single.V b = w2 at *; generalize A * single.V n = w3 at *; grind)
  obtain ⟨fR, t1, t2, _, _⟩ := near_32 _ _ _ pr (by clear ps pr pb pn; grind) (by clear ps pr pb pn; grind)
  have hr0 := pr.nonneg fR (by clear ps pr pb pn; grind)
  clear ps pr pb pn
  generalize A * P2 (-19) = w1 at *
  generalize A * single.V b = w2 at *
  generalize A * single.V n = w3 at *
  refine ⟨fp, fq, fS, fR, hr0, q0, t2, q2, ?_, ?_, ?_⟩
  · grind
  · grind
  · grind
theorem oct_all {g b : Nat} (n : Nat → Nat) (hg : single.fin g) (g0 : 0 ≤ single.V g) (g1 : single.V g ≤ 1) (hb : single.fin b) (b1 : 1 ≤ single.V b) (b3 : single.V b ≤ 3) : ∀ k, k ≤ 10 → (∀ j, j < k → Noisy b (n j)) →
    single.fin (octS g n k) ∧ single.fin (octS g (fun _ => b) k) ∧ 0 ≤ single.V (octS g (fun _ => b) k) ∧ single.V (octS g (fun _ => b) k) ≤ (k : Rat) * 3 + (k : Rat) * P2 (-20) ∧ (1 ≤ k → 1 ≤ single.V (octS g (fun _ => b) k) + ((k : Rat) + 1) * P2 (-20)) ∧
    single.V (octS g n k) ≤ single.V (octS g (fun _ => b) k) + (k : Rat) * (68 * P2 (-24)) ∧ -single.V (octS g n k) ≤ single.V (octS g (fun _ => b) k) + (k : Rat) * (68 * P2 (-24))
  | 0, _, _ => by
    unfold octS
    rw [const_0.2.1]
    refine ⟨const_0.1, const_0.1, by decide, by simp; grind, fun h => absurd h (by omega), by simp; grind, by simp; grind⟩
  | k + 1, hk, hn => by
    obtain ⟨a1, a2, a3, a4, a5, a6, a7⟩ := oct_all n hg g0 g1 hb b1 b3 k (by omega) (fun j hj => hn j (by omega))
    obtain ⟨f, p, q⟩ := amp_ok hg g0 g1 k
    obtain ⟨_, _, c3, c4, c5, c6, c7, c8, c9, c10, c11⟩ := oct_step (by omega) f p q hb b1 b3 (hn k (by omega)) a1 a2 a3 a4 a6 a7
    obtain ⟨u0, u1, u2, u3, u4⟩ := unit24
    unfold octS
    refine ⟨c3, c4, c5, c9, fun _ => ?_, c10, c11⟩
    have kc : ((k + 1 : Nat) : Rat) = (k : Rat) + 1 := by push_cast; rfl
    rw [kc]
    rcases Nat.eq_zero_or_pos k with rfl | h0
    · have e : single.V (octA g 0) = 1 := const_1.2.1
      rw [e] at c8
      have : ((0 : Nat) : Rat) = 0 := rfl
      grind
    · have := a5 h0
      grind
theorem const_reach : single.fin 1065354055 ∧ single.V 1065354055 = 1 + 1678 * P2 (-24) ∧ single.sgn 1065354055 = false := by
  have := V_const false 126 8389447 (.inr (by decide)) (by decide) (by decide)
  rw [show single.word false (126 * 8388608 + 8389447) = 1065354055 from by decide] at this
  refine ⟨this.1, ?_, this.2.2⟩
  obtain ⟨u0, u1, u2, u3, u4⟩ := unit24
  rw [this.2.1, show ((126 : Nat) : Int) - 149 = -23 from rfl]
  have e : ((8389447 : Nat) : Rat) = 8389447 := rfl
  rw [e]
  simp [sg]
  grind
/-- what the octaves add up to lies within the reach -/
theorem reach_ok {g b k : Nat} (n : Nat → Nat) (hg : single.fin g) (g0 : 0 ≤ single.V g) (g1 : single.V g ≤ 1) (hb : single.fin b) (b1 : 1 ≤ single.V b) (b3 : single.V b ≤ 3) (k1 : 1 ≤ k) (hk : k ≤ 10) (hn : ∀ j, j < k → Noisy b (n j)) :
    single.fin (octS g (fun _ => b) k) ∧ single.fin (reachF g b k) ∧ single.V (octS g n k) ≤ single.V (reachF g b k) ∧ -single.V (octS g n k) ≤ single.V (reachF g b k) ∧ single.V (reachF g b k) ≤ 32 ∧ 0 ≤ single.V (reachF g b k) := by
  obtain ⟨a1, a2, a3, a4, a5, a6, a7⟩ := oct_all n hg g0 g1 hb b1 b3 k hk hn
  have a5 := a5 k1
  obtain ⟨u0, u1, u2, u3, u4⟩ := unit24
  have k0 : (0 : Rat) ≤ (k : Rat) := Rat.natCast_nonneg
  have k9 : (k : Rat) ≤ 10 := by exact_mod_cast hk
  have j1 := Rat.mul_le_mul_of_nonneg_right k9 (Rat.le_of_lt u0)
  have hr := (mulF_spec a2 const_reach.1).2
  unfold reachF
  rw [const_reach.2.1] at hr
  generalize single.V (octS g (fun _ => b) k) = R at *
  generalize single.V (octS g n k) = S at *
  have e20 : ((k : Rat) + 1) * P2 (-20) = 16 * ((k : Rat) * P2 (-24)) + 16 * P2 (-24) := by rw [Rat.add_mul, Rat.one_mul, u2]; grind
  have f20 : (k : Rat) * P2 (-20) = 16 * ((k : Rat) * P2 (-24)) := by rw [u2]; grind
  have l68 : (k : Rat) * (68 * P2 (-24)) = 68 * ((k : Rat) * P2 (-24)) := by grind
  rw [e20] at a5
  rw [f20] at a4
  rw [l68] at a6 a7
  clear e20 f20 l68
  generalize (k : Rat) * P2 (-24) = ku at *
  have j2 : (1 : Rat) / 2 ≤ R := by clear hr; grind
  have j4 : R ≤ 31 := by clear hr; grind
  have j3 := Rat.mul_le_mul_of_nonneg_right j2 (Rat.le_of_lt u0)
  have j5 := Rat.mul_le_mul_of_nonneg_right j4 (Rat.le_of_lt u0)
  have e1 : R * (1 + 1678 * P2 (-24)) = R + 1678 * (R * P2 (-24)) := by grind
  rw [e1] at hr
  generalize R * P2 (-24) = Ru at *
  obtain ⟨f, r1, r2, r3, r4⟩ := near_32 _ _ _ hr (by clear hr; grind) (by clear hr; grind)
  have r0 := hr.nonneg f (by clear hr; grind)
  clear hr
  exact ⟨a2, f, by grind, by grind, r3, r0⟩
end Format
end Ieee





namespace Go.Proofs.YtimhpmccmafnpaaGreat
open Go.ChangeShapes Go.WideShapes Go.ChangeAt Go.RowKit
open Ieee.Format (fin finE htE allFin allHt all_true all_false mulF subF addF Ht Bd divF rootF floorF easeF mixF)
set_option linter.unusedVariables false

open Ieee.Format (Wi const_0 const_1 const_2 const_3 near_2 mulF_spec addF_spec subF_spec Noisy octA octS reachF reach_ok unit24)

/-! ### the fractal, in plain Lean -/
def octC (cell : Int) (k : Nat) : Int := max (cell / 2 ^ k) 1
def octF (kd seed cell x y : Int) (k : Nat) : Nat :=
  if kd = 1 then valF (hashTo seed (k : Int) 0 4 3) x y (octC cell k) else if kd = 2 then gradF (hashTo seed (k : Int) 0 4 3) x y (octC cell k) else if kd = 3 then nearF (hashTo seed (k : Int) 0 4 3) x y (octC cell k) else subF 1065353216 (mag (gradF (hashTo seed (k : Int) 0 4 3) x y (octC cell k)))
def bndF (kd : Int) : Nat := if kd = 2 then 1073741824 else if kd = 3 then 1077936128 else 1065353216
def fracF (kd seed cell : Int) (n g : Nat) (x y : Int) : Nat := octS g (octF kd seed cell x y) n
theorem octC_bd {cell : Int} (h1 : 1 ≤ cell) (h2 : cell ≤ 4096) (k : Nat) : 1 ≤ octC cell k ∧ octC cell k ≤ 4096 := by
  unfold octC
  have hp : (1 : Int) ≤ 2 ^ k := by exact_mod_cast Nat.one_le_two_pow
  have h3 : cell / 2 ^ k ≤ cell := Int.ediv_le_self _ (by omega)
  omega
theorem bndF_ok (kd : Int) : fin Ieee.single (bndF kd) ∧ 1 ≤ Ieee.single.V (bndF kd) ∧ Ieee.single.V (bndF kd) ≤ 3 := by
  unfold bndF
  split
  · exact ⟨const_2.1, by rw [const_2.2.1]; decide, by rw [const_2.2.1]; decide⟩
  · split
    · exact ⟨const_3.1, by rw [const_3.2.1]; decide, by rw [const_3.2.1]; decide⟩
    · exact ⟨const_1.1, by rw [const_1.2.1]; decide, by rw [const_1.2.1]; decide⟩
theorem ridge_ok {g : Nat} (h : Wi (2 + 16 * Ieee.P2 (-24)) g) : fin Ieee.single (mag g) ∧ fin Ieee.single (subF 1065353216 (mag g)) ∧ -(1 + 17 * Ieee.P2 (-24)) ≤ Ieee.single.V (subF 1065353216 (mag g)) ∧ Ieee.single.V (subF 1065353216 (mag g)) ≤ 1 + Ieee.P2 (-24) := by
  obtain ⟨f, a, b⟩ := h
  obtain ⟨u0, _, _, _, u4⟩ := unit24
  have fm := mag_fin f
  have hv : 0 ≤ Ieee.single.V (mag g) ∧ Ieee.single.V (mag g) ≤ 2 + 16 * Ieee.P2 (-24) := by
    obtain ⟨r, s⟩ := mag_parts g
    have : Ieee.single.V (mag g) = Ieee.single.V g ∨ Ieee.single.V (mag g) = -Ieee.single.V g := by
      unfold Ieee.Format.V
      rw [r, s]
      cases hx : Ieee.single.sgn g
      · left; rfl
      · right; simp only [Ieee.sg]; grind
    have h0 : 0 ≤ Ieee.single.V (mag g) := by
      unfold Ieee.Format.V
      rw [s]
      have := Ieee.single.rv_nonneg (Ieee.single.rung (mag g))
      simp only [Ieee.sg]; grind
    exact ⟨h0, by rcases this with h | h <;> rw [h] <;> grind⟩
  have hs := (subF_spec const_1.1 fm).2
  rw [const_1.2.1] at hs
  obtain ⟨fw, p, q, _, _⟩ := near_2 _ _ _ hs (by grind) (by grind)
  exact ⟨fm, fw, by grind, by grind⟩
theorem octF_noisy (kd seed cell x y : Int) (k : Nat) (h1 : 1 ≤ cell) (h2 : cell ≤ 4096) : Noisy (bndF kd) (octF kd seed cell x y k) := by
  obtain ⟨c1, c2⟩ := octC_bd h1 h2 k
  obtain ⟨u0, _, _, u3, u4⟩ := unit24
  have wv := valF_wi (hashTo seed (k : Int) 0 4 3) x y (octC cell k) c1 c2
  have wg := gradF_wi (hashTo seed (k : Int) 0 4 3) x y (octC cell k) c1 c2
  have wn := near_next (hashTo seed (k : Int) 0 4 3) x y (octC cell k) c1 c2
  obtain ⟨_, r1, r2, r3⟩ := ridge_ok wg
  unfold octF bndF Noisy
  rw [u3]
  by_cases k1 : kd = 1
  · rw [if_pos k1, if_neg (by omega), if_neg (by omega), const_1.2.1]
    exact ⟨wv.1, by have := wv.2.1; grind, by have := wv.2.2; grind⟩
  · rw [if_neg k1]
    by_cases k2 : kd = 2
    · rw [if_pos k2, if_pos k2, const_2.2.1]
      exact ⟨wg.1, by have := wg.2.1; grind, by have := wg.2.2; grind⟩
    · rw [if_neg k2, if_neg k2]
      by_cases k3 : kd = 3
      · rw [if_pos k3, if_pos k3, const_3.2.1]
        exact ⟨wn.1, by have := wn.2.2.1; grind, by have := wn.2.2.2.1; grind⟩
      · rw [if_neg k3, if_neg k3, const_1.2.1]
        exact ⟨r1, by grind, by grind⟩
end Go.Proofs.YtimhpmccmafnpaaGreat
