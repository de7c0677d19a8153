import Derived.Test.YtnfebeebjelgbaaWholeFn
import Derived.Test.YtnfebeebjelgbaaEase
namespace Go.Proofs.Ytnfebeebjelgbaa
open Go.ChangeShapes Go.WideShapes Go.ChangeAt Go.RowKit
open Ieee.Format (fin finE htE allFin allHt all_true all_false mulF subF addF Ht Bd divF rootF floorF easeF mixF)
set_option linter.unusedVariables false
open Ieee.Format (const_0 const_1 const_m24 frac_bd floor_spec add_nonneg sub_nonneg div_bound div_nonneg)

def sel2 (soft d : Nat) : Nat := if lss d soft = true then subF 1065353216 (easeF (divF d soft)) else 0
def selF (lo hi soft v : Nat) : Nat := if lss v lo = true then sel2 soft (subF lo v) else if gtr v hi = true then sel2 soft (subF v hi) else 1065353216

/-- what the walk of a selection needs -/
structure SelOk (soft D : Nat) : Prop where
  d : fin Ieee.single D
  s : fin Ieee.single soft
  pos : lss D soft = true → 0 < Ieee.single.V soft
  sh : lss D soft = true → Share (divF D soft)
  e : lss D soft = true → fin Ieee.single (easeF (divF D soft))
  r : lss D soft = true → fin Ieee.single (subF 1065353216 (easeF (divF D soft)))
  ht : Ht (sel2 soft D)
theorem sel_ok {soft d : Nat} (hd : fin Ieee.single d) (d0 : 0 ≤ Ieee.single.V d) (hs : fin Ieee.single soft) : SelOk soft d := by
  have key : lss d soft = true → 0 < Ieee.single.V soft ∧ Share (divF d soft) ∧ fin Ieee.single (easeF (divF d soft)) ∧ fin Ieee.single (subF 1065353216 (easeF (divF d soft))) ∧ Ht (subF 1065353216 (easeF (divF d soft))) := by
    intro h
    rw [lss_V hd hs] at h
    have h := of_decide_eq_true h
    have p : 0 < Ieee.single.V soft := by grind
    have m1 : Ieee.single.V 1065353216 * Ieee.single.V soft = Ieee.single.V soft := by rw [const_1.2.1, Rat.one_mul]
    obtain ⟨q1, q2, q3⟩ := div_bound hd hs p const_1.1 const_1.2.2 (by rw [m1]; grind) (by rw [m1]; grind)
    have q4 := div_nonneg hd hs p q1 d0
    rw [const_1.2.1] at q2
    obtain ⟨_, _, _, e1, e2, e3⟩ := Ieee.Format.ease_ok q1 q4 q2
    have hr := (Ieee.Format.subF_spec const_1.1 e1).2
    have b := hr.bd (k := 0) (by omega) (by rw [const_1.2.1]; show _ ≤ Ieee.P2 0; rw [Ieee.P2_zero]; grind) (by rw [const_1.2.1]; show -Ieee.P2 0 ≤ _; rw [Ieee.P2_zero]; grind)
    have hm := Ieee.P2_mono (show (0 : Int) ≤ 20 by omega)
    have b2 := b.2
    exact ⟨p, ⟨q1, q4, q2⟩, e1, b.1, Ieee.Format.Ht.of ⟨by have := b2.1; simp only [Int.cast_ofNat_Int] at this; grind, by have := b2.2; simp only [Int.cast_ofNat_Int] at this; grind⟩⟩
  refine ⟨hd, hs, fun h => (key h).1, fun h => (key h).2.1, fun h => (key h).2.2.1, fun h => (key h).2.2.2.1, ?_⟩
  unfold sel2
  split
  · rename_i h; exact (key h).2.2.2.2
  · decide
theorem sel_lo {lo hi v : Nat} (soft : Nat) (hlo : Ht lo) (hv : Ht v) (hs : Ht soft) (h : lss v lo = true) : SelOk soft (subF lo v) := by
  have b := (Ieee.Format.Ht.bd hlo).sub (Ieee.Format.Ht.bd hv) (by omega)
  rw [lss_V hv.fin hlo.fin] at h
  have h := of_decide_eq_true h
  exact sel_ok b.1 (sub_nonneg hlo.fin hv.fin b.1 (by grind)) hs.fin
theorem sel_hi {lo hi v : Nat} (soft : Nat) (hhi : Ht hi) (hv : Ht v) (hs : Ht soft) (h : gtr v hi = true) : SelOk soft (subF v hi) := by
  have b := (Ieee.Format.Ht.bd hv).sub (Ieee.Format.Ht.bd hhi) (by omega)
  rw [gtr_V hv.fin hhi.fin] at h
  have h := of_decide_eq_true h
  exact sel_ok b.1 (sub_nonneg hv.fin hhi.fin b.1 (by grind)) hs.fin
theorem selF_ht {lo hi soft v : Nat} (hlo : Ht lo) (hhi : Ht hi) (hs : Ht soft) (hv : Ht v) : Ht (selF lo hi soft v) := by
  unfold selF
  split
  · rename_i h; exact (sel_lo (hi := hi) soft hlo hv hs h).ht
  · split
    · rename_i h; exact (sel_hi (lo := lo) soft hhi hv hs h).ht
    · decide
theorem selF_lt (lo hi soft v : Nat) : selF lo hi soft v < 4294967296 := by
  have h : ∀ d, sel2 soft d < 4294967296 := by
    intro d; unfold sel2; split
    · exact Ieee.Format.subF_lt _ _
    · decide
  unfold selF
  split
  · exact h _
  · split
    · exact h _
    · decide

/-- terraces -/
def ter1 (step v : Nat) : Nat := divF v step
def ter2 (step v : Nat) : Nat := floorF (ter1 step v)
def ter3 (step v : Nat) : Nat := subF (ter1 step v) (ter2 step v)
def ter4 (step sharp v : Nat) : Nat := divF (subF (ter3 step v) sharp) (subF 1065353216 sharp)
def terF (step sharp v : Nat) : Nat := if lss (ter3 step v) sharp = true then mulF (ter2 step v) step else mulF (addF (ter2 step v) (ter4 step sharp v)) step
structure TerOk (step sharp : Nat) : Prop where
  st : Bd 10 step
  st1 : Ieee.P2 (-10) ≤ Ieee.single.V step
  sh : fin Ieee.single sharp
  sh0 : 0 ≤ Ieee.single.V sharp
  sh1 : Ieee.single.V sharp < 1
theorem sharp_gap {s : Nat} (hs : fin Ieee.single s) (h0 : 0 ≤ Ieee.single.V s) (h1 : Ieee.single.V s < 1) : Ieee.single.V s ≤ 1 - Ieee.P2 (-24) := by
  have e : Ieee.single.V s = Ieee.single.rv (Ieee.single.rung s) ∨ Ieee.single.V s = 0 := by
    unfold Ieee.Format.V at *
    have n := Ieee.single.rv_nonneg (Ieee.single.rung s)
    cases hh : Ieee.single.sgn s
    · left; simp [Ieee.sg]
    · right; rw [hh] at h0; simp only [Ieee.sg, if_true] at h0 ⊢; grind
  have p := Ieee.P2_lt (show (-24 : Int) < 0 by omega)
  rw [Ieee.P2_zero] at p
  rcases e with e | e
  · have c1 : Ieee.single.rv 1065353216 = 1 := by
      have := const_1.2.1
      rw [Ieee.Format.V_pos_word const_1.2.2] at this
      exact this
    rw [e, ← c1] at h1
    have hr := Ieee.single.rv_lt_iff.1 h1
    have hm := Ieee.single.rv_mono (show Ieee.single.rung s ≤ 1065353215 by omega)
    have c2 := Ieee.single.rv_succ 1065353215
    rw [show 1065353215 + 1 = 1065353216 from rfl, c1, show Ieee.single.rplace 1065353215 = -24 from by decide] at c2
    rw [e]; grind
  · rw [e]; grind
theorem ter_bd {step sharp v : Nat} (h : TerOk step sharp) (hv : Bd 20 v) :
    Bd 30 (ter1 step v) ∧ Bd 31 (ter2 step v) ∧ Bd 0 (ter3 step v) ∧ Bd 41 (mulF (ter2 step v) step) ∧ Bd 1 (subF (ter3 step v) sharp) ∧ fin Ieee.single (subF 1065353216 sharp) ∧ Ieee.single.V (subF 1065353216 sharp) ≠ 0 ∧ Bd 25 (ter4 step sharp v) ∧ Bd 32 (addF (ter2 step v) (ter4 step sharp v)) ∧ Bd 42 (mulF (addF (ter2 step v) (ter4 step sharp v)) step) ∧ ter1 step v < 4294967296 := by
  have a1 : Bd 30 (ter1 step v) := Ieee.Format.Bd.div (j := 10) hv h.st.1 h.st1 (by omega)
  have l1 : ter1 step v < 4294967296 := Ieee.Format.divF_lt _ _
  have a2 : Bd 31 (ter2 step v) := by
    obtain ⟨X, s, m, i, _, _, _, hf, _, z, g1, g2, g3⟩ := floor_spec a1.1 l1
    refine ⟨hf, ?_⟩
    rw [show ter2 step v = floorF (ter1 step v) from rfl, g1]
    have b := a1.2
    have p30 := Ieee.P2_succ 30
    have p0 := Ieee.P2_mono (show (0 : Int) ≤ 30 by omega)
    rw [Ieee.P2_zero] at p0
    simp only [Int.cast_ofNat_Int] at b ⊢
    rw [show (31 : Int) = 30 + 1 from rfl, p30]
    constructor <;> grind
  obtain ⟨a3, _⟩ := frac_bd a1.1 l1
  have a4 := a2.mul h.st (by omega)
  have p0 : Bd 0 sharp := ⟨h.sh, by
    have := h.sh0; have := h.sh1
    show -Ieee.P2 0 ≤ _ ∧ _ ≤ Ieee.P2 0
    rw [Ieee.P2_zero]; constructor <;> grind⟩
  have a5 := Ieee.Format.Bd.sub (k := 0) a3 p0 (by omega)
  have o0 : Bd 0 1065353216 := Ieee.Format.one_Bd 0
  have a6 := o0.sub p0 (by omega)
  have gap := sharp_gap h.sh h.sh0 h.sh1
  have pp := Ieee.P2_pos (-24)
  have a7 : Ieee.P2 (-24) ≤ Ieee.single.V (subF 1065353216 sharp) := by
    have := (Ieee.Format.subF_spec const_1.1 h.sh).2.ge_const (c := 864026624) a6.1 const_m24.2.2 (by rw [const_m24.2.1]; exact pp) (by rw [const_m24.2.1, const_1.2.1]; grind)
    rw [const_m24.2.1] at this; exact this
  have a8 : Bd 25 (ter4 step sharp v) := Ieee.Format.Bd.div (j := 24) a5 a6.1 a7 (by omega)
  have a9 := a2.add (a8.mono (show 25 ≤ 31 by omega)) (by omega)
  exact ⟨a1, a2, a3, a4, a5, a6.1, by intro e; rw [e] at a7; grind, a8, a9, a9.mul h.st (by omega), l1⟩
theorem terF_lt (step sharp v : Nat) : terF step sharp v < 4294967296 := by
  unfold terF; split <;> exact Ieee.Format.mulF_lt _ _
end Go.Proofs.Ytnfebeebjelgbaa
