import Derived.Test.YtfmbekdfigbfiaaJD
namespace Go.Proofs.Ytfmbekdfigbfiaa
open Go.ChangeShapes Go.WideShapes Go.ChangeAt Go.RowKit
open Ieee.Format (fin finE htE allFin allHt all_true all_false mulF subF addF Ht Bd divF rootF floorF easeF mixF)
set_option linter.unusedVariables false
open Ieee.Format (const_0 const_1)

/-! ### rounding by chance, in plain Lean -/
def ditF (s v u : Nat) : Nat := if lss u (ter3 s v) = true then mulF (addF (ter2 s v) 1065353216) s else mulF (ter2 s v) s
theorem ditF_lt (s v u : Nat) : ditF s v u < 4294967296 := by unfold ditF; split <;> exact Ieee.Format.mulF_lt _ _
structure DitOk (s v : Nat) : Prop where
  a1 : fin Ieee.single (ter1 s v)
  a2 : fin Ieee.single (ter2 s v)
  a3 : fin Ieee.single (ter3 s v)
  a4 : fin Ieee.single (mulF (ter2 s v) s)
  a5 : fin Ieee.single (addF (ter2 s v) 1065353216)
  a6 : fin Ieee.single (mulF (addF (ter2 s v) 1065353216) s)
  l1 : ter1 s v < 4294967296
  s0 : fin Ieee.single s
  s1 : Ieee.single.V s ≠ 0
  v0 : fin Ieee.single v
theorem dit_ok {s v : Nat} (h : TerOk s 0) (hv : Bd 20 v) : DitOk s v := by
  obtain ⟨b1, b2, b3, b4, _, _, _, _, _, _, l1⟩ := ter_bd h hv
  have o := Ieee.Format.one_Bd 31
  have b5 := b2.add o (by omega)
  have b6 := b5.mul h.st (by omega)
  have p := Ieee.P2_pos (-10)
  have := h.st1
  exact ⟨b1.1, b2.1, b3.1, b4.1, b5.1, b6.1, l1, h.st.1, by grind, hv.1⟩

def dithE (s : Nat) : Int := if finE [s] ≠ 0 then finE [s] else stepC s
theorem stepC_zero {s : Nat} (hf : fin Ieee.single s) (h : stepC s = 0) : Ieee.P2 (-10) ≤ Ieee.single.V s ∧ Ieee.single.V s ≤ Ieee.P2 10 := by
  unfold stepC at h
  cases a1 : lss s 981467136 with
  | true => rw [a1, if_pos rfl] at h; omega
  | false =>
    rw [a1, if_neg (by decide)] at h
    cases a2 : gtr s 1149239296 with
    | true => rw [a2, if_pos rfl] at h; omega
    | false =>
      rw [lss_V hf const_m10.1, const_m10.2] at a1
      rw [gtr_V hf const_k10.1, const_k10.2] at a2
      have a1 := of_decide_eq_false a1
      have a2 := of_decide_eq_false a2
      exact ⟨by grind, by grind⟩
theorem stepC_cases (s : Nat) : stepC s = 0 ∨ stepC s = 3 := by
  unfold stepC
  split
  · exact .inr rfl
  · split
    · exact .inr rfl
    · exact .inl rfl
theorem dith_zero {s : Nat} (h : dithE s = 0) : TerOk s 0 := by
  unfold dithE at h
  by_cases hf : finE [s] = 0
  · rw [if_neg (by omega)] at h
    have f := finE_one hf
    obtain ⟨b1, b2⟩ := stepC_zero f h
    have p := Ieee.P2_pos (-10)
    have p2 := Ieee.P2_pos 10
    exact ⟨⟨f, by show -Ieee.P2 10 ≤ _; grind, by show _ ≤ Ieee.P2 10; exact b2⟩, b1, const_0.1, by rw [const_0.2.1]; grind, by rw [const_0.2.1]; decide⟩
  · rw [if_pos hf] at h; exact absurd h hf
theorem dithE_ht (s : Nat) : (if htE [s] ≠ 0 then htE [s] else stepC s) = dithE s := by
  unfold dithE
  by_cases hf : fin Ieee.single s
  · have f0 : finE [s] = 0 := Ieee.Format.finE_ok (by unfold allFin; simp [hf])
    rw [if_neg (show ¬ finE [s] ≠ 0 by omega)]
    by_cases ht : htE [s] = 0
    · rw [if_neg (by omega)]
    · rw [if_pos ht]
      have a1 : allFin [s] = true := by unfold allFin; simp [hf]
      have n1 : ¬ Ht s := fun hc => ht (Ieee.Format.htE_of_ht (Ieee.Format.allHt_iff.2 (by simpa using hc)))
      have h3 : htE [s] = 3 := Ieee.Format.htE_far a1 (by cases hh : allHt [s]; rfl; exact absurd (Ieee.Format.allHt_iff.1 hh s (by simp)) n1)
      rw [h3]
      rcases stepC_cases s with h | h
      · exfalso
        obtain ⟨b1, b2⟩ := stepC_zero hf h
        have m1 := Ieee.P2_mono (show (10 : Int) ≤ 20 by omega)
        have m2 := Ieee.P2_pos 20
        have m3 := Ieee.P2_pos (-10)
        exact n1 (Ieee.Format.Ht.of ⟨by grind, by grind⟩)
      · exact h.symm
  · have f0 : finE [s] = 2 := Ieee.Format.finE_bad (by unfold allFin; simp [hf])
    have h0 : htE [s] = 2 := Ieee.Format.htE_bad (by unfold allFin; simp [hf])
    rw [f0, h0]

/-- speckles -/
def spkF (p u : Nat) : Nat := if lss u p = true then 1065353216 else 0
theorem spkF_lt (p u : Nat) : spkF p u < 4294967296 := by unfold spkF; split <;> decide
theorem spkF_ht (p u : Nat) : Ht (spkF p u) := by
  have p := Ieee.P2_mono (show (0 : Int) ≤ 20 by omega)
  rw [Ieee.P2_zero] at p
  unfold spkF
  split
  · exact Ieee.Format.Ht.of ⟨by rw [const_1.2.1]; grind, by rw [const_1.2.1]; grind⟩
  · exact Ieee.Format.Ht.of ⟨by rw [const_0.2.1]; grind, by rw [const_0.2.1]; grind⟩
end Go.Proofs.Ytfmbekdfigbfiaa
