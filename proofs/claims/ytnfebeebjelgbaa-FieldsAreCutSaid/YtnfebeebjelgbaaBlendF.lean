import Derived.Test.YtnfebeebjelgbaaFloatQ
import Derived.Test.YtnfebeebjelgbaaM8
import Derived.Test.YtnfebeebjelgbaaEase
namespace Ieee
namespace Format
open Go
theorem sg_key (s t : Bool) (q : Rat) (hq : 0 ≤ q) (h : 0 ≤ sg s * (sg t * q)) : sg s * (sg t * q) = q := by
  cases s <;> cases t <;> simp [sg] at h ⊢ <;> grind
/-- a number that the format has comes out as it is -/
theorem Rounds.sing {x : Rat} {s : Bool} {w y : Nat} (h : single.Rounds x s w) (hy : single.fin y) (hx : x = single.V y) : single.fin w ∧ single.V w = x := by
  obtain ⟨r, rfl, hr⟩ := h
  have h0 := hr.2.2
  have hn := single.rv_nonneg (single.rung y)
  have e : sg s * x = single.rv (single.rung y) := by
    rw [hx] at h0 ⊢
    exact sg_key _ _ _ hn h0
  rw [e] at hr
  obtain rfl := hr.eq_of
  have lt : single.rung y < single.infRung := hy
  refine ⟨(single.fin_word_iff s _).2 lt, ?_⟩
  rw [single.V_word lt, ← e, ← Rat.mul_assoc, sg_sq, Rat.one_mul]
theorem mix_same {v s : Nat} (hv : single.fin v) (hs : single.fin s) : single.fin (mixF v v s) ∧ single.V (mixF v v s) = single.V v := by
  have h1 := (subF_spec hv hv).2.sing const_0.1 (by rw [const_0.2.1]; grind)
  have h2 := (mulF_spec h1.1 hs).2.sing const_0.1 (by rw [const_0.2.1, h1.2]; grind)
  have h3 := (addF_spec hv h2.1).2.sing hv (by rw [h2.2, h1.2]; grind)
  unfold mixF
  exact ⟨h3.1, by rw [h3.2, h2.2, h1.2]; grind⟩
end Format
end Ieee
namespace Go.Proofs.Ytnfebeebjelgbaa
open Go.ChangeShapes Go.WideShapes Go.ChangeAt Go.RowKit
open Ieee.Format (fin finE htE allFin allHt all_true all_false mulF subF addF Ht Bd divF rootF floorF easeF mixF)
set_option linter.unusedVariables false
/-! ### the blend of lists, in plain Lean -/
/-- the first k are the turned ones -/
def blL (ψ : Nat → Nat) (l : List Nat) (k : Nat) : List Nat := (List.range k).map ψ ++ l.drop k
theorem blL_zero (ψ : Nat → Nat) (l : List Nat) : blL ψ l 0 = l := by simp [blL]
theorem blL_len (ψ : Nat → Nat) (l : List Nat) (k : Nat) (hk : k ≤ l.length) : (blL ψ l k).length = l.length := by
  unfold blL; rw [List.length_append, List.length_map, List.length_range, List.length_drop]; omega
theorem blL_succ (ψ : Nat → Nat) (l : List Nat) (k : Nat) (hk : k < l.length) : (blL ψ l k).set k (ψ k) = blL ψ l (k + 1) := by
  unfold blL
  have h1 : ((List.range k).map ψ).length = k := by simp
  have hd := List.drop_eq_getElem_cons hk
  rw [List.set_append_right _ _ (by omega), h1, Nat.sub_self, List.range_succ, List.map_append, List.append_assoc, hd]
  rfl
/-- what Blend gives -/
def mixL (A B S : List Nat) : List Nat := (List.range A.length).map fun i => mixF (A.getD i 0) (B.getD i 0) (S.getD i 0)
theorem mixL_len (A B S : List Nat) : (mixL A B S).length = A.length := by simp [mixL]
theorem mixL_at (A B S : List Nat) (i : Nat) (hi : i < A.length) : (mixL A B S).getD i 0 = mixF (A.getD i 0) (B.getD i 0) (S.getD i 0) := by
  simp [mixL, List.getD_eq_getElem?_getD, List.getElem?_map, List.getElem?_range hi]
theorem blL_all (A B S : List Nat) : blL (fun i => mixF (A.getD i 0) (B.getD i 0) (S.getD i 0)) A A.length = mixL A B S := by simp [blL, mixL]
/-- a weight that Blend does not take -/
def noWt (v : Nat) : Bool := lss v 0 || gtr v 1065353216
theorem wt_bd {v : Nat} (hv : fin Ieee.single v) (h : noWt v = false) : Bd 0 v := by
  have h1 : lss v 0 = false ∧ gtr v 1065353216 = false := by unfold noWt at h; simpa using h
  have a : decide (Ieee.single.V v < Ieee.single.V 0) = false := by rw [← h1.1]; exact (Ieee.single.order_lt hv Ieee.Format.const_0.1).symm
  have b : decide (Ieee.single.V 1065353216 < Ieee.single.V v) = false := by rw [← h1.2]; exact (Ieee.single.order_gt hv Ieee.Format.const_1.1).symm
  rw [Ieee.Format.const_0.2.1] at a
  rw [Ieee.Format.const_1.2.1] at b
  have a' := of_decide_eq_false a
  have b' := of_decide_eq_false b
  refine ⟨hv, ?_, ?_⟩
  · have : Ieee.P2 ((0 : Nat) : Int) = 1 := Ieee.P2_zero
    rw [this]; grind
  · have : Ieee.P2 ((0 : Nat) : Int) = 1 := Ieee.P2_zero
    rw [this]; grind
end Go.Proofs.Ytnfebeebjelgbaa
