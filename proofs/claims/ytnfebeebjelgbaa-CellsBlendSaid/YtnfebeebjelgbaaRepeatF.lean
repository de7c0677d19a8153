import Derived.Test.YtnfebeebjelgbaaKernF
import Derived.Laws.CopyOwn
namespace Go.Proofs.Ytnfebeebjelgbaa
open Go.ChangeShapes Go.WideShapes Go.ChangeAt Go.RowKit
open Ieee.Format (fin finE htE allFin allHt all_true all_false mulF subF addF Ht Bd divF rootF floorF easeF mixF)
set_option linter.unusedVariables false

/-! ### a list laid again and again, in plain Lean -/
def repL (l : List Nat) (c : Nat) : List Nat := (List.range (l.length * c)).map fun i => l.getD (i % l.length) 0
theorem repL_len (l : List Nat) (c : Nat) : (repL l c).length = l.length * c := by unfold repL; simp
theorem repL_at (l : List Nat) (c i : Nat) (h : i < l.length * c) : (repL l c).getD i 0 = l.getD (i % l.length) 0 := by
  unfold repL
  simp [List.getD_eq_getElem?_getD, List.getElem?_map, List.getElem?_range h]
/-- the first m of N places hold the list again and again -/
structure RepAt (l : List Nat) (N m : Nat) (L : List Nat) : Prop where
  len : L.length = N
  m1 : l.length ≤ m
  m2 : m ≤ N
  at_ : ∀ i, i < m → L.getD i 0 = l.getD (i % l.length) 0
  lt : ∀ x ∈ L, x < 4294967296
  mod : m < N → m % l.length = 0
theorem getD_splice (L cs : List Nat) (off i : Nat) (h : off + cs.length ≤ L.length) : (splice L off cs).getD i 0 = if i < off then L.getD i 0 else if i < off + cs.length then cs.getD (i - off) 0 else L.getD i 0 := by
  unfold splice
  have h0 : (L.take off).length = off := by rw [List.length_take]; omega
  simp only [List.getD_eq_getElem?_getD]
  by_cases c1 : i < off
  · rw [if_pos c1, List.getElem?_append_left (by omega), List.getElem?_take, if_pos c1]
  · rw [if_neg c1, List.getElem?_append_right (by omega), h0]
    by_cases c2 : i < off + cs.length
    · rw [if_pos c2, List.getElem?_append_left (by omega)]
    · rw [if_neg c2, List.getElem?_append_right (by omega), List.getElem?_drop]
      congr 2; omega
theorem splice_lt {L cs : List Nat} {off : Nat} (h1 : ∀ x ∈ L, x < 4294967296) (h2 : ∀ x ∈ cs, x < 4294967296) : ∀ x ∈ splice L off cs, x < 4294967296 := by
  intro x hx
  unfold splice at hx
  rcases List.mem_append.1 hx with h | h
  · exact h1 x (List.mem_of_mem_take h)
  · rcases List.mem_append.1 h with h | h
    · exact h2 x h
    · exact h1 x (List.mem_of_mem_drop h)
theorem rep_start {l : List Nat} {c : Nat} (hc : 1 ≤ c) (hl : ∀ x ∈ l, x < 4294967296) : RepAt l (l.length * c) l.length (splice (List.replicate (l.length * c) 0) 0 l) := by
  have hN : l.length * 1 ≤ l.length * c := Nat.mul_le_mul_left _ hc
  have hfit : 0 + l.length ≤ (List.replicate (l.length * c) 0).length := by rw [List.length_replicate]; omega
  refine ⟨by rw [length_splice _ _ _ hfit, List.length_replicate], Nat.le_refl _, by omega, fun i hi => ?_, splice_lt (fun x hx => by rw [List.eq_of_mem_replicate hx]; decide) hl, fun _ => Nat.mod_self _⟩
  rw [getD_splice _ _ _ _ hfit, if_neg (by omega), if_pos (by omega), Nat.sub_zero, Nat.mod_eq_of_lt hi]
theorem rep_step {l : List Nat} {N m : Nat} {L : List Nat} (h : RepAt l N m L) (h0 : 0 < l.length) (hm : m < N) : RepAt l N (m + min m (N - m)) (splice L m (L.take (min m (N - m)))) := by
  have hlen := h.len
  have m1 := h.m1
  have ht : (L.take (min m (N - m))).length = min m (N - m) := by rw [List.length_take]; omega
  have hfit : m + (L.take (min m (N - m))).length ≤ L.length := by rw [ht]; omega
  refine ⟨by rw [length_splice _ _ _ hfit, hlen], by omega, by omega, fun i hi => ?_, splice_lt h.lt (fun x hx => h.lt x (List.mem_of_mem_take hx)), fun hlt => ?_⟩
  · rw [getD_splice _ _ _ _ hfit, ht]
    by_cases c1 : i < m
    · rw [if_pos c1]; exact h.at_ i c1
    · rw [if_neg c1, if_pos hi]
      have e : (L.take (min m (N - m))).getD (i - m) 0 = L.getD (i - m) 0 := by
        rw [List.getD_eq_getElem?_getD, List.getD_eq_getElem?_getD, List.getElem?_take, if_pos (by omega)]
      rw [e, h.at_ (i - m) (by omega)]
      have hmod := h.mod hm
      congr 1
      have e2 : i = m + (i - m) := by omega
      conv => rhs; rw [e2]
      rw [Nat.add_mod, hmod, Nat.zero_add, Nat.mod_mod]
  · have hmod := h.mod hm
    have e : min m (N - m) = m := by omega
    rw [e, Nat.add_mod, hmod]
    simp
theorem rep_end {l : List Nat} {c : Nat} {L : List Nat} (h : RepAt l (l.length * c) (l.length * c) L) : L = repL l c := by
  apply List.ext_getElem
  · rw [h.len, repL_len]
  · intro i h1 h2
    have a := h.at_ i (by rw [← h.len]; exact h1)
    have b := repL_at l c i (by rw [← h.len]; exact h1)
    rw [List.getD_eq_getElem?_getD, List.getElem?_eq_getElem h1] at a
    rw [List.getD_eq_getElem?_getD, List.getElem?_eq_getElem h2] at b
    simpa using a.trans b.symm
end Go.Proofs.Ytnfebeebjelgbaa
