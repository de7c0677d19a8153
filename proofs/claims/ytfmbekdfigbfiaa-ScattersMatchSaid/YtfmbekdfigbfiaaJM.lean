import Derived.Test.YtfmbekdfigbfiaaJL
import Derived.Test.YtfmbekdfigbfiaaJO
import Derived.Test.YtfmbekdfigbfiaaJC
import Derived.Sort.LotA
import Derived.Test.YtfmbekdfigbfiaaKFloatS
import Derived.StillTailTactics
import Derived.StillTactics
import Derived.Test.YtfmbekdfigbfiaaHeldL
import Derived.BigQuiet
import Derived.Deep.QuietTactic
import Derived.RegionTactic
import Derived.ChangeAlike
import Derived.Deep.DeepCutAuto
import Derived.Test.YtfmbekdfigbfiaaJN
import Derived.Shelf.SlSortCmp.InsertionK
import Derived.Shelf.SlLaysF0
namespace Go.Proofs.Ytfmbekdfigbfiaa
open Go.ChangeShapes Go.WideShapes Go.ChangeAt Go.RowKit
open Ieee.Format (fin finE htE allFin allHt all_true all_false mulF subF addF Ht Bd divF rootF floorF easeF mixF)
set_option linter.unusedVariables false

/-! ### the two nearest of a list, and the insertion sort, in plain Lean -/
section
variable {α : Type} [Inhabited α]
/-- less far -/
def nearer (f : α → Int) (a b : α) : Bool := decide (f a < f b)
/-- one step of the search for the two nearest -/
def scanStep (f : α → Int) (s : Int × Int × α) (c : α) : Int × Int × α :=
  if s.1 < 0 ∨ f c < s.1 then (f c, s.1, c) else if s.2.1 < 0 ∨ f c < s.2.1 then (s.1, f c, s.2.2) else s
omit [Inhabited α] in
theorem nearer_swo (f : α → Int) : Sort.SWO (nearer f) := by
  refine ⟨fun x => ?_, fun x y z h1 h2 => ?_, fun x y z h1 h2 => ?_⟩ <;> simp only [nearer, decide_eq_true_eq, decide_eq_false_iff_not] at * <;> omega
theorem swp_at (d : Array α) {i j : Nat} (hi : i < d.size) (hj : j < d.size) (k : Nat) : (Sort.swp d i j)[k]! = if k = j then d[i]! else if k = i then d[j]! else d[k]! := Sort.swp_get d hi hj k
theorem ins_size (lt : α → α → Bool) : ∀ (j : Nat) (d : Array α), (Sort.insInner lt 0 j d).size = d.size
  | 0, d => by unfold Sort.insInner; rfl
  | j + 1, d => by
    unfold Sort.insInner
    split
    · rw [ins_size lt j]; exact Sort.swp_size _ _ _
    · rfl
theorem ins_far (lt : α → α → Bool) : ∀ (j : Nat) (d : Array α) (k : Nat), j < d.size → j < k → (Sort.insInner lt 0 j d)[k]! = d[k]!
  | 0, d, k, _, _ => by unfold Sort.insInner; rfl
  | j + 1, d, k, hs, hk => by
    unfold Sort.insInner
    split
    · rw [ins_far lt j _ k (by rw [Sort.swp_size]; omega) (by omega), swp_at _ hs (by omega), if_neg (by omega), if_neg (by omega)]
    · rfl
/-- what lies first and second behind the moves to the left -/
theorem ins_two (f : α → Int) : ∀ (j : Nat) (d : Array α), j < d.size → (∀ p q, p < q → q < j → f d[p]! ≤ f d[q]!) →
    (Sort.insInner (nearer f) 0 j d)[0]! = (if j = 0 then d[0]! else if f d[j]! < f d[0]! then d[j]! else d[0]!) ∧
    (1 ≤ j → (Sort.insInner (nearer f) 0 j d)[1]! = (if f d[j]! < f d[0]! then d[0]! else if j = 1 ∨ f d[j]! < f d[1]! then d[j]! else d[1]!))
  | 0, d, _, _ => by unfold Sort.insInner; exact ⟨rfl, fun h => absurd h (by omega)⟩
  | j + 1, d, hs, ho => by
    have hj : j < d.size := by omega
    have g := swp_at d hs hj
    have ih := ins_two f j (Sort.swp d (j + 1) j) (by rw [Sort.swp_size]; exact hj) (fun p q h1 h2 => by
      rw [g, g, if_neg (by omega), if_neg (by omega), if_neg (by omega), if_neg (by omega)]; exact ho p q h1 (by omega))
    have far := ins_far (nearer f) j (Sort.swp d (j + 1) j) (j + 1) (by rw [Sort.swp_size]; exact hj) (by omega)
    rw [g, if_neg (by omega), if_pos rfl] at far
    unfold Sort.insInner
    by_cases hc : f d[j + 1]! < f d[j]!
    · rw [if_pos (by simp [nearer, hc])]
      rcases Nat.eq_zero_or_pos j with h0 | h0
      · subst h0
        refine ⟨?_, fun _ => ?_⟩
        · rw [ih.1, if_pos rfl, g, if_pos rfl, if_neg (by omega), if_pos hc]
        · rw [far, if_pos hc]
      · obtain ⟨a, b⟩ := ih
        have b := b h0
        rw [g, g, if_pos rfl, if_neg (show ¬ 0 = j by omega), if_neg (show ¬ 0 = j + 1 by omega)] at a b
        rw [if_neg (by omega)] at a
        rw [g] at b
        refine ⟨?_, fun _ => ?_⟩
        · rw [if_neg (show ¬ j + 1 = 0 by omega), a]
        · rw [b]
          by_cases h1 : j = 1
          · subst h1
            by_cases h2 : f d[1 + 1]! < f d[0]!
            · simp [h2]
            · simp [h2, hc]
          · have e1 : ¬ 1 = j := by omega
            have e2 : ¬ 0 = j := by omega
            have e3 : ¬ j = 0 := by omega
            by_cases h2 : f d[j + 1]! < f d[0]!
            · simp [h2, e1, e2, e3]
            · by_cases h3 : f d[j + 1]! < f d[1]!
              · simp [h1, h2, h3, e1, e2, e3]
              · simp [h1, h2, h3, e1, e2, e3]
    · rw [if_neg (by simp [nearer, hc])]
      have m0 : f d[0]! ≤ f d[j]! := by
        rcases Nat.eq_zero_or_pos j with h0 | h0
        · subst h0; exact Int.le_refl _
        · exact ho 0 j h0 (by omega)
      refine ⟨by rw [if_neg (by omega), if_neg (by omega)], fun _ => ?_⟩
      rw [if_neg (by omega)]
      rcases Nat.eq_zero_or_pos j with h0 | h0
      · subst h0; rw [if_pos (.inl rfl)]
      · have m1 : f d[1]! ≤ f d[j]! := by
          rcases (by omega : j = 1 ∨ 1 < j) with h | h
          · subst h; exact Int.le_refl _
          · exact ho 1 j h (by omega)
        rw [if_neg (by omega)]
/-- the two nearest, as the search has them behind the first i -/
theorem scan_two (f : α → Int) (hf : ∀ a, 0 ≤ f a) (L : List α) : ∀ (n i : Nat) (d : Array α) (s : Int × Int × α), L.length - i = n → d.size = L.length → 1 ≤ i → i ≤ L.length →
    (∀ p q, p < q → q < i → f d[p]! ≤ f d[q]!) → (∀ k, i ≤ k → k < L.length → some d[k]! = L[k]?) →
    s = (f d[0]!, if i = 1 then -1 else f d[1]!, d[0]!) →
    (L.drop i).foldl (scanStep f) s = (f (Sort.insOuter (nearer f) 0 L.length i d)[0]!, if L.length = 1 then -1 else f (Sort.insOuter (nearer f) 0 L.length i d)[1]!, (Sort.insOuter (nearer f) 0 L.length i d)[0]!)
  | 0, i, d, s, hn, hd, h1, h2, ho, hr, hs => by
    obtain rfl : i = L.length := by omega
    rw [Sort.insOuter, if_neg (by omega), List.drop_length]
    exact hs
  | n + 1, i, d, s, hn, hd, h1, h2, ho, hr, hs => by
    have hi : i < L.length := by omega
    have e := hr i (Nat.le_refl _) hi
    rw [List.getElem?_eq_getElem hi, Option.some.injEq] at e
    rw [Sort.insOuter, if_pos hi, List.drop_eq_getElem_cons hi, List.foldl_cons, ← e]
    have t := ins_two f i d (by omega) ho
    have hsw := (Sort.insInner_spec (lt := nearer f) (nearer_swo f) Sort.swp_permIn Sort.permIn_refl Sort.permIn_trans 0 (i + 1) i (by omega) i d (by omega) (Nat.le_refl _) (by omega)
      ⟨fun p q _ hpq hqi _ hq => by have := ho p q hpq (by omega); simp [nearer]; omega, fun q h1 h2 => by omega⟩).2
    refine scan_two f hf L n (i + 1) _ _ (by omega) (by rw [ins_size]; exact hd) (by omega) hi (fun p q hpq hq => ?_) (fun k hk hkl => ?_) ?_
    · have := hsw p q (by omega) hpq (by omega)
      simp [nearer] at this
      exact this
    · rw [ins_far _ _ _ _ (by omega) (by omega)]; exact hr k (by omega) hkl
    · have p0 := hf d[0]!
      have p1 := hf d[1]!
      obtain ⟨a, b⟩ := t
      have b := b h1
      have e1 : ¬ i = 0 := by omega
      rw [a, b, hs]
      unfold scanStep
      by_cases c : f d[i]! < f d[0]!
      · simp [c, e1]
      · have n0 : ¬ f d[0]! < 0 := by omega
        by_cases h : i = 1
        · subst h
          simp [c, n0]
        · have n1 : ¬ f d[1]! < 0 := by omega
          by_cases c2 : f d[i]! < f d[1]!
          · simp [c, n0, h, c2, e1]
          · simp [c, n0, h, c2, n1, e1]
/-- the search finds what the insertion sort puts first and second -/
theorem scan_sort (f : α → Int) (hf : ∀ a, 0 ≤ f a) (z : α) (L : List α) (hL : 2 ≤ L.length) :
    L.foldl (scanStep f) (-1, -1, z) = (f (Sort.insertionSort (nearer f) L.toArray 0 L.length)[0]!, f (Sort.insertionSort (nearer f) L.toArray 0 L.length)[1]!, (Sort.insertionSort (nearer f) L.toArray 0 L.length)[0]!) := by
  have h := scan_two f hf L (L.length - 1) 1 L.toArray (scanStep f (-1, -1, z) L.toArray[0]!) (by omega) (by simp) (by omega) (by omega) (fun p q h1 h2 => by omega)
    (fun k h1 h2 => by simp [getElem!_def, h2]) (by simp [scanStep])
  rw [if_neg (by omega)] at h
  rw [← Sort.insertionSort] at h
  rw [← h]
  obtain ⟨a, t, rfl⟩ : ∃ a t, L = a :: t := by
    match L, hL with
    | a :: t, _ => exact ⟨a, t, rfl⟩
  simp
end
end Go.Proofs.Ytfmbekdfigbfiaa

namespace Go.Proofs.Ytfmbekdfigbfiaa
open Go.ChangeShapes Go.WideShapes Go.ChangeAt Go.RowKit
open Ieee.Format (fin finE htE allFin allHt all_true all_false mulF subF addF Ht Bd divF rootF floorF easeF mixF)
set_option linter.unusedVariables false

/-! ### the centres of a lattice -/
def cenX (seed i j c : Int) : Int := i * c + hashTo seed i j 2 3 % c
def cenY (seed i j c : Int) : Int := j * c + hashTo seed i j 3 3 % c
def cen (seed i j c : Int) : Int × Int := (cenX seed i j c, cenY seed i j c)
def sqI (a b : Int × Int) : Int := (a.1 - b.1) * (a.1 - b.1) + (a.2 - b.2) * (a.2 - b.2)
theorem cen_mul {i c : Int} (h1 : -16777216 ≤ i) (h2 : i ≤ 16777216) (h3 : 1 ≤ c) (h4 : c ≤ 4096) : -68719476736 ≤ i * c ∧ i * c ≤ 68719476736 := by
  have a := Int.mul_le_mul_of_nonneg_right h1 (show 0 ≤ c by omega)
  have b := Int.mul_le_mul_of_nonneg_right h2 (show 0 ≤ c by omega)
  omega
/-! ### the nearest centres, in plain Lean -/
def cenAt (seed i j c : Int) (n : Nat) : Int × Int := cen seed (i - 1 + (n % 3 : Nat)) (j - 1 + (n / 3 : Nat)) c
def cenL (seed i j c : Int) : List (Int × Int) := (List.range 9).map (cenAt seed i j c)
/-- the squares of the two least distances, and the nearest centre -/
def near3 (seed x y c : Int) : Int × Int × (Int × Int) := (cenL seed (x / c) (y / c) c).foldl (scanStep (fun p => sqI p (x, y))) (-1, -1, (0, 0))
theorem sqI_nonneg (a b : Int × Int) : 0 ≤ sqI a b := by
  unfold sqI
  have : ∀ z : Int, 0 ≤ z * z := fun z => by
    rcases Int.le_total 0 z with h | h
    · exact Int.mul_nonneg h h
    · exact Int.mul_nonneg_of_nonpos_of_nonpos h h
  have h1 := this (a.1 - b.1)
  have h2 := this (a.2 - b.2)
  omega
theorem sq_le_of {a m : Int} (h1 : -m ≤ a) (h2 : a ≤ m) : a * a ≤ m * m := by
  have := Int.mul_nonneg (show 0 ≤ m - a by omega) (show 0 ≤ m + a by omega)
  grind
theorem off_le {x c z : Int} {n : Nat} (h1 : 1 ≤ c) (hn : n < 3) (hz0 : 0 ≤ z) (hz1 : z < c) : -(2 * c) ≤ (x / c - 1 + (n : Int)) * c + z - x ∧ (x / c - 1 + (n : Int)) * c + z - x ≤ 2 * c ∧ (n = 1 → -c ≤ (x / c - 1 + (n : Int)) * c + z - x ∧ (x / c - 1 + (n : Int)) * c + z - x ≤ c) := by
  have e := Int.emod_add_mul_ediv x c
  have e1 := Int.emod_nonneg x (show c ≠ 0 by omega)
  have e2 := Int.emod_lt_of_pos x (show 0 < c by omega)
  have e3 : (x / c - 1 + (n : Int)) * c = c * (x / c) - c + (n : Int) * c := by grind
  rw [e3]
  rcases (by omega : n = 0 ∨ n = 1 ∨ n = 2) with rfl | rfl | rfl <;> simp only [Int.cast_ofNat_Int] <;> omega
theorem cen_near (seed x y c : Int) (h1 : 1 ≤ c) (n : Nat) (hn : n < 9) : sqI (cenAt seed (x / c) (y / c) c n) (x, y) ≤ (4 * c) * (4 * c) ∧ (n = 4 → sqI (cenAt seed (x / c) (y / c) c n) (x, y) ≤ (2 * c) * (2 * c)) := by
  have r1 := Int.emod_nonneg (hashTo seed (x / c - 1 + (n % 3 : Nat)) (y / c - 1 + (n / 3 : Nat)) 2 3) (show c ≠ 0 by omega)
  have r2 := Int.emod_lt_of_pos (hashTo seed (x / c - 1 + (n % 3 : Nat)) (y / c - 1 + (n / 3 : Nat)) 2 3) (show 0 < c by omega)
  have r3 := Int.emod_nonneg (hashTo seed (x / c - 1 + (n % 3 : Nat)) (y / c - 1 + (n / 3 : Nat)) 3 3) (show c ≠ 0 by omega)
  have r4 := Int.emod_lt_of_pos (hashTo seed (x / c - 1 + (n % 3 : Nat)) (y / c - 1 + (n / 3 : Nat)) 3 3) (show 0 < c by omega)
  unfold sqI cenAt cen cenX cenY
  simp only
  obtain ⟨a1, a2, a3⟩ := off_le (x := x) (n := n % 3) h1 (by omega) r1 r2
  obtain ⟨b1, b2, b3⟩ := off_le (x := y) (n := n / 3) h1 (by omega) r3 r4
  generalize (x / c - 1 + ((n % 3 : Nat) : Int)) * c + hashTo seed (x / c - 1 + (n % 3 : Nat)) (y / c - 1 + (n / 3 : Nat)) 2 3 % c - x = A at *
  generalize (y / c - 1 + ((n / 3 : Nat) : Int)) * c + hashTo seed (x / c - 1 + (n % 3 : Nat)) (y / c - 1 + (n / 3 : Nat)) 3 3 % c - y = B at *
  have s1 := sq_le_of a1 a2
  have s2 := sq_le_of b1 b2
  have c0 := Int.mul_nonneg (show 0 ≤ c by omega) (show 0 ≤ c by omega)
  have e1 : (2 * c) * (2 * c) = 4 * (c * c) := by grind
  have e2 : (4 * c) * (4 * c) = 16 * (c * c) := by grind
  refine ⟨by omega, fun h4 => ?_⟩
  subst h4
  have t1 := sq_le_of (a3 rfl).1 (a3 rfl).2
  have t2 := sq_le_of (b3 rfl).1 (b3 rfl).2
  omega
section
variable {α : Type}
theorem scan_inv (f : α → Int) (hf : ∀ a, 0 ≤ f a) (B : Int) : ∀ (L : List α) (s : Int × Int × α), (∀ a ∈ L, f a ≤ B) → 0 ≤ s.1 → s.1 ≤ B → (s.2.1 = -1 ∨ s.1 ≤ s.2.1) → s.2.1 ≤ B →
    0 ≤ (L.foldl (scanStep f) s).1 ∧ (L.foldl (scanStep f) s).1 ≤ s.1 ∧ (∀ a ∈ L, (L.foldl (scanStep f) s).1 ≤ f a) ∧ ((L.foldl (scanStep f) s).2.1 = -1 ∨ (L.foldl (scanStep f) s).1 ≤ (L.foldl (scanStep f) s).2.1) ∧ (L.foldl (scanStep f) s).2.1 ≤ B ∧ ((s.2.1 ≠ -1 ∨ L ≠ []) → (L.foldl (scanStep f) s).2.1 ≠ -1)
  | [], s, _, h0, hB, h1, h2 => by
    refine ⟨h0, Int.le_refl _, fun a h => absurd h (by simp), h1, h2, fun h => ?_⟩
    rcases h with h | h
    · exact h
    · exact absurd rfl h
  | c :: t, s, hL, h0, hB, h1, h2 => by
    have hc0 := hf c
    have hcB := hL c (by simp)
    rw [List.foldl_cons]
    have key : 0 ≤ (scanStep f s c).1 ∧ (scanStep f s c).1 ≤ s.1 ∧ (scanStep f s c).1 ≤ f c ∧ (scanStep f s c).1 ≤ (scanStep f s c).2.1 ∧ (scanStep f s c).2.1 ≤ B := by
      unfold scanStep
      split
      · exact ⟨hc0, by omega, by simp, by simp; omega, by simp; omega⟩
      · split
        · exact ⟨h0, by simp, by simp; omega, by simp; omega, by simp; omega⟩
        · exact ⟨h0, by simp, by omega, by omega, h2⟩
    obtain ⟨k1, k2, k3, k4, k5⟩ := key
    obtain ⟨a1, a2, a3, a4, a5, a6⟩ := scan_inv f hf B t (scanStep f s c) (fun a h => hL a (by simp [h])) k1 (by omega) (.inr k4) k5
    refine ⟨a1, by omega, fun a h => ?_, a4, a5, fun _ => a6 (.inl (by omega))⟩
    rcases List.mem_cons.1 h with rfl | h
    · omega
    · exact a3 a h
end
theorem cenL_cons (seed i j c : Int) : cenL seed i j c = cenAt seed i j c 0 :: (List.range 8).map (fun n => cenAt seed i j c (n + 1)) := by
  unfold cenL; simp [List.range_succ_eq_map, Function.comp_def]
theorem cenL_length (seed i j c : Int) : (cenL seed i j c).length = 9 := by unfold cenL; simp
theorem cenL_at (seed i j c : Int) (n : Nat) (h : n < 9) : (cenL seed i j c)[n]? = some (cenAt seed i j c n) := by unfold cenL; simp [h]
theorem cenL_take (seed i j c : Int) (n : Nat) (h : n < 9) : (cenL seed i j c).take (n + 1) = (cenL seed i j c).take n ++ [cenAt seed i j c n] := by
  rw [List.take_add_one, cenL_at _ _ _ _ _ h]; rfl
theorem near3_ok (seed x y c : Int) (h1 : 1 ≤ c) : 0 ≤ (near3 seed x y c).1 ∧ (near3 seed x y c).1 ≤ (2 * c) * (2 * c) ∧ (near3 seed x y c).1 ≤ (near3 seed x y c).2.1 ∧ (near3 seed x y c).2.1 ≤ (4 * c) * (4 * c) := by
  have hb := fun n hn => cen_near seed x y c h1 n hn
  unfold near3
  have hmem : ∀ a ∈ cenL seed (x / c) (y / c) c, sqI a (x, y) ≤ (4 * c) * (4 * c) := fun a h => by
    unfold cenL at h
    obtain ⟨n, hn, rfl⟩ := List.mem_map.1 h
    exact (hb n (List.mem_range.1 hn)).1
  have h4 : cenAt seed (x / c) (y / c) c 4 ∈ cenL seed (x / c) (y / c) c := by unfold cenL; exact List.mem_map.2 ⟨4, by simp, rfl⟩
  have h00 := sqI_nonneg (cenAt seed (x / c) (y / c) c 0) (x, y)
  have hB0 := (hb 0 (by omega)).1
  have hc0 := Int.mul_nonneg (show 0 ≤ 4 * c by omega) (show 0 ≤ 4 * c by omega)
  rw [cenL_cons] at hmem h4 ⊢
  rw [List.foldl_cons]
  have hs : scanStep (fun p => sqI p (x, y)) (-1, -1, (0, 0)) (cenAt seed (x / c) (y / c) c 0) = (sqI (cenAt seed (x / c) (y / c) c 0) (x, y), -1, cenAt seed (x / c) (y / c) c 0) := by simp [scanStep]
  rw [hs]
  obtain ⟨a1, a2, a3, a4, a5, a6⟩ := scan_inv (fun p => sqI p (x, y)) (fun a => sqI_nonneg a _) ((4 * c) * (4 * c)) ((List.range 8).map (fun n => cenAt seed (x / c) (y / c) c (n + 1))) (sqI (cenAt seed (x / c) (y / c) c 0) (x, y), -1, cenAt seed (x / c) (y / c) c 0)
    (fun a h => hmem a (List.mem_cons_of_mem _ h)) h00 hB0 (.inl rfl) (by show (-1 : Int) ≤ (4 * c) * (4 * c); omega)
  have a6 := a6 (.inr (by simp))
  refine ⟨a1, ?_, ?_, a5⟩
  · have := (hb 4 (by omega)).2 rfl
    rcases List.mem_cons.1 h4 with h | h
    · rw [h] at this
      exact Int.le_trans a2 this
    · exact Int.le_trans (a3 _ h) this
  · rcases a4 with h | h
    · exact absurd h a6
    · exact h
def nearF (seed x y c : Int) : Nat := Ieee.Format.farF (near3 seed x y c).1 c
def nextF (seed x y c : Int) : Nat := Ieee.Format.farF (near3 seed x y c).2.1 c
def atP (seed x y c : Int) : Int × Int := (near3 seed x y c).2.2
theorem near_next (seed x y c : Int) (h1 : 1 ≤ c) (h2 : c ≤ 4096) : fin Ieee.single (nearF seed x y c) ∧ fin Ieee.single (nextF seed x y c) ∧ 0 ≤ Ieee.single.V (nearF seed x y c) ∧ Ieee.single.V (nearF seed x y c) ≤ 2 ∧ Ieee.single.V (nearF seed x y c) ≤ Ieee.single.V (nextF seed x y c) := by
  obtain ⟨a1, a2, a3, a4⟩ := near3_ok seed x y c h1
  obtain ⟨_, _, _, _, _, b6, b7, b8⟩ := Ieee.Format.far_ok 2 (.inl rfl) a1 h1 h2 a2
  obtain ⟨_, _, _, _, _, c6, _, _⟩ := Ieee.Format.far_ok 4 (.inr rfl) (show 0 ≤ (near3 seed x y c).2.1 by omega) h1 h2 a4
  exact ⟨b6, c6, b7, b8, Ieee.Format.far_mono a1 a3 h1 h2 a4⟩
end Go.Proofs.Ytfmbekdfigbfiaa

namespace Go.Proofs.Ytfmbekdfigbfiaa
open Go.ChangeShapes Go.WideShapes Go.ChangeAt Go.RowKit
open Ieee.Format (fin finE htE allFin allHt all_true all_false mulF subF addF Ht Bd divF rootF floorF easeF mixF)
set_option linter.unusedVariables false

def ptV (p : Int × Int) : Value := .agg #[.int .i64 p.1, .int .i64 p.2]
def ptC (p : Int × Int) : Array Value := #[.int .i64 p.1, .int .i64 p.2]
theorem hash1_bel (seed x y n : Int) (w : World) : Calls Try.prog 179 #[.int .u32 seed, .int .i64 x, .int .i64 y, .int .i64 n] w fun e w' => e = .returned (.int .u32 (hashTo seed x y n 3)) ∧ Below w.heap.size w w' :=
  (hash1 seed x y n w).mono fun _ _ h => ⟨h.1, h.2 ▸ Below.refl _ _⟩

/-- what lies in a cell -/
def cellV (w : World) (p : Addr) : Value := (w.cell? p).getD (.bool false)
theorem cellV_of {w : World} {p : Addr} {v : Value} (h : w.cell? p = some v) : w.cell? p = some (cellV w p) := by unfold cellV; rw [h]; rfl
theorem pt_store {w : World} {k : Nat} {a b : Int} (h : Blk w k #[.int .i64 a, .int .i64 b] 36) (x y : Int) :
    Blk ((w.setCell ⟨k, 0, none⟩ (.int .i64 x)).setCell ⟨k, 1, none⟩ (.int .i64 y)) k #[.int .i64 x, .int .i64 y] 36 ∧ Below k w ((w.setCell ⟨k, 0, none⟩ (.int .i64 x)).setCell ⟨k, 1, none⟩ (.int .i64 y)) := by
  refine ⟨?_, (by repeat (first | with_reducible exact Below.refl _ _ | with_reducible apply Below.drew | with_reducible refine below_drewN ?_ _ | (with_reducible refine Below.setCell ?_ ?_ _; rotate_left; focus (first | omega | (simp <;> omega))) | (with_reducible refine Below.alloc ?_ ?_ _; rotate_left; focus (first | omega | (simp <;> omega)))))⟩
  have h1 : Blk (w.setCell ⟨k, 0, none⟩ (.int .i64 x)) k #[.int .i64 x, .int .i64 b] 36 := by
    unfold Blk at *; exact heap_setCell_same w k 0 _ _ _ h
  unfold Blk at *; exact heap_setCell_same _ k 1 _ _ _ h1
set_option maxRecDepth 100000 in
set_option maxHeartbeats 1000000 in
theorem centre_any (seed i j c : Int) (w : World) (hi : -16777216 ≤ i) (hi2 : i ≤ 16777216) (hj : -16777216 ≤ j) (hj2 : j ≤ 16777216) (h1 : 1 ≤ c) (h2 : c ≤ 4096) :
    Calls Try.prog 177 #[.int .u32 seed, .int .i64 i, .int .i64 j, .int .i64 c] w fun e w' => e = .returned (ptV (cen seed i j c)) ∧ Below w.heap.size w w' := by
  have K2 : ∀ w, Calls Try.prog 179 #[.int .u32 seed, .int .i64 i, .int .i64 j, .int .i64 2] w fun e w' => e = .returned (.int .u32 (hashTo seed i j 2 3)) ∧ w' = w := fun w => (hash1 seed i j 2 w).mono fun _ _ h => ⟨h.1, h.2.symm⟩
  have K3 : ∀ w, Calls Try.prog 179 #[.int .u32 seed, .int .i64 i, .int .i64 j, .int .i64 3] w fun e w' => e = .returned (.int .u32 (hashTo seed i j 3 3)) ∧ w' = w := fun w => (hash1 seed i j 3 w).mono fun _ _ h => ⟨h.1, h.2.symm⟩
  have KH2 := Lib.hid K2
  have KH3 := Lib.hid K3
  clear K2 K3
  obtain ⟨a0, a1⟩ := hash_bounds seed i j 2
  obtain ⟨b0, b1⟩ := hash_bounds seed i j 3
  obtain ⟨m1, m2⟩ := cen_mul hi hi2 h1 h2
  obtain ⟨m3, m4⟩ := cen_mul hj hj2 h1 h2
  have r1 := Int.emod_nonneg (hashTo seed i j 2 3) (show c ≠ 0 by omega)
  have r2 := Int.emod_lt_of_pos (hashTo seed i j 2 3) (show 0 < c by omega)
  have r3 := Int.emod_nonneg (hashTo seed i j 3 3) (show c ≠ 0 by omega)
  have r4 := Int.emod_lt_of_pos (hashTo seed i j 3 3) (show 0 < c by omega)
  have e1 : (hashTo seed i j 2 3).tmod c = hashTo seed i j 2 3 % c := Int.tmod_eq_emod_of_nonneg a0
  have e2 : (hashTo seed i j 3 3).tmod c = hashTo seed i j 3 3 % c := Int.tmod_eq_emod_of_nonneg b0
  unfold ptV cen cenX cenY
  generalize hq2 : hashTo seed i j 2 3 % c = g2 at *
  generalize hq3 : hashTo seed i j 3 3 % c = g3 at *
  generalize hashTo seed i j 2 3 = ha at *
  generalize hashTo seed i j 3 3 = hb3 at *
  have hne : ¬ c = 0 := by omega
  have hne2 : c ≠ 0 := by omega
  have hwc : IntKind.u32.wrap c = c := by simp [IntKind.wrap, IntKind.bits, IntKind.signed]; omega
  have hwd : c % 4294967296 = c := by omega
  generalize hic : i * c = ic at *
  generalize hjc : j * c = jc at *
  go_enter Try.func177, Try.ntmps177
  go_wp2_with fail
  have v1 : IntKind.i64.wrap ic = ic := IntWalk.i64_in _ (by omega)
  have v2 : IntKind.i64.wrap g2 = g2 := IntWalk.i64_in _ (by omega)
  have v3 : IntKind.i64.wrap (ic + g2) = ic + g2 := IntWalk.i64_in _ (by omega)
  have v4 : IntKind.i64.wrap jc = jc := IntWalk.i64_in _ (by omega)
  have v5 : IntKind.i64.wrap g3 = g3 := IntWalk.i64_in _ (by omega)
  have v6 : IntKind.i64.wrap (jc + g3) = jc + g3 := IntWalk.i64_in _ (by omega)
  refine wp_region_still_tail 25 (by kernel_rfl) (by kernel_rfl) ?_
  simp only [List.take_succ_cons, List.take_zero, List.drop_succ_cons, List.drop_zero]
  iterate 6 still_step
  still_call (KH2.out _)
  iterate 11 still_step
  still_call (KH3.out _)
  iterate 6 still_step
  refine wpStill_nil ?_
  change wpList _ _ _ _ _ (World.drew (w.alloc (.cells #[.int .i64 0, .int .i64 0] 36)))
  clear v1 v2 v3 v4 v5 v6
  go_wp2_with fail
  refine bodyPost_ret (v := .agg #[.int .i64 (ic + g2), .int .i64 (jc + g3)]) (by simp [results, Try.results177, go_sem, *]) rfl ⟨rfl, (by repeat (first | with_reducible exact Below.refl _ _ | with_reducible apply Below.drew | with_reducible refine below_drewN ?_ _ | (with_reducible refine Below.setCell ?_ ?_ _; rotate_left; focus (first | omega | (simp <;> omega))) | (with_reducible refine Below.alloc ?_ ?_ _; rotate_left; focus (first | omega | (simp <;> omega)))))⟩
end Go.Proofs.Ytfmbekdfigbfiaa

namespace Go.Proofs.Ytfmbekdfigbfiaa
open Go.ChangeShapes Go.WideShapes Go.ChangeAt Go.RowKit
open Ieee.Format (fin finE htE allFin allHt all_true all_false mulF subF addF Ht Bd divF rootF floorF easeF mixF)
set_option linter.unusedVariables false
theorem sq_nn (z : Int) : 0 ≤ z * z := by
  rcases Int.le_total 0 z with h | h
  · exact Int.mul_nonneg h h
  · exact Int.mul_nonneg_of_nonpos_of_nonpos h h
theorem square1_any (a b : Int × Int) (w : World) (h1 : -1048576 ≤ a.1 - b.1 ∧ a.1 - b.1 ≤ 1048576) (h2 : -1048576 ≤ a.2 - b.2 ∧ a.2 - b.2 ≤ 1048576) (h3 : -1099511627776 ≤ b.1 ∧ b.1 ≤ 1099511627776) (h4 : -1099511627776 ≤ b.2 ∧ b.2 ≤ 1099511627776) :
    Calls Try.prog 180 #[ptV a, ptV b] w fun e w' => e = .returned (.int .i64 (sqI a b)) ∧ Below w.heap.size w w' := by
  have p := sq_le_of (a := a.1 - b.1) (m := 1048576) (by omega) (by omega)
  have q := sq_le_of (a := a.2 - b.2) (m := 1048576) (by omega) (by omega)
  have p0 := sq_nn (a.1 - b.1)
  have q0 := sq_nn (a.2 - b.2)
  unfold ptV sqI
  obtain ⟨a1, a2⟩ := a
  obtain ⟨b1, b2⟩ := b
  simp only at *
  generalize hs1 : (a1 - b1) * (a1 - b1) = s1 at *
  generalize hs2 : (a2 - b2) * (a2 - b2) = s2 at *
  go_enter Try.func180, Try.ntmps180
  go_wp2_with fail
  go_ret
  exact ⟨rfl, (by repeat (first | with_reducible exact Below.refl _ _ | with_reducible apply Below.drew | with_reducible refine below_drewN ?_ _ | (with_reducible refine Below.setCell ?_ ?_ _; rotate_left; focus (first | omega | (simp <;> omega))) | (with_reducible refine Below.alloc ?_ ?_ _; rotate_left; focus (first | omega | (simp <;> omega)))))⟩
theorem square2_any (a b : Int × Int) (w : World) (h1 : -1048576 ≤ a.1 - b.1 ∧ a.1 - b.1 ≤ 1048576) (h2 : -1048576 ≤ a.2 - b.2 ∧ a.2 - b.2 ≤ 1048576) (h3 : -1099511627776 ≤ b.1 ∧ b.1 ≤ 1099511627776) (h4 : -1099511627776 ≤ b.2 ∧ b.2 ≤ 1099511627776) :
    Calls Try.prog 127 #[ptV a, ptV b] w fun e w' => e = .returned (.int .i64 (sqI a b)) ∧ Below w.heap.size w w' := by
  have p := sq_le_of (a := a.1 - b.1) (m := 1048576) (by omega) (by omega)
  have q := sq_le_of (a := a.2 - b.2) (m := 1048576) (by omega) (by omega)
  have p0 := sq_nn (a.1 - b.1)
  have q0 := sq_nn (a.2 - b.2)
  unfold ptV sqI
  obtain ⟨a1, a2⟩ := a
  obtain ⟨b1, b2⟩ := b
  simp only at *
  generalize hs1 : (a1 - b1) * (a1 - b1) = s1 at *
  generalize hs2 : (a2 - b2) * (a2 - b2) = s2 at *
  go_enter Try.func127, Try.ntmps127
  go_wp2_with fail
  go_ret
  exact ⟨rfl, (by repeat (first | with_reducible exact Below.refl _ _ | with_reducible apply Below.drew | with_reducible refine below_drewN ?_ _ | (with_reducible refine Below.setCell ?_ ?_ _; rotate_left; focus (first | omega | (simp <;> omega))) | (with_reducible refine Below.alloc ?_ ?_ _; rotate_left; focus (first | omega | (simp <;> omega)))))⟩
end Go.Proofs.Ytfmbekdfigbfiaa

namespace Go.Proofs.Ytfmbekdfigbfiaa
open Go.ChangeShapes Go.WideShapes Go.ChangeAt Go.RowKit
open Ieee.Format (fin finE htE allFin allHt all_true all_false mulF subF addF Ht Bd divF rootF floorF easeF mixF)
set_option linter.unusedVariables false
open Ieee.Format (farF far_ok)

/-! ### the two nearest centres, as the program finds them -/
/-- the search behind the first n centres -/
def scanT (seed x y c : Int) (n : Nat) : Int × Int × (Int × Int) := ((cenL seed (x / c) (y / c) c).take n).foldl (scanStep (fun p => sqI p (x, y))) (-1, -1, (0, 0))
theorem scanT_zero (seed x y c : Int) : scanT seed x y c 0 = (-1, -1, (0, 0)) := rfl
theorem scanT_succ (seed x y c : Int) (n : Nat) (h : n < 9) : scanT seed x y c (n + 1) = scanStep (fun p => sqI p (x, y)) (scanT seed x y c n) (cenAt seed (x / c) (y / c) c n) := by
  unfold scanT; rw [cenL_take _ _ _ _ _ h, List.foldl_append]; rfl
theorem scanT_nine (seed x y c : Int) : scanT seed x y c 9 = near3 seed x y c := by
  unfold scanT near3; rw [show (9 : Nat) = (cenL seed (x / c) (y / c) c).length from (cenL_length _ _ _ _).symm, List.take_length]
/-- the memory of the search -/
structure CelW (w : World) (c : Int) (p : Int × Int) (wr : World) : Prop where
  q : Blk wr w.heap.size #[.int .i64 c] 3
  p : Blk wr (w.heap.size + 1) (ptC p) 36
  b : Below w.heap.size w wr
section
variable {w wr w2 : World} {c : Int} {p : Int × Int}
theorem CelW.call (h : CelW w c p wr) (hb : Below wr.heap.size wr w2) : CelW w c p w2 := ⟨h.q.below hb h.q.lt, h.p.below hb h.p.lt, h.b.trans (hb.mono h.b.size)⟩
theorem CelW.drew (h : CelW w c p wr) : CelW w c p wr.drew := ⟨h.q.drew, h.p.drew, h.b.drew⟩
theorem CelW.drewN (h : CelW w c p wr) (n : Nat) : CelW w c p (wr.drewN n) := ⟨h.q.drewN n, h.p.drewN n, below_drewN h.b n⟩
theorem CelW.alloc (h : CelW w c p wr) (o : Obj) : CelW w c p (wr.alloc o) := h.call ((Below.refl _ _).alloc (Nat.le_refl _) _)
theorem CelW.set (h : CelW w c p wr) (a b : Int) : CelW w c (a, b) ((wr.setCell ⟨w.heap.size + 1, 0, none⟩ (.int .i64 a)).setCell ⟨w.heap.size + 1, 1, none⟩ (.int .i64 b)) := by
  have hp := (pt_store h.p a b).1
  exact ⟨(h.q.setCell (by simp) _).setCell (by simp) _, hp, (h.b.setCell (by simp) _).setCell (by simp) _⟩
theorem cel_start (w : World) (c : Int) : CelW w c (0, 0) ((w.alloc (.cells #[.int .i64 c] 3)).alloc (.cells #[.int .i64 0, .int .i64 0] 36)) := by
  refine ⟨(Blk.new _ _ _).alloc _, ?_, (by repeat (first | with_reducible exact Below.refl _ _ | with_reducible apply Below.drew | with_reducible refine below_drewN ?_ _ | (with_reducible refine Below.setCell ?_ ?_ _; rotate_left; focus (first | omega | (simp <;> omega))) | (with_reducible refine Below.alloc ?_ ?_ _; rotate_left; focus (first | omega | (simp <;> omega)))))⟩
  have := Blk.new (w.alloc (.cells #[.int .i64 c] 3)) #[.int .i64 0, .int .i64 0] 36
  simpa [ptC] using this
end
/-- how far the centres are -/
theorem cen_off (seed x y c : Int) (h1 : 1 ≤ c) (h2 : c ≤ 4096) (n : Nat) (hn : n < 9) :
    (-1048576 ≤ (cenAt seed (x / c) (y / c) c n).1 - x ∧ (cenAt seed (x / c) (y / c) c n).1 - x ≤ 1048576) ∧ (-1048576 ≤ (cenAt seed (x / c) (y / c) c n).2 - y ∧ (cenAt seed (x / c) (y / c) c n).2 - y ≤ 1048576) := by
  have r1 := Int.emod_nonneg (hashTo seed (x / c - 1 + (n % 3 : Nat)) (y / c - 1 + (n / 3 : Nat)) 2 3) (show c ≠ 0 by omega)
  have r2 := Int.emod_lt_of_pos (hashTo seed (x / c - 1 + (n % 3 : Nat)) (y / c - 1 + (n / 3 : Nat)) 2 3) (show 0 < c by omega)
  have r3 := Int.emod_nonneg (hashTo seed (x / c - 1 + (n % 3 : Nat)) (y / c - 1 + (n / 3 : Nat)) 3 3) (show c ≠ 0 by omega)
  have r4 := Int.emod_lt_of_pos (hashTo seed (x / c - 1 + (n % 3 : Nat)) (y / c - 1 + (n / 3 : Nat)) 3 3) (show 0 < c by omega)
  obtain ⟨a1, a2, _⟩ := off_le (x := x) (n := n % 3) h1 (by omega) r1 r2
  obtain ⟨b1, b2, _⟩ := off_le (x := y) (n := n / 3) h1 (by omega) r3 r4
  unfold cenAt cen cenX cenY
  simp only
  omega
/-- the search's own bounds -/
theorem scanT_bd (seed x y c : Int) (h1 : 1 ≤ c) : ∀ n, n ≤ 9 → -1 ≤ (scanT seed x y c n).1 ∧ (scanT seed x y c n).1 ≤ (4 * c) * (4 * c) ∧ -1 ≤ (scanT seed x y c n).2.1 ∧ (scanT seed x y c n).2.1 ≤ (4 * c) * (4 * c)
  | 0, _ => by
    have := Int.mul_nonneg (show 0 ≤ 4 * c by omega) (show 0 ≤ 4 * c by omega)
    rw [scanT_zero]
    simp only
    omega
  | n + 1, h => by
    obtain ⟨a, b, d, e⟩ := scanT_bd seed x y c h1 n (by omega)
    have k1 := (cen_near seed x y c h1 n (by omega)).1
    have k2 := sqI_nonneg (cenAt seed (x / c) (y / c) c n) (x, y)
    rw [scanT_succ _ _ _ _ _ (by omega)]
    unfold scanStep
    split
    · simp only; omega
    · split
      · simp only; omega
      · exact ⟨a, b, d, e⟩
end Go.Proofs.Ytfmbekdfigbfiaa

namespace Go.Proofs.Ytfmbekdfigbfiaa
open Go.ChangeShapes Go.WideShapes Go.ChangeAt Go.RowKit
open Ieee.Format (fin finE htE allFin allHt all_true all_false mulF subF addF Ht Bd divF rootF floorF easeF mixF)
set_option linter.unusedVariables false
open Wide Go.Sort

theorem drewN_grow (w : World) (os : Array Obj) (n : Nat) : (grow w os).drewN n = grow (w.drewN n) os := rfl
theorem square2_grow (a b : Int × Int) (w : World) (h1 : -1048576 ≤ a.1 - b.1 ∧ a.1 - b.1 ≤ 1048576) (h2 : -1048576 ≤ a.2 - b.2 ∧ a.2 - b.2 ≤ 1048576) (h3 : -1099511627776 ≤ b.1 ∧ b.1 ≤ 1099511627776) (h4 : -1099511627776 ≤ b.2 ∧ b.2 ≤ 1099511627776) :
    Calls Try.prog 127 #[ptV a, ptV b] w fun e w' => e = .returned (.int .i64 (sqI a b)) ∧ ∃ os, w' = grow w os := by
  have p := sq_le_of (a := a.1 - b.1) (m := 1048576) (by omega) (by omega)
  have q := sq_le_of (a := a.2 - b.2) (m := 1048576) (by omega) (by omega)
  have p0 := sq_nn (a.1 - b.1)
  have q0 := sq_nn (a.2 - b.2)
  unfold ptV sqI
  obtain ⟨a1, a2⟩ := a
  obtain ⟨b1, b2⟩ := b
  simp only at *
  generalize hs1 : (a1 - b1) * (a1 - b1) = s1 at *
  generalize hs2 : (a2 - b2) * (a2 - b2) = s2 at *
  go_enter Try.func127, Try.ntmps127
  go_wp2_with fail
  go_ret
  exact ⟨rfl, _, by rw [alloc_eq_grow, alloc_eq_grow, grow_grow]⟩
theorem cmpint_any (x y : Int) (w : World) : Calls Try.prog 122 #[.int .i64 x, .int .i64 y] w fun e w' => e = .returned (.int .i64 (cmpI x y)) ∧ w = w' := by
  unfold cmpI
  rcases Int.lt_trichotomy x y with h | h | h
  · rw [if_pos h]
    have h2 : ¬ y < x := by omega
    go_enter Try.func122, Try.ntmps122
    go_wp2
    go_ret
    exact ⟨rfl, rfl⟩
  · subst h
    rw [if_neg (by omega), if_neg (by omega)]
    go_enter Try.func122, Try.ntmps122
    go_wp2
    go_ret
    exact ⟨rfl, rfl⟩
  · rw [if_neg (by omega), if_pos h]
    have h2 : ¬ x < y := by omega
    go_enter Try.func122, Try.ntmps122
    go_wp2
    go_ret
    exact ⟨rfl, rfl⟩
/-- a world that has grown -/
def Grn (w : World) (w' : World) : Prop := ∃ q os, w' = grow (w.drewN q) os
theorem Grn.cell {w w' : World} (h : Grn w w') {p : Addr} (hp : p.block < w.heap.size) : w'.cell? p = w.cell? p := by
  obtain ⟨q, os, rfl⟩ := h
  exact cell?_grow _ os p hp
theorem Grn.refl (w : World) : Grn w w := ⟨0, #[], by rw [grow_empty]; rfl⟩
theorem Grn.drew {w w' : World} (h : Grn w w') : Grn w w'.drew := by
  obtain ⟨q, os, rfl⟩ := h
  exact ⟨q + 1, os, rfl⟩
theorem Grn.grow {w w' : World} (h : Grn w w') (os : Array Obj) : Grn w (grow w' os) := by
  obtain ⟨q, os', rfl⟩ := h
  exact ⟨q, os' ++ os, grow_grow _ _ _⟩
theorem Grn.of_alloc {w w' : World} {o : Obj} (h : Grn (w.alloc o) w') : Grn w w' := by
  obtain ⟨q, os, rfl⟩ := h
  exact ⟨q, #[o] ++ os, by rw [alloc_eq_grow, drewN_grow, grow_grow]⟩
theorem Grn.lt {w w' : World} (h : Grn w w') : w.heap.size ≤ w'.heap.size := by
  obtain ⟨q, os, rfl⟩ := h
  rw [size_grow]; exact Nat.le_add_right _ _
/-- the points that are compared -/
def Near (p q : Int × Int) : Prop := (-1048576 ≤ q.1 - p.1 ∧ q.1 - p.1 ≤ 1048576) ∧ (-1048576 ≤ q.2 - p.2 ∧ q.2 - p.2 ≤ 1048576)
end Go.Proofs.Ytfmbekdfigbfiaa

namespace Go.Proofs.Ytfmbekdfigbfiaa
open Go.ChangeShapes Go.WideShapes Go.ChangeAt Go.RowKit
open Ieee.Format (fin finE htE allFin allHt all_true all_false mulF subF addF Ht Bd divF rootF floorF easeF mixF)
set_option linter.unusedVariables false
open Go.Shelf Go.Proofs
/-- the shelf's insertion sort, at points -/
def insPtRen : Ren := ⟨fun | 20 => 201 | n => n, fun | 24 => 36 | 22 => 95 | 3 => 3 | 25 => 188 | 4 => 4 | 0 => 0 | n => n, fun n => n⟩
theorem insPt : SlLaysF0.n20 Try.prog insPtRen :=
  { mixed := (by kernel_rfl), f20 := ⟨Try.f201.name, (by decide), (by kernel_rfl)⟩,
    t0 := Try.underlying0, a0 := Try.isAgg0, z0 := Try.sizeOf0, v0 := Try.zeroValue0, t3 := Try.underlying3, a3 := Try.isAgg3, z3 := Try.sizeOf3, v3 := Try.zeroValue3,
    t4 := Try.underlying4, a4 := Try.isAgg4, z4 := Try.sizeOf4, v4 := Try.zeroValue4, t22 := Try.underlying95, a22 := Try.isAgg95, z22 := Try.sizeOf95, v22 := Try.zeroValue95,
    t25 := Try.underlying188, a25 := Try.isAgg188, z25 := Try.sizeOf188, v25 := Try.zeroValue188 }
end Go.Proofs.Ytfmbekdfigbfiaa

namespace Go.Proofs.Ytfmbekdfigbfiaa
open Go.ChangeShapes Go.WideShapes Go.ChangeAt Go.RowKit
open Ieee.Format (fin finE htE allFin allHt all_true all_false mulF subF addF Ht Bd divF rootF floorF easeF mixF)
set_option linter.unusedVariables false
open Go.Shelf Go.Proofs Go.Sort Go.Lib
variable {α : Type} [Inhabited α]

end Go.Proofs.Ytfmbekdfigbfiaa

namespace Go.Proofs.Ytfmbekdfigbfiaa
open Go.ChangeShapes Go.WideShapes Go.ChangeAt Go.RowKit
open Ieee.Format (fin finE htE allFin allHt all_true all_false mulF subF addF Ht Bd divF rootF floorF easeF mixF)
set_option linter.unusedVariables false
/-- a point's block, and nothing else -/
structure PtS (w : World) (k : Nat) (wr : World) : Prop where
  p : Blk wr k #[.int .i64 0, .int .i64 0] 36
  k : w.heap.size ≤ k
  b : Below w.heap.size w wr
theorem PtS.call {w wr w2 : World} {k : Nat} (h : PtS w k wr) (hb : Below wr.heap.size wr w2) : PtS w k w2 := ⟨h.p.below hb h.p.lt, h.k, h.b.trans (hb.mono h.b.size)⟩
theorem PtS.drew {w wr : World} {k : Nat} (h : PtS w k wr) : PtS w k wr.drew := ⟨h.p.drew, h.k, h.b.drew⟩
set_option maxRecDepth 100000 in
set_option maxHeartbeats 1000000 in
theorem refcentre_any (seed i j c : Int) (w : World) (hi : -16777216 ≤ i) (hi2 : i ≤ 16777216) (hj : -16777216 ≤ j) (hj2 : j ≤ 16777216) (h1 : 1 ≤ c) (h2 : c ≤ 4096) :
    Calls Try.prog 126 #[.int .u32 seed, .int .i64 i, .int .i64 j, .int .i64 c] w fun e w' => e = .returned (ptV (cen seed i j c)) ∧ Below w.heap.size w w' := by
  have KH2 := Lib.hid (fun w => hash2_bel seed i j 2 w)
  have KH3 := Lib.hid (fun w => hash2_bel seed i j 3 w)
  obtain ⟨a0, a1⟩ := hash_bounds seed i j 2
  obtain ⟨b0, b1⟩ := hash_bounds seed i j 3
  obtain ⟨m1, m2⟩ := cen_mul hi hi2 h1 h2
  obtain ⟨m3, m4⟩ := cen_mul hj hj2 h1 h2
  have r1 := Int.emod_nonneg (hashTo seed i j 2 3) (show c ≠ 0 by omega)
  have r2 := Int.emod_lt_of_pos (hashTo seed i j 2 3) (show 0 < c by omega)
  have r3 := Int.emod_nonneg (hashTo seed i j 3 3) (show c ≠ 0 by omega)
  have r4 := Int.emod_lt_of_pos (hashTo seed i j 3 3) (show 0 < c by omega)
  have e1 : (hashTo seed i j 2 3).tmod c = hashTo seed i j 2 3 % c := Int.tmod_eq_emod_of_nonneg a0
  have e2 : (hashTo seed i j 3 3).tmod c = hashTo seed i j 3 3 % c := Int.tmod_eq_emod_of_nonneg b0
  unfold ptV cen cenX cenY
  generalize hq2 : hashTo seed i j 2 3 % c = g2 at *
  generalize hq3 : hashTo seed i j 3 3 % c = g3 at *
  generalize hashTo seed i j 2 3 = ha at *
  generalize hashTo seed i j 3 3 = hb3 at *
  have hne : ¬ c = 0 := by omega
  have hne2 : c ≠ 0 := by omega
  have hwc : IntKind.u32.wrap c = c := by simp [IntKind.wrap, IntKind.bits, IntKind.signed]; omega
  have hwd : c % 4294967296 = c := by omega
  generalize hic : i * c = ic at *
  generalize hjc : j * c = jc at *
  have v1 : IntKind.i64.wrap ic = ic := IntWalk.i64_in _ (by omega)
  have v2 : IntKind.i64.wrap g2 = g2 := IntWalk.i64_in _ (by omega)
  have v3 : IntKind.i64.wrap (ic + g2) = ic + g2 := IntWalk.i64_in _ (by omega)
  have v4 : IntKind.i64.wrap jc = jc := IntWalk.i64_in _ (by omega)
  have v5 : IntKind.i64.wrap g3 = g3 := IntWalk.i64_in _ (by omega)
  have v6 : IntKind.i64.wrap (jc + g3) = jc + g3 := IntWalk.i64_in _ (by omega)
  have I0 : PtS w w.heap.size (w.alloc (.cells #[.int .i64 0, .int .i64 0] 36)) := ⟨Blk.new _ _ _, Nat.le_refl _, (by repeat (first | with_reducible exact Below.refl _ _ | with_reducible apply Below.drew | with_reducible refine below_drewN ?_ _ | (with_reducible refine Below.setCell ?_ ?_ _; rotate_left; focus (first | omega | (simp <;> omega))) | (with_reducible refine Below.alloc ?_ ?_ _; rotate_left; focus (first | omega | (simp <;> omega)))))⟩
  have HI := Lib.hid I0
  clear I0
  go_enter Try.func126, Try.ntmps126
  go_wp2_with fail
  generalize w.alloc (.cells #[.int .i64 0, .int .i64 0] 36) = W at *
  refine wp_region_noPanic ?_
  refine wp_region_heldT (PtS w w.heap.size) 25 (by kernel_rfl) HI.out.drew (fun hHeld => ?_)
  refine wpAnyT_takeL [2, 11, 24, 25] (i := 0) (v := ?_) rfl (by kernel_rfl) (by kernel_rfl) (by kernel_rfl) (by kernel_rfl) (fun _ _ _ h => h) (Or.inl ⟨by rfl, ?_⟩) (by with_reducible assumption) ?_
  rotate_left
  · intro w hSw
    go_simp
    try with_reducible rfl
  try simp only [Act.put, List.setIfInBounds_toArray, List.set_cons_zero, List.set_cons_succ]
  refine wpAnyT_takeL [2, 11, 24, 25] (i := 1) (v := ?_) rfl (by kernel_rfl) (by kernel_rfl) (by kernel_rfl) (by kernel_rfl) (fun _ _ _ h => h) (Or.inl ⟨by rfl, ?_⟩) (by with_reducible assumption) ?_
  rotate_left
  · intro w hSw
    go_simp
    try with_reducible rfl
  try simp only [Act.put, List.setIfInBounds_toArray, List.set_cons_zero, List.set_cons_succ]
  refine wpAnyT_takeL [11, 24, 25] (i := 2) (v := ?_) rfl (by kernel_rfl) (by kernel_rfl) (by kernel_rfl) (by kernel_rfl) (fun _ _ _ h => h) (Or.inl ⟨by rfl, ?_⟩) (by with_reducible assumption) ?_
  rotate_left
  · intro w hSw
    go_simp
    try with_reducible rfl
  try simp only [Act.put, List.setIfInBounds_toArray, List.set_cons_zero, List.set_cons_succ]
  refine wpAnyT_takeL [6, 18, 21, 22, 23, 24, 25] (i := 3) (v := ?_) rfl (by kernel_rfl) (by kernel_rfl) (by kernel_rfl) (by kernel_rfl) (fun _ _ _ h => h) (Or.inl ⟨by rfl, ?_⟩) (by with_reducible assumption) ?_
  rotate_left
  · intro w hSw
    go_simp
    try with_reducible rfl
  try simp only [Act.put, List.setIfInBounds_toArray, List.set_cons_zero, List.set_cons_succ]
  refine wpAnyT_takeL [6, 18, 21, 22, 23, 24, 25] (i := 4) (v := ?_) rfl (by kernel_rfl) (by kernel_rfl) (by kernel_rfl) (by kernel_rfl) (fun _ _ _ h => h) (Or.inl ⟨by rfl, ?_⟩) (by with_reducible assumption) ?_
  rotate_left
  · intro w hSw
    go_simp
    try with_reducible rfl
  try simp only [Act.put, List.setIfInBounds_toArray, List.set_cons_zero, List.set_cons_succ]
  refine wpAnyT_takeL [6, 18, 21, 22, 23, 24, 25] (i := 5) (v := ?_) rfl (by kernel_rfl) (by kernel_rfl) (by kernel_rfl) (by kernel_rfl) (fun _ _ _ h => h) (Or.inl ⟨by rfl, ?_⟩) (by with_reducible assumption) ?_
  rotate_left
  · intro w hSw
    go_simp
    try with_reducible rfl
  try simp only [Act.put, List.setIfInBounds_toArray, List.set_cons_zero, List.set_cons_succ]
  refine wpAnyT_takeL [8, 9, 10, 11, 24, 25] (i := 7) (v := ?_) rfl (by kernel_rfl) (by kernel_rfl) (by kernel_rfl) (by kernel_rfl) (fun _ _ _ h => h) (Or.inl ⟨by rfl, ?_⟩) (by with_reducible assumption) ?_
  rotate_left
  · intro w hSw
    go_simp
    try with_reducible rfl
  try simp only [Act.put, List.setIfInBounds_toArray, List.set_cons_zero, List.set_cons_succ]
  refine wpAnyT_takeL [9, 10, 11, 24, 25] (i := 8) (v := ?_) rfl (by kernel_rfl) (by kernel_rfl) (by kernel_rfl) (by kernel_rfl) (fun _ _ _ h => h) (Or.inl ⟨by rfl, ?_⟩) (by with_reducible assumption) ?_
  rotate_left
  · intro w hSw
    go_simp
    try with_reducible rfl
  try simp only [Act.put, List.setIfInBounds_toArray, List.set_cons_zero, List.set_cons_succ]
  refine wpAnyT_takeL [14, 23, 24, 25] (i := 12) (v := ?_) rfl (by kernel_rfl) (by kernel_rfl) (by kernel_rfl) (by kernel_rfl) (fun _ _ _ h => h) (Or.inl ⟨by rfl, ?_⟩) (by with_reducible assumption) ?_
  rotate_left
  · intro w hSw
    go_simp
    try with_reducible rfl
  try simp only [Act.put, List.setIfInBounds_toArray, List.set_cons_zero, List.set_cons_succ]
  refine wpAnyT_takeL [14, 23, 24, 25] (i := 13) (v := ?_) rfl (by kernel_rfl) (by kernel_rfl) (by kernel_rfl) (by kernel_rfl) (fun _ _ _ h => h) (Or.inl ⟨by rfl, ?_⟩) (by with_reducible assumption) ?_
  rotate_left
  · intro w hSw
    go_simp
    try with_reducible rfl
  try simp only [Act.put, List.setIfInBounds_toArray, List.set_cons_zero, List.set_cons_succ]
  refine wpAnyT_takeL [23, 24, 25] (i := 14) (v := ?_) rfl (by kernel_rfl) (by kernel_rfl) (by kernel_rfl) (by kernel_rfl) (fun _ _ _ h => h) (Or.inl ⟨by rfl, ?_⟩) (by with_reducible assumption) ?_
  rotate_left
  · intro w hSw
    go_simp
    try with_reducible rfl
  try simp only [Act.put, List.setIfInBounds_toArray, List.set_cons_zero, List.set_cons_succ]
  refine wpAnyT_takeL [18, 21, 22, 23, 24, 25] (i := 15) (v := ?_) rfl (by kernel_rfl) (by kernel_rfl) (by kernel_rfl) (by kernel_rfl) (fun _ _ _ h => h) (Or.inl ⟨by rfl, ?_⟩) (by with_reducible assumption) ?_
  rotate_left
  · intro w hSw
    go_simp
    try with_reducible rfl
  try simp only [Act.put, List.setIfInBounds_toArray, List.set_cons_zero, List.set_cons_succ]
  refine wpAnyT_takeL [18, 21, 22, 23, 24, 25] (i := 16) (v := ?_) rfl (by kernel_rfl) (by kernel_rfl) (by kernel_rfl) (by kernel_rfl) (fun _ _ _ h => h) (Or.inl ⟨by rfl, ?_⟩) (by with_reducible assumption) ?_
  rotate_left
  · intro w hSw
    go_simp
    try with_reducible rfl
  try simp only [Act.put, List.setIfInBounds_toArray, List.set_cons_zero, List.set_cons_succ]
  refine wpAnyT_takeL [18, 21, 22, 23, 24, 25] (i := 17) (v := ?_) rfl (by kernel_rfl) (by kernel_rfl) (by kernel_rfl) (by kernel_rfl) (fun _ _ _ h => h) (Or.inl ⟨by rfl, ?_⟩) (by with_reducible assumption) ?_
  rotate_left
  · intro w hSw
    go_simp
    try with_reducible rfl
  try simp only [Act.put, List.setIfInBounds_toArray, List.set_cons_zero, List.set_cons_succ]
  refine wpAnyT_takeL [20, 21, 22, 23, 24, 25] (i := 19) (v := ?_) rfl (by kernel_rfl) (by kernel_rfl) (by kernel_rfl) (by kernel_rfl) (fun _ _ _ h => h) (Or.inl ⟨by rfl, ?_⟩) (by with_reducible assumption) ?_
  rotate_left
  · intro w hSw
    go_simp
    try with_reducible rfl
  try simp only [Act.put, List.setIfInBounds_toArray, List.set_cons_zero, List.set_cons_succ]
  refine wpAnyT_takeL [21, 22, 23, 24, 25] (i := 20) (v := ?_) rfl (by kernel_rfl) (by kernel_rfl) (by kernel_rfl) (by kernel_rfl) (fun _ _ _ h => h) (Or.inl ⟨by rfl, ?_⟩) (by with_reducible assumption) ?_
  rotate_left
  · intro w hSw
    go_simp
    try with_reducible rfl
  try simp only [Act.put, List.setIfInBounds_toArray, List.set_cons_zero, List.set_cons_succ]
  refine wpAnyT_ready (rs := [6]) (by kernel_rfl) (by simp) ?_
  refine AllReadyT.cons rfl (fun K hK => ?_) AllReadyT.nil
  go_simp
  (with_reducible refine (KH2.out _).mono ?_)
  rintro e w2 ⟨rfl, hb⟩
  have hN := hHeld.call hb
  go_wp2_with fail
  refine hK.out _ _ (fun _ => hN) (fun hS_ => ?_)
  have hHeld := hS_ (by omega)
  clear hS_ hK K
  try simp only [Act.put, List.setIfInBounds_toArray, List.set_cons_zero, List.set_cons_succ]
  refine wpAnyT_takeL [10, 11, 24, 25] (i := 9) (v := ?_) rfl (by kernel_rfl) (by kernel_rfl) (by kernel_rfl) (by kernel_rfl) (fun _ _ _ h => h) (Or.inl ⟨by rfl, ?_⟩) (by with_reducible assumption) ?_
  rotate_left
  · intro w hSw
    go_simp
    try with_reducible rfl
  try simp only [Act.put, List.setIfInBounds_toArray, List.set_cons_zero, List.set_cons_succ]
  refine wpAnyT_takeL [11, 24, 25] (i := 10) (v := ?_) rfl (by kernel_rfl) (by kernel_rfl) (by kernel_rfl) (by kernel_rfl) (fun _ _ _ h => h) (Or.inl ⟨by rfl, ?_⟩) (by with_reducible assumption) ?_
  rotate_left
  · intro w hSw
    go_simp
    try with_reducible rfl
  try simp only [Act.put, List.setIfInBounds_toArray, List.set_cons_zero, List.set_cons_succ]
  refine wpAnyT_takeL [24, 25] (i := 11) (v := ?_) rfl (by kernel_rfl) (by kernel_rfl) (by kernel_rfl) (by kernel_rfl) (fun _ _ _ h => h) (Or.inl ⟨by rfl, ?_⟩) (by with_reducible assumption) ?_
  rotate_left
  · intro w hSw
    go_simp
    try with_reducible rfl
  try simp only [Act.put, List.setIfInBounds_toArray, List.set_cons_zero, List.set_cons_succ]
  refine wpAnyT_ready (rs := [18]) (by kernel_rfl) (by simp) ?_
  refine AllReadyT.cons rfl (fun K hK => ?_) AllReadyT.nil
  go_simp
  (with_reducible refine (KH3.out _).mono ?_)
  rintro e w2 ⟨rfl, hb⟩
  have hN := hHeld.call hb
  go_wp2_with fail
  refine hK.out _ _ (fun _ => hN) (fun hS_ => ?_)
  have hHeld := hS_ (by omega)
  clear hS_ hK K
  try simp only [Act.put, List.setIfInBounds_toArray, List.set_cons_zero, List.set_cons_succ]
  refine wpAnyT_takeL [22, 23, 24, 25] (i := 21) (v := ?_) rfl (by kernel_rfl) (by kernel_rfl) (by kernel_rfl) (by kernel_rfl) (fun _ _ _ h => h) (Or.inl ⟨by rfl, ?_⟩) (by with_reducible assumption) ?_
  rotate_left
  · intro w hSw
    go_simp
    try with_reducible rfl
  try simp only [Act.put, List.setIfInBounds_toArray, List.set_cons_zero, List.set_cons_succ]
  refine wpAnyT_takeL [23, 24, 25] (i := 22) (v := ?_) rfl (by kernel_rfl) (by kernel_rfl) (by kernel_rfl) (by kernel_rfl) (fun _ _ _ h => h) (Or.inl ⟨by rfl, ?_⟩) (by with_reducible assumption) ?_
  rotate_left
  · intro w hSw
    go_simp
    try with_reducible rfl
  try simp only [Act.put, List.setIfInBounds_toArray, List.set_cons_zero, List.set_cons_succ]
  refine wpAnyT_takeL [24, 25] (i := 23) (v := ?_) rfl (by kernel_rfl) (by kernel_rfl) (by kernel_rfl) (by kernel_rfl) (fun _ _ _ h => h) (Or.inl ⟨by rfl, ?_⟩) (by with_reducible assumption) ?_
  rotate_left
  · intro w hSw
    go_simp
    try with_reducible rfl
  try simp only [Act.put, List.setIfInBounds_toArray, List.set_cons_zero, List.set_cons_succ]
  refine wpAnyT_takeL [25] (i := 24) (v := ?_) rfl (by kernel_rfl) (by kernel_rfl) (by kernel_rfl) (by kernel_rfl) (fun _ _ _ h => h) (Or.inl ⟨by rfl, ?_⟩) (by with_reducible assumption) ?_
  rotate_left
  · intro w hSw
    go_simp
    try with_reducible rfl
  try simp only [Act.put, List.setIfInBounds_toArray, List.set_cons_zero, List.set_cons_succ]
  refine wpAnyT_ready (rs := [25]) (by kernel_rfl) (by simp) ?_
  refine AllReadyT.cons rfl (fun K hK => ?_) AllReadyT.nil
  have hP := hHeld.p
  have f0 := hP.frozen 0
  have f1 := hP.frozen 1
  have p0 := hP.cell 0
  have p1 := hP.cell 1
  simp at p0 p1
  have HB := Lib.hid hHeld.b
  have lt := hP.lt
  have HQ := Lib.hid (pt_store hP (ic + g2) (jc + g3)).1
  clear hP
  go_simp
  refine hK.out _ _ (fun h => absurd h (by omega)) (fun _ => ?_)
  clear hK K
  try simp only [Act.put, List.setIfInBounds_toArray, List.set_cons_zero, List.set_cons_succ]
  refine wpAnyT_done (by kernel_rfl) ?_ _
  refine NoPanic.normal ?_
  have B0 := HB.out
  have q0 := HQ.out.cell 0
  have q1 := HQ.out.cell 1
  simp at q0 q1
  go_wp2_with fail
  refine bodyPost_ret (v := .agg #[.int .i64 (ic + g2), .int .i64 (jc + g3)]) (by simp [results, Try.results126, go_sem, *]) rfl ⟨rfl, (by have hszz := B0.size; repeat (first | with_reducible exact B0 | with_reducible apply Below.drew | with_reducible refine below_drewN ?_ _ | (with_reducible refine Below.setCell ?_ ?_ _; rotate_left; focus (first | omega | (simp <;> omega))) | (with_reducible refine Below.alloc ?_ ?_ _; rotate_left; focus (first | omega | (simp <;> omega)))))⟩
end Go.Proofs.Ytfmbekdfigbfiaa
