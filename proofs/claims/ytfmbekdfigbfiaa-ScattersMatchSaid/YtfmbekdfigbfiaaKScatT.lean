import Derived.Test.YtfmbekdfigbfiaaKScatS
import Derived.Test.YtfmbekdfigbfiaaKSortFn
import Derived.Shelf.SlSortCmp.NoneTotal
namespace Go.Proofs.Ytfmbekdfigbfiaa
open Go.ChangeShapes Go.WideShapes Go.ChangeAt Go.RowKit
open Ieee.Format (fin finE htE allFin allHt all_true all_false mulF subF addF Ht Bd divF rootF floorF easeF mixF)
set_option linter.unusedVariables false
open Wide Go.Sort Go.Shelf Go.Proofs

/-! ### the sort of places -/
theorem lt_cfP (a b : Int × Int) : ltOf cfP a b = decide (ltC a b) := by
  unfold ltOf cfP cmpI ltC
  congr 1
  rcases Int.lt_trichotomy a.2 b.2 with h | h | h
  · rw [if_pos h, if_neg (show ¬ (-1 : Int) = 0 by omega)]
    apply propext; constructor
    · intro _; exact .inl h
    · intro _; omega
  · rw [if_neg (show ¬ a.2 < b.2 by omega), if_neg (show ¬ b.2 < a.2 by omega), if_pos rfl]
    rcases Int.lt_trichotomy a.1 b.1 with g | g | g
    · rw [if_pos g]; apply propext; constructor
      · intro _; exact .inr ⟨h, g⟩
      · intro _; omega
    · rw [if_neg (show ¬ a.1 < b.1 by omega), if_neg (show ¬ b.1 < a.1 by omega)]; apply propext; constructor
      · intro k; omega
      · intro k; omega
    · rw [if_neg (show ¬ a.1 < b.1 by omega), if_pos g]; apply propext; constructor
      · intro k; omega
      · intro k; omega
  · rw [if_neg (show ¬ a.2 < b.2 by omega), if_pos h, if_neg (show ¬ (1 : Int) = 0 by omega)]
    apply propext; constructor
    · intro k; omega
    · intro k; omega
theorem swo_cfP : SWO (ltOf cfP) := by
  refine ⟨fun x => ?_, fun x y z h1 h2 => ?_, fun x y z h1 h2 => ?_⟩
  · rw [lt_cfP]; exact decide_eq_false (ltC_irr x)
  · rw [lt_cfP] at *
    exact decide_eq_true (ltC_trans (of_decide_eq_true h1) (of_decide_eq_true h2))
  · rw [lt_cfP] at *
    refine decide_eq_false ?_
    have h1 := of_decide_eq_false h1
    have h2 := of_decide_eq_false h2
    unfold ltC at *
    omega
def encP (p : Int × Int) : List Value := [.int .i64 p.1, .int .i64 p.2]
/-- a row of places, as it is read -/
def PtsR (w : World) (g : Nat) (L : List (Int × Int)) : Prop := g < w.heap.size ∧ ∀ (n : Nat) (p : Int × Int), L[n]? = some p → w.cell? ⟨g, n * 2, none⟩ = some (.int .i64 p.1) ∧ w.cell? ⟨g, n * 2 + 1, none⟩ = some (.int .i64 p.2)
theorem PtsR.below {w w' : World} {g : Nat} {L : List (Int × Int)} (h : PtsR w g L) (hb : Go.RowKit.Below w.heap.size w w') : PtsR w' g L :=
  ⟨Nat.lt_of_lt_of_le h.1 hb.size, fun n p hp => ⟨(hb.cell (p := ⟨g, n * 2, none⟩) h.1).trans (h.2 n p hp).1, (hb.cell (p := ⟨g, n * 2 + 1, none⟩) h.1).trans (h.2 n p hp).2⟩⟩
/-- a slice of places -/
def PtsV (w : World) (v : Value) (L : List (Int × Int)) : Prop := ∃ p cap, v = .slice p L.length cap ∧ L.length ≤ cap ∧ (L = [] ∧ p = none ∨ ∃ g, p = some ⟨g, 0, none⟩ ∧ PtsR w g L)
theorem PtsV.below {w w' : World} {v : Value} {L : List (Int × Int)} (h : PtsV w v L) (hb : Go.RowKit.Below w.heap.size w w') : PtsV w' v L := by
  obtain ⟨p, cap, rfl, hc, h⟩ := h
  refine ⟨p, cap, rfl, hc, ?_⟩
  rcases h with h | ⟨g, rfl, h⟩
  · exact .inl h
  · exact .inr ⟨g, rfl, h.below hb⟩
theorem ptsv_get (L : List (Int × Int)) (i : Nat) (p : Int × Int) (hp : L[i]? = some p) : (ptsV L)[i * 2]? = some (.int .i64 p.1) ∧ (ptsV L)[i * 2 + 1]? = some (.int .i64 p.2) := by
  induction L generalizing i with
  | nil => simp at hp
  | cons a L ih =>
    have e : ptsV (a :: L) = [.int .i64 a.1, .int .i64 a.2] ++ ptsV L := rfl
    rw [e]
    cases i with
    | zero =>
      simp only [List.getElem?_cons_zero, Option.some.injEq] at hp
      subst hp
      exact ⟨rfl, rfl⟩
    | succ i =>
      have h := ih i (by simpa using hp)
      have hl : ([.int .i64 a.1, .int .i64 a.2] : List Value).length = 2 := rfl
      have f : ∀ t, (([.int .i64 a.1, .int .i64 a.2] : List Value) ++ ptsV L)[(i + 1) * 2 + t]? = (ptsV L)[i * 2 + t]? := fun t => by
        rw [List.getElem?_append_right (by rw [hl]; omega), hl]
        congr 1; omega
      have f0 := f 0
      simp only [Nat.add_zero] at f0
      rw [f0, f 1]
      exact h
theorem holds_places {w : World} {B g cap : Nat} (L : List (Int × Int)) (h : w.ownsRow B 36 2 (.slice (some ⟨g, 0, none⟩) L.length cap) L.length (ptsV L)) : HoldsK encP 2 w g 0 L.toArray := by
  intro j hj
  rw [size_flatK] at hj
  have hs : L.toArray.size = L.length := by simp
  rw [hs] at hj
  have hi : j / 2 < L.length := by omega
  obtain ⟨g0, g1⟩ := ptsv_get L (j / 2) L[j / 2] (List.getElem?_eq_getElem hi)
  have e1 : L.toArray[j / 2]! = L[j / 2] := by simp [getElem!_def, hi]
  have hc := h.cellAt j (by omega)
  refine ⟨?_, ?_⟩
  · rw [Nat.zero_add, hc, get_flatK _ _ _ _ (by rw [hs]; exact hj), e1]
    rcases (show j % 2 = 0 ∨ j % 2 = 1 by omega) with hr | hr
    · rw [hr]
      have hj2 : j / 2 * 2 = j := by omega
      rw [hj2] at g0
      exact g0
    · rw [hr]
      have hj2 : j / 2 * 2 + 1 = j := by omega
      rw [hj2] at g1
      exact g1
  · rw [Nat.zero_add]; exact h.frozenAt j
theorem sort_below {α : Type} [Inhabited α] (enc : α → List Value) (w : World) (g off n : Nat) (d : Array α) (os : Array Obj) (hg : g < w.heap.size) : Go.RowKit.Below g w (sortWorldK enc 2 w g off n d os) := by
  refine ⟨rfl, rfl, rfl, size_sortWorldK_c enc 2 w g off n d os, fun k hk => ?_⟩
  unfold sortWorldK putRowK putRow mapBlock grow
  show ((w.heap.modify g _) ++ os)[k]? = w.heap[k]?
  have h : k < w.heap.size := by omega
  rw [Array.getElem?_append_left (by simpa using h), Array.getElem?_modify]
  rw [if_neg (by omega)]
theorem srt_eq (D : List (Int × Int)) : (D.mergeSort fun x y => !(ltOf cfP) y x) = srt D := by
  unfold srt
  congr 1
  funext x y
  rw [lt_cfP]; rfl
theorem sort_places (fn : Nat) (D : List (Int × Int)) (B : Nat) (v : Value) (W : World) (hn : D.length < 4611686018427387904)
    (eg : ∀ args w, (callFunc fn args).run Try.prog w = .ok (.enter fn args) w)
    (hc : ∀ a b w₀, Calls Try.prog fn #[.agg #[.int .i64 a.1, .int .i64 a.2], .agg #[.int .i64 b.1, .int .i64 b.2]] w₀ fun e w' => e = .returned (.int .i64 (cfP a b)) ∧ ∃ q os, w' = grow (w₀.drewN q) os)
    (own : W.ownsRow B 36 2 v D.length (ptsV D)) (hB : B ≤ W.heap.size) :
    Calls Try.prog 119 #[v, .func (.func fn) #[] #[]] W fun e w' => e = .returned (.tuple #[]) ∧ PtsV w' v (srt D) ∧ Go.RowKit.Below B W w' := by
  rcases own.2 with ⟨rfl, h0⟩ | ⟨g, cap, cur, rfl, hg, hh, hcap, _⟩
  · have hD : D = [] := List.length_eq_zero_iff.1 h0
    subst hD
    have h := AnyF.slices_SortFunc_none sortPt none 0 (.func (.func fn) #[] #[]) W
    change Calls Try.prog 119 _ _ _ at h
    refine h.mono ?_
    rintro e w' ⟨rfl, rfl⟩
    exact ⟨rfl, ⟨none, 0, by simp [srt], by simp [srt], .inl ⟨by simp [srt], rfl⟩⟩, Go.RowKit.Below.refl _ _⟩
  · have hl := own.lt g rfl
    have hH := holds_places D own
    have hs : D.toArray.size = D.length := by simp
    have hcmp : CmpLays Try.prog fn #[] encP 2 cfP g 0 D.toArray.size W := fun m os dk _ x y => hc x y _
    have h := AnyQ.slices_SortFunc_total sortPt 2 Try.isAgg36 Try.sizeOf36 encP (fun _ => rfl) (fun x u hu => by simp [encP] at hu; rcases hu with rfl | rfl <;> rfl) cfP swo_cfP fn #[] g 0 cap D.toArray W eg hcmp hH hl.2 (by omega) (fun x y h1 h2 => by
      rw [lt_cfP] at h1 h2
      have h1 := of_decide_eq_false h1
      have h2 := of_decide_eq_false h2
      rcases ltC_tri x y with t | t | t
      · exact absurd t h1
      · exact t
      · exact absurd t h2)
    change Calls Try.prog 119 _ _ _ at h
    rw [hs] at h
    refine h.mono ?_
    rintro e w' ⟨rfl, n, os, rfl⟩
    rw [show D.toArray.toList = D from rfl, srt_eq]
    have hsz : (srt D).toArray.size = D.toArray.size := by simp [srt_len]
    have hHD := holdsK_sortWorldK_c encP 2 W g 0 D.toArray (srt D).toArray n os hH hl.2 hsz
    have hb := sort_below encP W g 0 n (srt D).toArray os hl.2
    refine ⟨rfl, ⟨some ⟨g, 0, none⟩, cap, by rw [srt_len], by rw [srt_len]; exact hcap, .inr ⟨g, rfl, Nat.lt_of_lt_of_le hl.2 hb.size, fun i p hp => ?_⟩⟩, hb.mono hg⟩
    have hi : i < (srt D).length := (List.getElem?_eq_some_iff.1 hp).1
    have hp' : (srt D).toArray[i]! = p := by
      have := List.getElem?_eq_getElem hi
      rw [hp] at this
      simp [getElem!_def, hi, Option.some.inj this]
    have cell : ∀ t, t < 2 → (sortWorldK encP 2 W g 0 n (srt D).toArray os).cell? ⟨g, i * 2 + t, none⟩ = some ((encP p)[t]!) := fun t ht => by
      have hit : i * 2 + t < (srt D).toArray.size * 2 := by simp only [List.size_toArray]; omega
      have := (hHD (i * 2 + t) (by rw [size_flatK]; exact hit)).1
      rw [Nat.zero_add] at this
      rw [this, get_flatK _ _ _ _ hit, show (i * 2 + t) / 2 = i by omega, show (i * 2 + t) % 2 = t by omega, hp']
      rfl
    exact ⟨cell 0 (by omega), cell 1 (by omega)⟩
end Go.Proofs.Ytfmbekdfigbfiaa
