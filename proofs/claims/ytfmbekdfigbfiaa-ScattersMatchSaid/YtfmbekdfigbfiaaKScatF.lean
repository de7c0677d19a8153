import Derived.Test.YtfmbekdfigbfiaaJM
namespace Go.Proofs.Ytfmbekdfigbfiaa
open Go.ChangeShapes Go.WideShapes Go.ChangeAt Go.RowKit
open Ieee.Format (fin finE htE allFin allHt all_true all_false mulF subF addF Ht Bd divF rootF floorF easeF mixF)
set_option linter.unusedVariables false

/-! ### chosen cells of a lattice, in plain Lean -/
/-- the order of the cells: by rows -/
def ltC (p q : Int × Int) : Prop := p.2 < q.2 ∨ p.2 = q.2 ∧ p.1 < q.1
instance (p q : Int × Int) : Decidable (ltC p q) := inferInstanceAs (Decidable (_ ∨ _))
theorem ltC_tri (p q : Int × Int) : ltC p q ∨ p = q ∨ ltC q p := by
  unfold ltC
  by_cases h : p = q
  · exact .inr (.inl h)
  · have : ¬ (p.1 = q.1 ∧ p.2 = q.2) := fun ⟨a, b⟩ => h (Prod.ext a b)
    omega
theorem ltC_irr (p : Int × Int) : ¬ ltC p p := by unfold ltC; omega
section
variable (c a : Int) (th : Int × Int → Bool) (rk : Int × Int → Int) (pl : Int × Int → Int × Int)
/-- d comes before q -/
def befB (q d : Int × Int) : Bool := decide (rk d < rk q ∨ rk d = rk q ∧ ltC d q)
/-- d excludes q -/
def exB (q d : Int × Int) : Bool := th d && decide (d ≠ q) && befB rk q d && decide (sqI (pl q) (pl d) ≤ a * a)
/-- a box of cells, row by row -/
def boxL (i j : Int) (w h : Nat) : List (Int × Int) := (List.range h).flatMap fun l : Nat => (List.range w).map fun k : Nat => (i + (k : Int), j + (l : Int))
theorem mem_box {i j : Int} {w h : Nat} {q : Int × Int} : q ∈ boxL i j w h ↔ i ≤ q.1 ∧ q.1 < i + w ∧ j ≤ q.2 ∧ q.2 < j + h := by
  unfold boxL
  rw [List.mem_flatMap]
  constructor
  · rintro ⟨l, hl, hq⟩
    obtain ⟨k, hk, rfl⟩ := List.mem_map.1 hq
    have := List.mem_range.1 hl; have := List.mem_range.1 hk
    simp only; omega
  · rintro ⟨h1, h2, h3, h4⟩
    have e1 : i + ((q.1 - i).toNat : Int) = q.1 := by omega
    have e2 : j + ((q.2 - j).toNat : Int) = q.2 := by omega
    exact ⟨(q.2 - j).toNat, List.mem_range.2 (by omega), List.mem_map.2 ⟨(q.1 - i).toNat, List.mem_range.2 (by omega), Prod.ext e1 e2⟩⟩
/-- is none of the cells around it before it and near? -/
def chB (q : Int × Int) : Bool := (boxL (q.1 - 2) (q.2 - 2) 5 5).all fun d => !exB a th rk pl q d
variable {c a th rk pl}
theorem sq_lt {x y z : Int} (hz : 0 ≤ z) (h : z < x ∨ x < -z) (hy : 0 ≤ y * y) : z * z < x * x + y * y := by
  have : z * z < x * x := by
    rcases h with h | h
    · exact Int.mul_self_lt_mul_self hz h
    · have := Int.mul_self_lt_mul_self hz (show z < -x by omega)
      rwa [Int.neg_mul_neg] at this
  omega
theorem sq_nn' (x : Int) : 0 ≤ x * x := by
  rcases Int.le_total 0 x with h | h
  · exact Int.mul_nonneg h h
  · exact Int.mul_nonneg_of_nonpos_of_nonpos h h
/-- a cell's place lies in it -/
def InCell (c : Int) (pl : Int × Int → Int × Int) : Prop := ∀ q : Int × Int, q.1 * c ≤ (pl q).1 ∧ (pl q).1 < q.1 * c + c ∧ q.2 * c ≤ (pl q).2 ∧ (pl q).2 < q.2 * c + c
theorem far3 (c : Int) (h1 : 1 ≤ c) {m n : Int} (h : m + 3 ≤ n) : n * c - (m * c + c) ≥ 2 * c := by
  have e : n * c = m * c + (n - m) * c := by rw [← Int.add_mul]; congr 1; omega
  have := Int.mul_le_mul_of_nonneg_right (show 3 ≤ n - m by omega) (show 0 ≤ c by omega)
  omega
/-- cells that lie three or more apart are far -/
theorem far_sq (h1 : 1 ≤ c) (h0 : 0 ≤ a) (h2 : a ≤ 2 * c) (hp : InCell c pl) {q d : Int × Int} (h : ¬ (q.1 - 2 ≤ d.1 ∧ d.1 ≤ q.1 + 2 ∧ q.2 - 2 ≤ d.2 ∧ d.2 ≤ q.2 + 2)) : a * a < sqI (pl q) (pl d) := by
  obtain ⟨q1, q2, q3, q4⟩ := hp q
  obtain ⟨d1, d2, d3, d4⟩ := hp d
  unfold sqI
  have hh : q.1 + 3 ≤ d.1 ∨ d.1 + 3 ≤ q.1 ∨ q.2 + 3 ≤ d.2 ∨ d.2 + 3 ≤ q.2 := by omega
  rcases hh with h | h | h | h
  · have := far3 c h1 h
    exact sq_lt h0 (by omega) (sq_nn' _)
  · have := far3 c h1 h
    exact sq_lt h0 (by omega) (sq_nn' _)
  · have := far3 c h1 h
    rw [Int.add_comm]; exact sq_lt h0 (by omega) (sq_nn' _)
  · have := far3 c h1 h
    rw [Int.add_comm]; exact sq_lt h0 (by omega) (sq_nn' _)
theorem ex_near (h1 : 1 ≤ c) (h0 : 0 ≤ a) (h2 : a ≤ 2 * c) (hp : InCell c pl) {q d : Int × Int} (h : exB a th rk pl q d = true) : d ∈ boxL (q.1 - 2) (q.2 - 2) 5 5 := by
  rw [mem_box]
  unfold exB at h
  simp only [Bool.and_eq_true, decide_eq_true_eq] at h
  by_cases hn : q.1 - 2 ≤ d.1 ∧ d.1 ≤ q.1 + 2 ∧ q.2 - 2 ≤ d.2 ∧ d.2 ≤ q.2 + 2
  · omega
  · have := far_sq h1 h0 h2 hp hn
    omega
theorem ch_iff (h1 : 1 ≤ c) (h0 : 0 ≤ a) (h2 : a ≤ 2 * c) (hp : InCell c pl) (q : Int × Int) : chB a th rk pl q = true ↔ ∀ d, exB a th rk pl q d = false := by
  unfold chB
  rw [List.all_eq_true]
  constructor
  · intro h d
    cases he : exB a th rk pl q d
    · rfl
    · have := h d (ex_near h1 h0 h2 hp he)
      rw [he] at this; cases this
  · intro h d _
    rw [h d]; rfl
/-- chosen cells lie apart -/
theorem ch_apart (h1 : 1 ≤ c) (h0 : 0 ≤ a) (h2 : a ≤ 2 * c) (hp : InCell c pl) {q d : Int × Int} (hq : th q = true) (hd : th d = true) (cq : chB a th rk pl q = true) (cd : chB a th rk pl d = true) (hn : q ≠ d) : a * a < sqI (pl q) (pl d) := by
  have e1 := (ch_iff h1 h0 h2 hp q).1 cq d
  have e2 := (ch_iff h1 h0 h2 hp d).1 cd q
  have hs : sqI (pl d) (pl q) = sqI (pl q) (pl d) := by
    unfold sqI
    rw [show (pl d).1 - (pl q).1 = -((pl q).1 - (pl d).1) by omega, show (pl d).2 - (pl q).2 = -((pl q).2 - (pl d).2) by omega, Int.neg_mul_neg, Int.neg_mul_neg]
  by_cases hle : sqI (pl q) (pl d) ≤ a * a
  · unfold exB befB at e1 e2
    rw [hs] at e2
    simp only [hq, hd, hle, decide_true, Bool.true_and, Bool.and_true, Bool.and_eq_false_iff, decide_eq_false_iff_not, ne_eq, Decidable.not_not] at e1 e2
    have t := ltC_tri q d
    have n1 : ¬ d = q := fun h => hn h.symm
    have n2 : ¬ q = d := hn
    exfalso
    rcases t with t | t | t
    · rcases e1 with e | e
      · exact n1 e
      · rcases e2 with f | f
        · exact n2 f
        · exact f (by rcases Int.lt_trichotomy (rk q) (rk d) with z | z | z
                      · exact .inl z
                      · exact .inr ⟨z, t⟩
                      · exact absurd (.inl z) e)
    · exact n2 t
    · rcases e1 with e | e
      · exact n1 e
      · rcases e2 with f | f
        · exact n2 f
        · exact e (by rcases Int.lt_trichotomy (rk d) (rk q) with z | z | z
                      · exact .inl z
                      · exact .inr ⟨z, t⟩
                      · exact absurd (.inl z) f)
  · omega
end
/-! ### lists in order -/
theorem ltC_trans {p q r : Int × Int} (h : ltC p q) (h' : ltC q r) : ltC p r := by unfold ltC at *; omega
theorem ltC_asymm {p q : Int × Int} (h : ltC p q) (h' : ltC q p) : False := ltC_irr p (ltC_trans h h')
theorem box_sorted (i j : Int) (w h : Nat) : (boxL i j w h).Pairwise ltC := by
  unfold boxL
  rw [List.pairwise_flatMap]
  refine ⟨fun l _ => ?_, ?_⟩
  · rw [List.pairwise_map]
    exact List.Pairwise.imp (fun {a b} h => .inr ⟨rfl, by show i + (a : Int) < i + (b : Int); omega⟩) List.pairwise_lt_range
  · refine List.Pairwise.imp (fun {a b} h => ?_) List.pairwise_lt_range
    intro x hx y hy
    obtain ⟨k, _, rfl⟩ := List.mem_map.1 hx
    obtain ⟨k', _, rfl⟩ := List.mem_map.1 hy
    exact .inl (by show j + (a : Int) < j + (b : Int); omega)
theorem sorted_ext : ∀ {l m : List (Int × Int)}, l.Pairwise ltC → m.Pairwise ltC → (∀ x, x ∈ l ↔ x ∈ m) → l = m
  | [], [], _, _, _ => rfl
  | [], y :: m, _, _, h => absurd ((h y).2 (by simp)) (by simp)
  | x :: l, [], _, _, h => absurd ((h x).1 (by simp)) (by simp)
  | x :: l, y :: m, hl, hm, h => by
    obtain ⟨hx, hl'⟩ := List.pairwise_cons.1 hl
    obtain ⟨hy, hm'⟩ := List.pairwise_cons.1 hm
    have e : x = y := by
      rcases List.mem_cons.1 ((h x).1 (by simp)) with e | e
      · exact e
      · rcases List.mem_cons.1 ((h y).2 (by simp)) with f | f
        · exact f.symm
        · exact absurd (hy x e) (fun g => ltC_asymm g (hx y f))
    subst e
    rw [sorted_ext hl' hm' (fun z => ?_)]
    constructor
    · intro hz
      rcases List.mem_cons.1 ((h z).1 (List.mem_cons_of_mem _ hz)) with e | e
      · subst e; exact absurd (hx z hz) (ltC_irr z)
      · exact e
    · intro hz
      rcases List.mem_cons.1 ((h z).2 (List.mem_cons_of_mem _ hz)) with e | e
      · subst e; exact absurd (hy z hz) (ltC_irr z)
      · exact e
/-- of two boxes the cells that meet a test are the same, if they lie in both -/
theorem filter_box {i j i' j' : Int} {w h w' h' : Nat} (p : Int × Int → Bool) (hp : ∀ q, p q = true → (q ∈ boxL i j w h ↔ q ∈ boxL i' j' w' h')) : (boxL i j w h).filter p = (boxL i' j' w' h').filter p := by
  refine sorted_ext ((box_sorted _ _ _ _).filter _) ((box_sorted _ _ _ _).filter _) (fun x => ?_)
  rw [List.mem_filter, List.mem_filter]
  constructor
  · rintro ⟨a, b⟩; exact ⟨(hp x b).1 a, b⟩
  · rintro ⟨a, b⟩; exact ⟨(hp x b).2 a, b⟩
/-! ### sorted -/
def lePB (a b : Int × Int) : Bool := !decide (ltC b a)
theorem le_total (a b : Int × Int) : (lePB a b || lePB b a) = true := by
  unfold lePB
  rcases ltC_tri a b with h | h | h
  · have : ¬ ltC b a := fun g => ltC_asymm h g
    simp [this]
  · subst h; simp [ltC_irr]
  · have : ¬ ltC a b := fun g => ltC_asymm h g
    simp [this]
theorem le_trans (a b c : Int × Int) (h : lePB a b = true) (h' : lePB b c = true) : lePB a c = true := by
  unfold lePB at *
  simp only [Bool.not_eq_true', decide_eq_false_iff_not] at *
  intro g
  rcases ltC_tri a b with x | x | x
  · exact h' (ltC_trans g x)
  · subst x; exact h' g
  · exact h x
theorem le_antisymm {a b : Int × Int} (h : lePB a b = true) (h' : lePB b a = true) : a = b := by
  unfold lePB at *
  simp only [Bool.not_eq_true', decide_eq_false_iff_not] at *
  rcases ltC_tri a b with x | x | x
  · exact absurd x h'
  · exact x
  · exact absurd x h
theorem sorted_unique : ∀ {l m : List (Int × Int)}, l.Perm m → l.Pairwise (fun a b => lePB a b = true) → m.Pairwise (fun a b => lePB a b = true) → l = m
  | [], m, hp, _, _ => (List.nil_perm.1 hp).symm
  | x :: l, [], hp, _, _ => absurd (List.perm_nil.1 hp) (by simp)
  | x :: l, y :: m, hp, hl, hm => by
    obtain ⟨hx, hl'⟩ := List.pairwise_cons.1 hl
    obtain ⟨hy, hm'⟩ := List.pairwise_cons.1 hm
    have e : x = y := by
      rcases List.mem_cons.1 (hp.mem_iff.1 (List.mem_cons_self)) with e | e
      · exact e
      · rcases List.mem_cons.1 (hp.mem_iff.2 (List.mem_cons_self)) with f | f
        · exact f.symm
        · exact le_antisymm (hx y f) (hy x e)
    subst e
    rw [sorted_unique ((List.perm_cons x).1 hp) hl' hm']
/-- a list of places, sorted -/
def srt (l : List (Int × Int)) : List (Int × Int) := l.mergeSort lePB
theorem srt_perm (l : List (Int × Int)) : (srt l).Perm l := List.mergeSort_perm l lePB
theorem srt_sorted (l : List (Int × Int)) : (srt l).Pairwise (fun a b => lePB a b = true) := List.pairwise_mergeSort le_trans le_total l
theorem srt_of {l m : List (Int × Int)} (hp : m.Perm l) (hs : m.Pairwise (fun a b => lePB a b = true)) : m = srt l :=
  sorted_unique (hp.trans (srt_perm l).symm) hs (srt_sorted l)
theorem srt_filter (l : List (Int × Int)) (p : Int × Int → Bool) : (srt l).filter p = srt (l.filter p) :=
  srt_of ((srt_perm l).filter p) ((srt_sorted l).filter p)
theorem srt_len (l : List (Int × Int)) : (srt l).length = l.length := (srt_perm l).length_eq
/-! ### what a scatter chooses -/
section
variable (c a : Int) (th : Int × Int → Bool) (rk : Int × Int → Int) (pl : Int × Int → Int × Int) (ins : Int × Int → Bool)
/-- the chosen places of a box of cells that lie inside -/
def outL (i j : Int) (w h : Nat) : List (Int × Int) := ((boxL i j w h).filter fun q => ins (pl q) && th q && chB a th rk pl q).map pl
/-- the cells that are there -/
def thL (i j : Int) (w h : Nat) : List (Int × Int) := (boxL i j w h).filter th
/-- what the reference chooses of a list of cells -/
def refL (L : List (Int × Int)) : List (Int × Int) := (L.filter fun q => ins (pl q) && !(L.any fun d => exB a th rk pl q d)).map pl
variable {c a th rk pl ins}
theorem ref_out (h1 : 1 ≤ c) (h0 : 0 ≤ a) (h2 : a ≤ 2 * c) (hp : InCell c pl) {i j : Int} {w h : Nat} (hin : ∀ q, ins (pl q) = true → i ≤ q.1 ∧ q.1 < i + w ∧ j ≤ q.2 ∧ q.2 < j + h) :
    refL a th rk pl ins (thL th (i - 3) (j - 3) (w + 6) (h + 6)) = outL a th rk pl ins i j w h := by
  unfold refL outL
  congr 1
  unfold thL
  rw [List.filter_filter, filter_box (i' := i - 3) (j' := j - 3) (w' := w + 6) (h' := h + 6) (fun q => ins (pl q) && th q && chB a th rk pl q) (fun q hq => by
    simp only [Bool.and_eq_true] at hq
    have := hin q hq.1.1
    rw [mem_box, mem_box]; omega)]
  apply List.filter_congr
  intro q hq
  cases hI : ins (pl q)
  · simp
  · cases hT : th q
    · simp
    · simp only [Bool.true_and, Bool.and_true]
      have hqi := hin q hI
      cases hc : chB a th rk pl q
      · rw [Bool.not_eq_false', List.any_eq_true]
        unfold chB at hc
        rw [List.all_eq_false] at hc
        obtain ⟨d, hd, he⟩ := hc
        simp only [Bool.not_eq_true', Bool.not_eq_false] at he
        refine ⟨d, List.mem_filter.2 ⟨?_, ?_⟩, he⟩
        · rw [mem_box] at hd ⊢; omega
        · unfold exB at he
          simp only [Bool.and_eq_true] at he
          exact he.1.1.1
      · rw [Bool.not_eq_true', List.any_eq_false]
        intro d _
        rw [(ch_iff h1 h0 h2 hp q).1 hc d]
        simp
/-- of a lesser region -/
theorem out_sub {ins' : Int × Int → Bool} {i j i' j' : Int} {w h w' h' : Nat} (hin : ∀ q, ins (pl q) = true → i ≤ q.1 ∧ q.1 < i + w ∧ j ≤ q.2 ∧ q.2 < j + h) (hin' : ∀ q, ins' (pl q) = true → i' ≤ q.1 ∧ q.1 < i' + w' ∧ j' ≤ q.2 ∧ q.2 < j' + h')
    (hs : ∀ p, ins' p = true → ins p = true) : (srt (outL a th rk pl ins i j w h)).filter ins' = srt (outL a th rk pl ins' i' j' w' h') := by
  rw [srt_filter]
  congr 1
  unfold outL
  rw [List.filter_map, List.filter_filter]
  congr 1
  rw [show (fun q => (ins' ∘ pl) q && (ins (pl q) && th q && chB a th rk pl q)) = fun q => ins' (pl q) && th q && chB a th rk pl q from funext fun q => by
    simp only [Function.comp]
    cases h : ins' (pl q)
    · simp
    · rw [hs _ h]; simp]
  exact filter_box _ (fun q hq => by
    simp only [Bool.and_eq_true] at hq
    have a1 := hin' q hq.1.1
    have a2 := hin q (hs _ hq.1.1)
    rw [mem_box, mem_box]; omega)
/-- chosen places lie apart -/
theorem out_apart (h1 : 1 ≤ c) (h0 : 0 ≤ a) (h2 : a ≤ 2 * c) (hp : InCell c pl) (i j : Int) (w h : Nat) : (srt (outL a th rk pl ins i j w h)).Pairwise fun p q => a * a < sqI p q := by
  have hsym : ∀ {x y : Int × Int}, a * a < sqI x y → a * a < sqI y x := fun {x y} h => by
    unfold sqI at *
    rwa [show y.1 - x.1 = -(x.1 - y.1) by omega, show y.2 - x.2 = -(x.2 - y.2) by omega, Int.neg_mul_neg, Int.neg_mul_neg]
  refine ((srt_perm _).pairwise_iff hsym).2 ?_
  unfold outL
  rw [List.pairwise_map]
  have hb := (box_sorted i j w h).filter fun q => ins (pl q) && th q && chB a th rk pl q
  refine List.Pairwise.imp_of_mem (fun {x y} hx hy hxy => ?_) hb
  have fx := (List.mem_filter.1 hx).2
  have fy := (List.mem_filter.1 hy).2
  simp only [Bool.and_eq_true] at fx fy
  exact ch_apart h1 h0 h2 hp fx.1.2 fy.1.2 fx.2 fy.2 (fun e => by subst e; exact ltC_irr x hxy)
end
end Go.Proofs.Ytfmbekdfigbfiaa
