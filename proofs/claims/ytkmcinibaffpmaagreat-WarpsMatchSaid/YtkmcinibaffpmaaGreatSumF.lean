import Derived.Test.YtkmcinibaffpmaaGreatFloatU
namespace Ieee
namespace Format
open Go Kah

/-! ### the three sums, in plain Lean -/
def sumV : List Nat → Rat
  | [] => 0
  | x :: t => single.V x + sumV t
def magV : List Nat → Rat
  | [] => 0
  | x :: t => ab (single.V x) + magV t
theorem sumV_app : ∀ a b : List Nat, sumV (a ++ b) = sumV a + sumV b
  | [], b => by simp [sumV]; grind
  | x :: t, b => by rw [List.cons_append, sumV, sumV, sumV_app t b]; grind
theorem magV_app : ∀ a b : List Nat, magV (a ++ b) = magV a + magV b
  | [], b => by simp [magV]; grind
  | x :: t, b => by rw [List.cons_append, magV, magV, magV_app t b]; grind
theorem sumV_le : ∀ l : List Nat, -magV l ≤ sumV l ∧ sumV l ≤ magV l ∧ 0 ≤ magV l
  | [] => by simp [sumV, magV]
  | x :: t => by
    obtain ⟨a, b, c⟩ := sumV_le t
    obtain ⟨d, e, f⟩ := le_ab (single.V x)
    unfold sumV magV
    refine ⟨by grind, by grind, by grind⟩
theorem magV_bd : ∀ l : List Nat, (∀ x ∈ l, Ht x) → magV l ≤ (l.length : Rat) * P2 20
  | [], _ => by simp [magV]
  | x :: t, h => by
    have a := magV_bd t (fun y hy => h y (List.mem_cons_of_mem _ hy))
    have b := (h x (List.mem_cons_self ..)).V
    have c := ab_le b.1 b.2
    unfold magV
    have e : ((t.length + 1 : Nat) : Rat) = (t.length : Rat) + 1 := by push_cast; rfl
    rw [List.length_cons, e]
    grind
/-- one sum more -/
theorem Hn.sum {n m x y : Nat} (hx : Hn n x) (hy : Hn m y) (hn : n + m < 16777216) : Hn (n + m) (addF x y) := by
  obtain ⟨fx, a1, a2⟩ := hx
  obtain ⟨fy, b1, b2⟩ := hy
  obtain ⟨c, fc, vc, sc⟩ := const_nat (n + m) hn
  have e : ((n + m : Nat) : Rat) = (n : Rat) + (m : Rat) := by push_cast; rfl
  have p := P2_pos 20
  have hr := (addF_spec fx fy).2.bound fc sc (by rw [vc, e]; grind) (by rw [vc, e]; grind)
  rw [vc] at hr
  exact ⟨hr.1, hr.2.2.1, hr.2.1⟩
def sv : Rat := P2 (-24)
/-- a sum's error is at most so many units of the magnitudes -/
def Off (k : Nat) (v : Nat) (l : List Nat) : Prop := -((k : Rat) * (2 * (sv * magV l))) ≤ single.V v - sumV l ∧ single.V v - sumV l ≤ (k : Rat) * (2 * (sv * magV l))
theorem off_one (x : Nat) : Off 0 x [x] := by
  unfold Off sumV magV sumV magV
  have : ((0 : Nat) : Rat) = 0 := rfl
  constructor <;> grind
theorem Off.mono {j k v : Nat} {l : List Nat} (h : Off j v l) (hjk : j ≤ k) : Off k v l := by
  obtain ⟨a, b⟩ := h
  have c : (j : Rat) ≤ (k : Rat) := by exact_mod_cast hjk
  have d := Rat.mul_le_mul_of_nonneg_right c (show (0 : Rat) ≤ 2 * (sv * magV l) by
    have := Rat.mul_nonneg (show (0 : Rat) ≤ sv from Rat.le_of_lt (P2_pos _)) (sumV_le l).2.2
    grind)
  unfold Off
  constructor <;> grind
theorem Off.sum {k x y : Nat} {a b : List Nat} (hx : Off k x a) (hy : Off k y b) (fx : single.fin x) (fy : single.fin y) (ff : single.fin (addF x y)) (hk : k ≤ 256) : Off (k + 1) (addF x y) (a ++ b) := by
  obtain ⟨u0, u1, u2, u3, u4, u5⟩ := uR_facts
  obtain ⟨a1, a2, a3⟩ := sumV_le a
  obtain ⟨b1, b2, b3⟩ := sumV_le b
  have hk' : (k : Rat) ≤ 256 := by exact_mod_cast hk
  have := pair_step (u := uR) (v := sv) (A := magV a) (B := magV b) (S := sumV a) (T := sumV b) (s := single.V x) (t := single.V y) (y := single.V (addF x y)) (e := addE x y) (k := (k : Rat))
    (by unfold sv; exact u5) (by unfold sv; exact u4) (by rw [u3]; unfold sv; exact Rat.le_refl) a3 b3 hk' a1 a2 b1 b2 hx.1 hx.2 hy.1 hy.2 (by unfold addE; grind) (fun m h1 h2 => addE_le fx fy ff m h1 h2)
  unfold Off
  rw [sumV_app, magV_app]
  have e : ((k + 1 : Nat) : Rat) = (k : Rat) + 1 := by push_cast; rfl
  rw [e]
  exact this
def rowsF : List Nat → Nat
  | [] => 0
  | x :: t => t.foldl addF x
theorem rowsF_one (x : Nat) : rowsF [x] = x := rfl
theorem rowsF_snoc (l : List Nat) (x : Nat) (h : l ≠ []) : rowsF (l ++ [x]) = addF (rowsF l) x := by
  match l, h with
  | y :: t, _ => simp [rowsF]
theorem rows_ok (l : List Nat) (hl : ∀ x ∈ l, Ht x) (hn : l.length ≤ 256) : ∀ k, k + 1 ≤ l.length → Hn (k + 1) (rowsF (l.take (k + 1))) ∧ Off k (rowsF (l.take (k + 1))) (l.take (k + 1))
  | 0, h => by
    match l, h with
    | x :: t, _ =>
      have hx := hl x (List.mem_cons_self ..)
      simp only [Nat.zero_add, List.take_succ_cons, List.take_zero, rowsF_one]
      exact ⟨Hn.one hx.bd, off_one x⟩
  | k + 1, h => by
    obtain ⟨a, b⟩ := rows_ok l hl hn k (by omega)
    have hk : k + 1 < l.length := by omega
    have e : l.take (k + 1 + 1) = l.take (k + 1) ++ [l[k + 1]] := by rw [List.take_succ_eq_append_getElem hk]
    have hx := hl _ (List.getElem_mem hk)
    have hne : l.take (k + 1) ≠ [] := fun h0 => by
      have h1 := congrArg List.length h0
      rw [List.length_take, List.length_nil] at h1
      omega
    rw [e, rowsF_snoc _ _ hne]
    have c := a.add hx.bd (by omega)
    exact ⟨c, b.sum (Off.mono (off_one _) (by omega)) a.1 hx.fin c.1 (by omega)⟩
def pairsF : Nat → List Nat → Nat
  | 0, l => l.getD 0 0
  | k + 1, l => if l.length = 1 then l.getD 0 0 else addF (pairsF k (l.take (l.length / 2))) (pairsF k (l.drop (l.length / 2)))
theorem pairs_one : ∀ (k : Nat) (l : List Nat), l.length = 1 → pairsF k l = l.getD 0 0
  | 0, _, _ => rfl
  | k + 1, l, h => by unfold pairsF; rw [if_pos h]
theorem pairs_ok : ∀ (k : Nat) (l : List Nat), k ≤ 200 → (∀ x ∈ l, Ht x) → 1 ≤ l.length → l.length ≤ 2 ^ k → l.length ≤ 65536 → Hn l.length (pairsF k l) ∧ Off k (pairsF k l) l
  | 0, l, _, hl, h1, h2, _ => by
    match l, h1, h2 with
    | [x], _, _ => exact ⟨Hn.one (hl x (List.mem_cons_self ..)).bd, off_one x⟩
    | x :: y :: t, _, h2 => simp at h2
  | k + 1, l, hk, hl, h1, h2, h3 => by
    by_cases c : l.length = 1
    · rw [pairs_one _ _ c]
      match l, c with
      | [x], _ => exact ⟨Hn.one (hl x (List.mem_cons_self ..)).bd, Off.mono (off_one x) (by omega)⟩
    · unfold pairsF
      rw [if_neg c]
      have e : 2 ^ (k + 1) = 2 * 2 ^ k := by rw [Nat.pow_succ]; omega
      rw [e] at h2
      have l1 : (l.take (l.length / 2)).length = l.length / 2 := by simp; omega
      have l2 : (l.drop (l.length / 2)).length = l.length - l.length / 2 := by simp
      obtain ⟨a, b⟩ := pairs_ok k (l.take (l.length / 2)) (by omega) (fun x hx => hl x (List.mem_of_mem_take hx)) (by omega) (by omega) (by omega)
      obtain ⟨d, f⟩ := pairs_ok k (l.drop (l.length / 2)) (by omega) (fun x hx => hl x (List.mem_of_mem_drop hx)) (by omega) (by omega) (by omega)
      have g := a.sum d (by omega)
      rw [l1, l2, show l.length / 2 + (l.length - l.length / 2) = l.length from by omega] at g
      have o := b.sum f a.1 d.1 g.1 (by omega)
      rw [List.take_append_drop] at o
      exact ⟨g, o⟩
/-- the sum with what was lost -/
def keptStep (s : Nat × Nat) (x : Nat) : Nat × Nat := (addF s.1 (subF x s.2), subF (subF (addF s.1 (subF x s.2)) s.1) (subF x s.2))
def keptF (l : List Nat) : Nat × Nat := l.foldl keptStep (0, 0)
theorem keptF_snoc (l : List Nat) (x : Nat) : keptF (l ++ [x]) = keptStep (keptF l) x := by unfold keptF; simp
/-- what holds of the sum and of what was lost -/
structure Kept (k : Nat) (s c : Nat) (l : List Nat) : Prop where
  fs : Bd 30 s
  fc : Bd 30 c
  ex : ∃ E, single.V s = E + single.V c + sumV l ∧ -(2 * (uR * magV l) + 20 * ((k : Rat) * (uR * (uR * magV l)))) ≤ E ∧ E ≤ 2 * (uR * magV l) + 20 * ((k : Rat) * (uR * (uR * magV l)))
  c1 : -(3 * (uR * magV l)) ≤ single.V c
  c2 : single.V c ≤ 3 * (uR * magV l)
/-- what is finite on the way -/
structure KeptFin (s c x : Nat) : Prop where
  t : single.fin (subF x c)
  u : single.fin (addF s (subF x c))
  d : single.fin (subF (addF s (subF x c)) s)
  c' : single.fin (subF (subF (addF s (subF x c)) s) (subF x c))
theorem P2_20 : P2 20 = 1048576 := by rw [show P2 20 = ((2 ^ 20 : Nat) : Rat) from P2_nat 20]; rfl
theorem P2_30 : P2 30 = 1073741824 := by rw [show P2 30 = ((2 ^ 30 : Nat) : Rat) from P2_nat 30]; rfl
theorem kept_fin {s c x : Nat} (hs : Bd 30 s) (hc : Bd 30 c) (hx : Ht x) : KeptFin s c x ∧ Bd 31 (subF x c) ∧ Bd 33 (addF s (subF x c)) := by
  have t := (hx.bd.mono (show 20 ≤ 30 by omega)).sub hc (by omega)
  have u := (hs.mono (show 30 ≤ 31 by omega)).add t (by omega)
  have d := u.sub (hs.mono (show 30 ≤ 32 by omega)) (by omega)
  have c' := d.sub (t.mono (show 31 ≤ 33 by omega)) (by omega)
  exact ⟨⟨t.1, u.1, d.1, c'.1⟩, t, u.mono (by omega)⟩
theorem Kept.step {k s c x : Nat} {l : List Nat} (h : Kept k s c l) (hx : Ht x) (hk : k + 1 ≤ 256) (hm : magV l + ab (single.V x) ≤ 256 * P2 20) :
    Kept (k + 1) (keptStep (s, c) x).1 (keptStep (s, c) x).2 (l ++ [x]) := by
  obtain ⟨hs, hc, ⟨E, e0, e1, e2⟩, c1, c2⟩ := h
  obtain ⟨⟨ft, fu, fd, fc⟩, _, _⟩ := kept_fin hs hc hx
  obtain ⟨u0, u1, u2, u3, u4, u5⟩ := uR_facts
  obtain ⟨s1, s2, s3⟩ := sumV_le l
  obtain ⟨x1, x2, x3⟩ := le_ab (single.V x)
  have hk' : (k : Rat) ≤ 256 := by exact_mod_cast (by omega : k ≤ 256)
  have hk0 : (0 : Rat) ≤ (k : Rat) := Rat.natCast_nonneg
  have kc : ((k + 1 : Nat) : Rat) = (k : Rat) + 1 := by push_cast; rfl
  obtain ⟨E', r1, r2, r3, r4, r5⟩ := kept_step (u := uR) (A := magV l) (X := ab (single.V x)) (a := uR * magV l) (b := uR * ab (single.V x)) (aa := uR * (uR * magV l)) (bb := uR * (uR * ab (single.V x))) (q := (k : Rat) * (uR * (uR * magV l)))
    (k := (k : Rat)) (E := E) (c := single.V c) (S := sumV l) (x := single.V x) (s := single.V s) (t := single.V (subF x c)) (y := single.V (addF s (subF x c))) (d := single.V (subF (addF s (subF x c)) s)) (c' := single.V (subF (subF (addF s (subF x c)) s) (subF x c)))
    (e1 := subE x c) (e2 := addE s (subF x c)) (e3 := subE (addF s (subF x c)) s) (e4 := subE (subF (addF s (subF x c)) s) (subF x c))
    u0 u1 s3 x3 (by grind) (by grind) rfl rfl rfl rfl rfl hk0 hk' s1 s2 e1 e2 c1 c2 e0
    (by unfold subE; grind) (fun m h1 h2 => subE_le hx.fin hc.1 ft m h1 h2)
    (by unfold addE; grind) (fun m h1 h2 => addE_le hs.1 ft fu m h1 h2)
    (by unfold subE; grind) (fun m h1 h2 => subE_le fu hs.1 fd m h1 h2)
    (by unfold subE; grind) (fun m h1 h2 => subE_le fd ft fc m h1 h2)
  have m1 : magV (l ++ [x]) = magV l + ab (single.V x) := by rw [magV_app]; unfold magV magV; grind
  have m2 : sumV (l ++ [x]) = sumV l + single.V x := by rw [sumV_app]; unfold sumV sumV; grind
  have a0 := Rat.mul_nonneg u0 s3
  have b0 := Rat.mul_nonneg u0 x3
  have aa0 := Rat.mul_nonneg u0 a0
  have bb0 := Rat.mul_nonneg u0 b0
  have ka := Rat.mul_le_mul_of_nonneg_right hk' aa0
  have kb := Rat.mul_le_mul_of_nonneg_right hk' bb0
  have ga := Rat.mul_le_mul_of_nonneg_right u1 s3
  have gb := Rat.mul_le_mul_of_nonneg_right u1 x3
  have gaa := Rat.mul_le_mul_of_nonneg_right u1 a0
  have gbb := Rat.mul_le_mul_of_nonneg_right u1 b0
  rw [P2_20] at hm
  have p30 := P2_30
  unfold keptStep
  dsimp only
  refine ⟨⟨fu, by grind, by grind⟩, ⟨fc, by grind, by grind⟩, ⟨E', by rw [m2]; exact r1, ?_, ?_⟩, ?_, ?_⟩
  · rw [m1, kc]; grind
  · rw [m1, kc]; grind
  · rw [m1]; grind
  · rw [m1]; grind
theorem magV_take (l : List Nat) (hl : ∀ x ∈ l, Ht x) (hn : l.length ≤ 256) (k : Nat) (hk : k < l.length) : magV (l.take k) + ab (single.V l[k]) ≤ 256 * P2 20 := by
  have := magV_bd (l.take (k + 1)) (fun x hx => hl x (List.mem_of_mem_take hx))
  rw [List.take_succ_eq_append_getElem hk, magV_app, ← List.take_succ_eq_append_getElem hk] at this
  have h1 : (l.take (k + 1)).length = k + 1 := by simp; omega
  rw [h1] at this
  have h2 : ((k + 1 : Nat) : Rat) ≤ 256 := by exact_mod_cast (by omega : k + 1 ≤ 256)
  have h3 := Rat.mul_le_mul_of_nonneg_right h2 (Rat.le_of_lt (P2_pos 20))
  have e : magV [l[k]] = ab (single.V l[k]) := by unfold magV magV; grind
  rw [e] at this
  grind
theorem kept_ok (l : List Nat) (hl : ∀ x ∈ l, Ht x) (hn : l.length ≤ 256) : ∀ k, k ≤ l.length → Kept k (keptF (l.take k)).1 (keptF (l.take k)).2 (l.take k)
  | 0, _ => by
    have e : keptF (l.take 0) = (0, 0) := rfl
    rw [e, List.take_zero]
    have z := const_0.2.1
    have p := P2_pos 30
    have b : Bd 30 0 := ⟨const_0.1, by rw [z]; grind, by rw [z]; grind⟩
    refine ⟨b, b, ⟨0, ?_, ?_, ?_⟩, ?_, ?_⟩ <;> simp [z, sumV, magV] <;> grind
  | k + 1, h => by
    have ih := kept_ok l hl hn k (by omega)
    have hk : k < l.length := by omega
    have hx := hl _ (List.getElem_mem hk)
    have := ih.step hx (by omega) (magV_take l hl hn k hk)
    rw [List.take_succ_eq_append_getElem hk, keptF_snoc]
    exact this
theorem kept_off (l : List Nat) (hl : ∀ x ∈ l, Ht x) (hn : l.length ≤ 256) : Bd 30 (keptF l).1 ∧ Off 3 (keptF l).1 l := by
  have h := kept_ok l hl hn l.length (Nat.le_refl _)
  rw [List.take_length] at h
  obtain ⟨hs, _, ⟨E, e0, e1, e2⟩, c1, c2⟩ := h
  refine ⟨hs, ?_⟩
  obtain ⟨u0, u1, u2, u3, u4, u5⟩ := uR_facts
  obtain ⟨s1, s2, s3⟩ := sumV_le l
  have hk' : (l.length : Rat) ≤ 256 := by exact_mod_cast hn
  have a0 := Rat.mul_nonneg u0 s3
  have aa0 := Rat.mul_nonneg u0 a0
  have ka := Rat.mul_le_mul_of_nonneg_right hk' aa0
  have gaa := Rat.mul_le_mul_of_nonneg_right u1 a0
  have gs : 16 * uR * magV l = 17 * P2 (-24) * magV l := by rw [u3]
  unfold Off sv
  have e3 : ((3 : Nat) : Rat) = 3 := rfl
  rw [e3]
  constructor <;> grind
end Format
end Ieee
