import Derived.Test.YtfmbekdfigbfiaaJO
namespace Kah
def ab (x : Rat) : Rat := if 0 ≤ x then x else -x
theorem ab_le {x b : Rat} (h1 : -b ≤ x) (h2 : x ≤ b) : ab x ≤ b := by unfold ab; split <;> grind
theorem le_ab (x : Rat) : x ≤ ab x ∧ -ab x ≤ x ∧ 0 ≤ ab x := by unfold ab; split <;> grind
/-- one step of a sum whose losses are kept -/
theorem kept_step {u A X a b aa bb q k E c S x s t y d c' e1 e2 e3 e4 : Rat} (u0 : 0 ≤ u) (u1 : u ≤ 1 / 1048576) (A0 : 0 ≤ A) (X0 : 0 ≤ X) (hx1 : -X ≤ x) (hx2 : x ≤ X)
    (ha : a = u * A) (hb : b = u * X) (haa : aa = u * a) (hbb : bb = u * b) (hq : q = k * aa) (k0 : 0 ≤ k) (k1 : k ≤ 256)
    (S1 : -A ≤ S) (S2 : S ≤ A) (E1 : -(2 * a + 20 * q) ≤ E) (E2 : E ≤ 2 * a + 20 * q) (c1 : -(3 * a) ≤ c) (c2 : c ≤ 3 * a) (hE : s = E + c + S)
    (ht : t = x - c + e1) (h1 : ∀ m, -m ≤ x - c → x - c ≤ m → -(u * m) ≤ e1 ∧ e1 ≤ u * m)
    (hy : y = s + t + e2) (h2 : ∀ m, -m ≤ s + t → s + t ≤ m → -(u * m) ≤ e2 ∧ e2 ≤ u * m)
    (hd : d = y - s + e3) (h3 : ∀ m, -m ≤ y - s → y - s ≤ m → -(u * m) ≤ e3 ∧ e3 ≤ u * m)
    (hc : c' = d - t + e4) (h4 : ∀ m, -m ≤ d - t → d - t ≤ m → -(u * m) ≤ e4 ∧ e4 ≤ u * m) :
    ∃ E', y = E' + c' + (S + x) ∧ -(2 * (a + b) + 20 * (q + aa + k * bb + bb)) ≤ E' ∧ E' ≤ 2 * (a + b) + 20 * (q + aa + k * bb + bb) ∧ -(3 * (a + b)) ≤ c' ∧ c' ≤ 3 * (a + b) := by
  have a0 : 0 ≤ a := by rw [ha]; exact Rat.mul_nonneg u0 A0
  have b0 : 0 ≤ b := by rw [hb]; exact Rat.mul_nonneg u0 X0
  have aa0 : 0 ≤ aa := by rw [haa]; exact Rat.mul_nonneg u0 a0
  have bb0 : 0 ≤ bb := by rw [hbb]; exact Rat.mul_nonneg u0 b0
  have q0 : 0 ≤ q := by rw [hq]; exact Rat.mul_nonneg k0 aa0
  have kb0 : 0 ≤ k * bb := Rat.mul_nonneg k0 bb0
  have q1 : q ≤ 256 * aa := by rw [hq]; exact Rat.mul_le_mul_of_nonneg_right k1 aa0
  have aa1 : 1048576 * aa ≤ a := by
    have := Rat.mul_le_mul_of_nonneg_right u1 a0
    grind
  have bb1 : 1048576 * bb ≤ b := by
    have := Rat.mul_le_mul_of_nonneg_right u1 b0
    grind
  have ga : 1048576 * a ≤ A := by
    have := Rat.mul_le_mul_of_nonneg_right u1 A0
    grind
  have gb : 1048576 * b ≤ X := by
    have := Rat.mul_le_mul_of_nonneg_right u1 X0
    grind
  have f1 := h1 (X + 3 * a) (by grind) (by grind)
  have f1 : -(b + 3 * aa) ≤ e1 ∧ e1 ≤ b + 3 * aa := by grind
  have f2 := h2 (A + X + 3 * a + 2 * b) (by grind) (by grind)
  have f2 : -(a + b + 3 * aa + 2 * bb) ≤ e2 ∧ e2 ≤ a + b + 3 * aa + 2 * bb := by grind
  have f3 := h3 (X + 5 * a + 3 * b) (by grind) (by grind)
  have f3 : -(b + 5 * aa + 3 * bb) ≤ e3 ∧ e3 ≤ b + 5 * aa + 3 * bb := by grind
  have f4 := h4 (2 * a + 3 * b) (by grind) (by grind)
  have f4 : -(2 * aa + 3 * bb) ≤ e4 ∧ e4 ≤ 2 * aa + 3 * bb := by grind
  exact ⟨E + e1 - e3 - e4, by grind, by grind, by grind, by grind, by grind⟩
/-- the sum of two sums -/
theorem pair_step {u v A B S T s t y e k : Rat} (v0 : 0 ≤ v) (hv : v ≤ 1 / 1048576) (hu : 16 * u ≤ 17 * v) (A0 : 0 ≤ A) (B0 : 0 ≤ B) (k1 : k ≤ 256)
    (S1 : -A ≤ S) (S2 : S ≤ A) (T1 : -B ≤ T) (T2 : T ≤ B)
    (s1 : -(k * (2 * (v * A))) ≤ s - S) (s2 : s - S ≤ k * (2 * (v * A))) (t1 : -(k * (2 * (v * B))) ≤ t - T) (t2 : t - T ≤ k * (2 * (v * B)))
    (hy : y = s + t + e) (h : ∀ m, -m ≤ s + t → s + t ≤ m → -(u * m) ≤ e ∧ e ≤ u * m) :
    -((k + 1) * (2 * (v * (A + B)))) ≤ y - (S + T) ∧ y - (S + T) ≤ (k + 1) * (2 * (v * (A + B))) := by
  have a0 := Rat.mul_nonneg v0 A0
  have b0 := Rat.mul_nonneg v0 B0
  have ka := Rat.mul_le_mul_of_nonneg_right k1 a0
  have kb := Rat.mul_le_mul_of_nonneg_right k1 b0
  have ga := Rat.mul_le_mul_of_nonneg_right hv A0
  have gb := Rat.mul_le_mul_of_nonneg_right hv B0
  have ua := Rat.mul_le_mul_of_nonneg_right hu A0
  have ub := Rat.mul_le_mul_of_nonneg_right hu B0
  have f := h (A + B + (A + B) * (1 / 1024)) (by grind) (by grind)
  constructor <;> grind
end Kah

namespace Ieee
namespace Format
open Go

/-! ### how far a rounded sum lies from the sum -/
def uR : Rat := 17 * P2 (-28)
theorem uR_facts : 0 ≤ uR ∧ uR ≤ 1 / 1048576 ∧ uR * 268435456 = 17 ∧ 16 * uR = 17 * P2 (-24) ∧ P2 (-24) ≤ 1 / 1048576 ∧ 0 ≤ P2 (-24) := by
  have a := P2_add 28 (-28)
  rw [show P2 28 = ((2 ^ 28 : Nat) : Rat) from P2_nat 28, show (28 : Int) + -28 = 0 from rfl, P2_zero] at a
  have b := P2_add 4 (-28)
  rw [show P2 4 = ((2 ^ 4 : Nat) : Rat) from P2_nat 4, show (4 : Int) + -28 = -24 from rfl] at b
  have p := P2_pos (-28)
  have e1 : ((2 ^ 28 : Nat) : Rat) = 268435456 := rfl
  have e2 : ((2 ^ 4 : Nat) : Rat) = 16 := rfl
  rw [e1] at a
  rw [e2] at b
  unfold uR
  refine ⟨by grind, by grind, by grind, by grind, by grind, by grind⟩
theorem mult_V (x : Nat) : Mult (single.V x) (-149) := by
  have hs := sing_V (x := x)
  obtain ⟨p, hp, h, _, _⟩ := hs.mult
  exact h.le hp
theorem Rounds.rel {x : Rat} {s : Bool} {w : Nat} (h : single.Rounds x s w) (fw : single.fin w) (hm : Mult x (-149)) (m : Rat) (h1 : -m ≤ x) (h2 : x ≤ m) :
    -(uR * m) ≤ single.V w - x ∧ single.V w - x ≤ uR * m := by
  obtain ⟨r, rfl, hn⟩ := h
  have hlt : r < single.infRung := (single.fin_word_iff s r).1 fw
  rw [single.V_word hlt]
  have hy : Mult (sg s * x) (-149) := by
    cases s
    · simpa [sg] using hm
    · have e : sg true * x = -x := by simp [sg]; grind
      rw [e]
      exact hm.neg
  have hx : x = sg s * (sg s * x) := by rw [← Rat.mul_assoc, sg_sq, Rat.one_mul]
  have hb : sg s * x ≤ m := by cases s <;> simp [sg] <;> grind
  have h0 := hn.2.2
  obtain ⟨u0, u1, u2, _, _, _⟩ := uR_facts
  generalize hv : sg s * x = y at *
  have key : -(uR * y) ≤ single.rv r - y ∧ single.rv r - y ≤ uR * y := by
    rcases Nat.lt_or_ge r (2 * single.binade) with hr | hr
    · obtain ⟨n, hnn⟩ := hy
      have p := P2_pos (-149)
      have e0 : single.rv r = (r : Rat) * P2 (-149) := by
        have := single.rv_at 0 r (.inl rfl) (Nat.le_of_lt hr)
        rw [Nat.zero_mul, Nat.zero_add, single_least] at this
        simpa using this
      have e1 : single.rv (r + 1) = ((r + 1 : Nat) : Rat) * P2 (-149) := by
        have := single.rv_at 0 (r + 1) (.inl rfl) hr
        rw [Nat.zero_mul, Nat.zero_add, single_least] at this
        simpa using this
      have a := hn.up
      rw [e0, e1, hnn] at a
      have a' : ((2 * n : Int) : Rat) ≤ ((2 * (r : Int) + 1 : Int) : Rat) := by
        refine mul_le_cancel p ?_
        push_cast at a ⊢
        grind
      have a'' : 2 * n ≤ 2 * (r : Int) + 1 := Rat.intCast_le_intCast.1 a'
      have hn0 : (0 : Int) ≤ n := by
        rw [hnn] at h0
        have : ((0 : Int) : Rat) ≤ (n : Rat) := by
          refine mul_le_cancel p ?_
          simpa using h0
        exact Rat.intCast_le_intCast.1 this
      have hnr : n = (r : Int) := by
        rcases Nat.eq_zero_or_pos r with hz | hz
        · subst hz; omega
        · have b := hn.down (by omega)
          have e2 : single.rv (r - 1) = ((r - 1 : Nat) : Rat) * P2 (-149) := by
            have := single.rv_at 0 (r - 1) (.inl rfl) (by omega)
            rw [Nat.zero_mul, Nat.zero_add, single_least] at this
            simpa using this
          rw [e0, e2, hnn] at b
          have b' : ((2 * (r : Int) - 1 : Int) : Rat) ≤ ((2 * n : Int) : Rat) := by
            refine mul_le_cancel p ?_
            have e3 : ((r - 1 : Nat) : Rat) = (r : Rat) - 1 := by
              have : ((r - 1 + 1 : Nat) : Rat) = ((r - 1 : Nat) : Rat) + 1 := by push_cast; rfl
              rw [show r - 1 + 1 = r from by omega] at this
              grind
            rw [e3] at b
            push_cast at b ⊢
            grind
          have b'' : 2 * (r : Int) - 1 ≤ 2 * n := Rat.intCast_le_intCast.1 b'
          omega
      have e : single.rv r = y := by
        rw [e0, hnn, hnr, Rat.intCast_natCast]
      have := Rat.mul_nonneg u0 h0
      rw [e]
      constructor <;> grind
    · obtain ⟨a, b⟩ := hn.off
      have hmag : single.binade ≤ single.rmag r := by
        unfold rmag
        rw [if_neg (by have := single.binade_pos; omega)]
        omega
      have hbin : single.binade = 8388608 := single_binade
      have p := P2_pos (single.rplace r)
      have c : (8388608 : Rat) * P2 (single.rplace r) ≤ single.rv r := by
        unfold rv
        refine Rat.mul_le_mul_of_nonneg_right ?_ (Rat.le_of_lt p)
        have : ((8388608 : Nat) : Rat) ≤ ((single.rmag r : Nat) : Rat) := by exact_mod_cast (by omega : 8388608 ≤ single.rmag r)
        exact this
      generalize P2 (single.rplace r) = P at *
      generalize single.rv r = R at *
      have d : P ≤ 2 * (uR * y) := by
        have : (16777215 : Rat) * P ≤ 2 * y := by grind
        have := Rat.mul_le_mul_of_nonneg_left this u0
        have e : uR * 268435456 * P = 17 * P := by rw [u2]
        grind
      constructor <;> grind
  have hm' := Rat.mul_le_mul_of_nonneg_left hb u0
  rw [hx]
  cases s <;> simp [sg] <;> grind
/-- the error of a sum of singles -/
def addE (x y : Nat) : Rat := single.V (addF x y) - (single.V x + single.V y)
def subE (x y : Nat) : Rat := single.V (subF x y) - (single.V x - single.V y)
theorem addE_le {x y : Nat} (hx : single.fin x) (hy : single.fin y) (hf : single.fin (addF x y)) (m : Rat) (h1 : -m ≤ single.V x + single.V y) (h2 : single.V x + single.V y ≤ m) : -(uR * m) ≤ addE x y ∧ addE x y ≤ uR * m :=
  (addF_spec hx hy).2.rel hf ((mult_V x).add (mult_V y)) m h1 h2
theorem subE_le {x y : Nat} (hx : single.fin x) (hy : single.fin y) (hf : single.fin (subF x y)) (m : Rat) (h1 : -m ≤ single.V x - single.V y) (h2 : single.V x - single.V y ≤ m) : -(uR * m) ≤ subE x y ∧ subE x y ≤ uR * m :=
  (subF_spec hx hy).2.rel hf ((mult_V x).sub (mult_V y)) m h1 h2
end Format
end Ieee

namespace Ieee
namespace Format
open Go Kah

/-! ### the three sums, in plain Lean -/
def sumV : List Nat → Rat
  | [] => 0
  | x :: t => single.V x + sumV t
def magV : List Nat → Rat
  | [] => 0
  | x :: t => ab (single.V x) + magV t
theorem sumV_app : ∀ a b : List Nat, sumV (a ++ b) = sumV a + sumV b
  | [], b => by simp [sumV]; grind
  | x :: t, b => by rw [List.cons_append, sumV, sumV, sumV_app t b]; grind
theorem magV_app : ∀ a b : List Nat, magV (a ++ b) = magV a + magV b
  | [], b => by simp [magV]; grind
  | x :: t, b => by rw [List.cons_append, magV, magV, magV_app t b]; grind
theorem sumV_le : ∀ l : List Nat, -magV l ≤ sumV l ∧ sumV l ≤ magV l ∧ 0 ≤ magV l
  | [] => by simp [sumV, magV]
  | x :: t => by
    obtain ⟨a, b, c⟩ := sumV_le t
    obtain ⟨d, e, f⟩ := le_ab (single.V x)
    unfold sumV magV
    refine ⟨by grind, by grind, by grind⟩
theorem magV_bd : ∀ l : List Nat, (∀ x ∈ l, Ht x) → magV l ≤ (l.length : Rat) * P2 20
  | [], _ => by simp [magV]
  | x :: t, h => by
    have a := magV_bd t (fun y hy => h y (List.mem_cons_of_mem _ hy))
    have b := (h x (List.mem_cons_self ..)).V
    have c := ab_le b.1 b.2
    unfold magV
    have e : ((t.length + 1 : Nat) : Rat) = (t.length : Rat) + 1 := by push_cast; rfl
    rw [List.length_cons, e]
    grind
/-- one sum more -/
theorem Hn.sum {n m x y : Nat} (hx : Hn n x) (hy : Hn m y) (hn : n + m < 16777216) : Hn (n + m) (addF x y) := by
  obtain ⟨fx, a1, a2⟩ := hx
  obtain ⟨fy, b1, b2⟩ := hy
  obtain ⟨c, fc, vc, sc⟩ := const_nat (n + m) hn
  have e : ((n + m : Nat) : Rat) = (n : Rat) + (m : Rat) := by push_cast; rfl
  have p := P2_pos 20
  have hr := (addF_spec fx fy).2.bound fc sc (by rw [vc, e]; grind) (by rw [vc, e]; grind)
  rw [vc] at hr
  exact ⟨hr.1, hr.2.2.1, hr.2.1⟩
def sv : Rat := P2 (-24)
/-- a sum's error is at most so many units of the magnitudes -/
def Off (k : Nat) (v : Nat) (l : List Nat) : Prop := -((k : Rat) * (2 * (sv * magV l))) ≤ single.V v - sumV l ∧ single.V v - sumV l ≤ (k : Rat) * (2 * (sv * magV l))
theorem off_one (x : Nat) : Off 0 x [x] := by
  unfold Off sumV magV sumV magV
  have : ((0 : Nat) : Rat) = 0 := rfl
  constructor <;> grind
theorem Off.mono {j k v : Nat} {l : List Nat} (h : Off j v l) (hjk : j ≤ k) : Off k v l := by
  obtain ⟨a, b⟩ := h
  have c : (j : Rat) ≤ (k : Rat) := by exact_mod_cast hjk
  have d := Rat.mul_le_mul_of_nonneg_right c (show (0 : Rat) ≤ 2 * (sv * magV l) by
    have := Rat.mul_nonneg (show (0 : Rat) ≤ sv from Rat.le_of_lt (P2_pos _)) (sumV_le l).2.2
    grind)
  unfold Off
  constructor <;> grind
theorem Off.sum {k x y : Nat} {a b : List Nat} (hx : Off k x a) (hy : Off k y b) (fx : single.fin x) (fy : single.fin y) (ff : single.fin (addF x y)) (hk : k ≤ 256) : Off (k + 1) (addF x y) (a ++ b) := by
  obtain ⟨u0, u1, u2, u3, u4, u5⟩ := uR_facts
  obtain ⟨a1, a2, a3⟩ := sumV_le a
  obtain ⟨b1, b2, b3⟩ := sumV_le b
  have hk' : (k : Rat) ≤ 256 := by exact_mod_cast hk
  have := pair_step (u := uR) (v := sv) (A := magV a) (B := magV b) (S := sumV a) (T := sumV b) (s := single.V x) (t := single.V y) (y := single.V (addF x y)) (e := addE x y) (k := (k : Rat))
    (by unfold sv; exact u5) (by unfold sv; exact u4) (by rw [u3]; unfold sv; exact Rat.le_refl) a3 b3 hk' a1 a2 b1 b2 hx.1 hx.2 hy.1 hy.2 (by unfold addE; grind) (fun m h1 h2 => addE_le fx fy ff m h1 h2)
  unfold Off
  rw [sumV_app, magV_app]
  have e : ((k + 1 : Nat) : Rat) = (k : Rat) + 1 := by push_cast; rfl
  rw [e]
  exact this
def rowsF : List Nat → Nat
  | [] => 0
  | x :: t => t.foldl addF x
theorem rowsF_one (x : Nat) : rowsF [x] = x := rfl
theorem rowsF_snoc (l : List Nat) (x : Nat) (h : l ≠ []) : rowsF (l ++ [x]) = addF (rowsF l) x := by
  match l, h with
  | y :: t, _ => simp [rowsF]
theorem rows_ok (l : List Nat) (hl : ∀ x ∈ l, Ht x) (hn : l.length ≤ 256) : ∀ k, k + 1 ≤ l.length → Hn (k + 1) (rowsF (l.take (k + 1))) ∧ Off k (rowsF (l.take (k + 1))) (l.take (k + 1))
  | 0, h => by
    match l, h with
    | x :: t, _ =>
      have hx := hl x (List.mem_cons_self ..)
      simp only [Nat.zero_add, List.take_succ_cons, List.take_zero, rowsF_one]
      exact ⟨Hn.one hx.bd, off_one x⟩
  | k + 1, h => by
    obtain ⟨a, b⟩ := rows_ok l hl hn k (by omega)
    have hk : k + 1 < l.length := by omega
    have e : l.take (k + 1 + 1) = l.take (k + 1) ++ [l[k + 1]] := by rw [List.take_succ_eq_append_getElem hk]
    have hx := hl _ (List.getElem_mem hk)
    have hne : l.take (k + 1) ≠ [] := fun h0 => by
      have h1 := congrArg List.length h0
      rw [List.length_take, List.length_nil] at h1
      omega
    rw [e, rowsF_snoc _ _ hne]
    have c := a.add hx.bd (by omega)
    exact ⟨c, b.sum (Off.mono (off_one _) (by omega)) a.1 hx.fin c.1 (by omega)⟩
def pairsF : Nat → List Nat → Nat
  | 0, l => l.getD 0 0
  | k + 1, l => if l.length = 1 then l.getD 0 0 else addF (pairsF k (l.take (l.length / 2))) (pairsF k (l.drop (l.length / 2)))
theorem pairs_one : ∀ (k : Nat) (l : List Nat), l.length = 1 → pairsF k l = l.getD 0 0
  | 0, _, _ => rfl
  | k + 1, l, h => by unfold pairsF; rw [if_pos h]
theorem pairs_ok : ∀ (k : Nat) (l : List Nat), k ≤ 200 → (∀ x ∈ l, Ht x) → 1 ≤ l.length → l.length ≤ 2 ^ k → l.length ≤ 65536 → Hn l.length (pairsF k l) ∧ Off k (pairsF k l) l
  | 0, l, _, hl, h1, h2, _ => by
    match l, h1, h2 with
    | [x], _, _ => exact ⟨Hn.one (hl x (List.mem_cons_self ..)).bd, off_one x⟩
    | x :: y :: t, _, h2 => simp at h2
  | k + 1, l, hk, hl, h1, h2, h3 => by
    by_cases c : l.length = 1
    · rw [pairs_one _ _ c]
      match l, c with
      | [x], _ => exact ⟨Hn.one (hl x (List.mem_cons_self ..)).bd, Off.mono (off_one x) (by omega)⟩
    · unfold pairsF
      rw [if_neg c]
      have e : 2 ^ (k + 1) = 2 * 2 ^ k := by rw [Nat.pow_succ]; omega
      rw [e] at h2
      have l1 : (l.take (l.length / 2)).length = l.length / 2 := by simp; omega
      have l2 : (l.drop (l.length / 2)).length = l.length - l.length / 2 := by simp
      obtain ⟨a, b⟩ := pairs_ok k (l.take (l.length / 2)) (by omega) (fun x hx => hl x (List.mem_of_mem_take hx)) (by omega) (by omega) (by omega)
      obtain ⟨d, f⟩ := pairs_ok k (l.drop (l.length / 2)) (by omega) (fun x hx => hl x (List.mem_of_mem_drop hx)) (by omega) (by omega) (by omega)
      have g := a.sum d (by omega)
      rw [l1, l2, show l.length / 2 + (l.length - l.length / 2) = l.length from by omega] at g
      have o := b.sum f a.1 d.1 g.1 (by omega)
      rw [List.take_append_drop] at o
      exact ⟨g, o⟩
/-- the sum with what was lost -/
def keptStep (s : Nat × Nat) (x : Nat) : Nat × Nat := (addF s.1 (subF x s.2), subF (subF (addF s.1 (subF x s.2)) s.1) (subF x s.2))
def keptF (l : List Nat) : Nat × Nat := l.foldl keptStep (0, 0)
theorem keptF_snoc (l : List Nat) (x : Nat) : keptF (l ++ [x]) = keptStep (keptF l) x := by unfold keptF; simp
/-- what holds of the sum and of what was lost -/
structure Kept (k : Nat) (s c : Nat) (l : List Nat) : Prop where
  fs : Bd 30 s
  fc : Bd 30 c
  ex : ∃ E, single.V s = E + single.V c + sumV l ∧ -(2 * (uR * magV l) + 20 * ((k : Rat) * (uR * (uR * magV l)))) ≤ E ∧ E ≤ 2 * (uR * magV l) + 20 * ((k : Rat) * (uR * (uR * magV l)))
  c1 : -(3 * (uR * magV l)) ≤ single.V c
  c2 : single.V c ≤ 3 * (uR * magV l)
/-- what is finite on the way -/
structure KeptFin (s c x : Nat) : Prop where
  t : single.fin (subF x c)
  u : single.fin (addF s (subF x c))
  d : single.fin (subF (addF s (subF x c)) s)
  c' : single.fin (subF (subF (addF s (subF x c)) s) (subF x c))
theorem P2_20 : P2 20 = 1048576 := by rw [show P2 20 = ((2 ^ 20 : Nat) : Rat) from P2_nat 20]; rfl
theorem P2_30 : P2 30 = 1073741824 := by rw [show P2 30 = ((2 ^ 30 : Nat) : Rat) from P2_nat 30]; rfl
theorem kept_fin {s c x : Nat} (hs : Bd 30 s) (hc : Bd 30 c) (hx : Ht x) : KeptFin s c x ∧ Bd 31 (subF x c) ∧ Bd 33 (addF s (subF x c)) := by
  have t := (hx.bd.mono (show 20 ≤ 30 by omega)).sub hc (by omega)
  have u := (hs.mono (show 30 ≤ 31 by omega)).add t (by omega)
  have d := u.sub (hs.mono (show 30 ≤ 32 by omega)) (by omega)
  have c' := d.sub (t.mono (show 31 ≤ 33 by omega)) (by omega)
  exact ⟨⟨t.1, u.1, d.1, c'.1⟩, t, u.mono (by omega)⟩
theorem Kept.step {k s c x : Nat} {l : List Nat} (h : Kept k s c l) (hx : Ht x) (hk : k + 1 ≤ 256) (hm : magV l + ab (single.V x) ≤ 256 * P2 20) :
    Kept (k + 1) (keptStep (s, c) x).1 (keptStep (s, c) x).2 (l ++ [x]) := by
  obtain ⟨hs, hc, ⟨E, e0, e1, e2⟩, c1, c2⟩ := h
  obtain ⟨⟨ft, fu, fd, fc⟩, _, _⟩ := kept_fin hs hc hx
  obtain ⟨u0, u1, u2, u3, u4, u5⟩ := uR_facts
  obtain ⟨s1, s2, s3⟩ := sumV_le l
  obtain ⟨x1, x2, x3⟩ := le_ab (single.V x)
  have hk' : (k : Rat) ≤ 256 := by exact_mod_cast (by omega : k ≤ 256)
  have hk0 : (0 : Rat) ≤ (k : Rat) := Rat.natCast_nonneg
  have kc : ((k + 1 : Nat) : Rat) = (k : Rat) + 1 := by push_cast; rfl
  obtain ⟨E', r1, r2, r3, r4, r5⟩ := kept_step (u := uR) (A := magV l) (X := ab (single.V x)) (a := uR * magV l) (b := uR * ab (single.V x)) (aa := uR * (uR * magV l)) (bb := uR * (uR * ab (single.V x))) (q := (k : Rat) * (uR * (uR * magV l)))
    (k := (k : Rat)) (E := E) (c := single.V c) (S := sumV l) (x := single.V x) (s := single.V s) (t := single.V (subF x c)) (y := single.V (addF s (subF x c))) (d := single.V (subF (addF s (subF x c)) s)) (c' := single.V (subF (subF (addF s (subF x c)) s) (subF x c)))
    (e1 := subE x c) (e2 := addE s (subF x c)) (e3 := subE (addF s (subF x c)) s) (e4 := subE (subF (addF s (subF x c)) s) (subF x c))
    u0 u1 s3 x3 (by grind) (by grind) rfl rfl rfl rfl rfl hk0 hk' s1 s2 e1 e2 c1 c2 e0
    (by unfold subE; grind) (fun m h1 h2 => subE_le hx.fin hc.1 ft m h1 h2)
    (by unfold addE; grind) (fun m h1 h2 => addE_le hs.1 ft fu m h1 h2)
    (by unfold subE; grind) (fun m h1 h2 => subE_le fu hs.1 fd m h1 h2)
    (by unfold subE; grind) (fun m h1 h2 => subE_le fd ft fc m h1 h2)
  have m1 : magV (l ++ [x]) = magV l + ab (single.V x) := by rw [magV_app]; unfold magV magV; grind
  have m2 : sumV (l ++ [x]) = sumV l + single.V x := by rw [sumV_app]; unfold sumV sumV; grind
  have a0 := Rat.mul_nonneg u0 s3
  have b0 := Rat.mul_nonneg u0 x3
  have aa0 := Rat.mul_nonneg u0 a0
  have bb0 := Rat.mul_nonneg u0 b0
  have ka := Rat.mul_le_mul_of_nonneg_right hk' aa0
  have kb := Rat.mul_le_mul_of_nonneg_right hk' bb0
  have ga := Rat.mul_le_mul_of_nonneg_right u1 s3
  have gb := Rat.mul_le_mul_of_nonneg_right u1 x3
  have gaa := Rat.mul_le_mul_of_nonneg_right u1 a0
  have gbb := Rat.mul_le_mul_of_nonneg_right u1 b0
  rw [P2_20] at hm
  have p30 := P2_30
  unfold keptStep
  dsimp only
  refine ⟨⟨fu, by grind, by grind⟩, ⟨fc, by grind, by grind⟩, ⟨E', by rw [m2]; exact r1, ?_, ?_⟩, ?_, ?_⟩
  · rw [m1, kc]; grind
  · rw [m1, kc]; grind
  · rw [m1]; grind
  · rw [m1]; grind
theorem magV_take (l : List Nat) (hl : ∀ x ∈ l, Ht x) (hn : l.length ≤ 256) (k : Nat) (hk : k < l.length) : magV (l.take k) + ab (single.V l[k]) ≤ 256 * P2 20 := by
  have := magV_bd (l.take (k + 1)) (fun x hx => hl x (List.mem_of_mem_take hx))
  rw [List.take_succ_eq_append_getElem hk, magV_app, ← List.take_succ_eq_append_getElem hk] at this
  have h1 : (l.take (k + 1)).length = k + 1 := by simp; omega
  rw [h1] at this
  have h2 : ((k + 1 : Nat) : Rat) ≤ 256 := by exact_mod_cast (by omega : k + 1 ≤ 256)
  have h3 := Rat.mul_le_mul_of_nonneg_right h2 (Rat.le_of_lt (P2_pos 20))
  have e : magV [l[k]] = ab (single.V l[k]) := by unfold magV magV; grind
  rw [e] at this
  grind
theorem kept_ok (l : List Nat) (hl : ∀ x ∈ l, Ht x) (hn : l.length ≤ 256) : ∀ k, k ≤ l.length → Kept k (keptF (l.take k)).1 (keptF (l.take k)).2 (l.take k)
  | 0, _ => by
    have e : keptF (l.take 0) = (0, 0) := rfl
    rw [e, List.take_zero]
    have z := const_0.2.1
    have p := P2_pos 30
    have b : Bd 30 0 := ⟨const_0.1, by rw [z]; grind, by rw [z]; grind⟩
    refine ⟨b, b, ⟨0, ?_, ?_, ?_⟩, ?_, ?_⟩ <;> simp [z, sumV, magV] <;> grind
  | k + 1, h => by
    have ih := kept_ok l hl hn k (by omega)
    have hk : k < l.length := by omega
    have hx := hl _ (List.getElem_mem hk)
    have := ih.step hx (by omega) (magV_take l hl hn k hk)
    rw [List.take_succ_eq_append_getElem hk, keptF_snoc]
    exact this
theorem kept_off (l : List Nat) (hl : ∀ x ∈ l, Ht x) (hn : l.length ≤ 256) : Bd 30 (keptF l).1 ∧ Off 3 (keptF l).1 l := by
  have h := kept_ok l hl hn l.length (Nat.le_refl _)
  rw [List.take_length] at h
  obtain ⟨hs, _, ⟨E, e0, e1, e2⟩, c1, c2⟩ := h
  refine ⟨hs, ?_⟩
  obtain ⟨u0, u1, u2, u3, u4, u5⟩ := uR_facts
  obtain ⟨s1, s2, s3⟩ := sumV_le l
  have hk' : (l.length : Rat) ≤ 256 := by exact_mod_cast hn
  have a0 := Rat.mul_nonneg u0 s3
  have aa0 := Rat.mul_nonneg u0 a0
  have ka := Rat.mul_le_mul_of_nonneg_right hk' aa0
  have gaa := Rat.mul_le_mul_of_nonneg_right u1 a0
  have gs : 16 * uR * magV l = 17 * P2 (-24) * magV l := by rw [u3]
  unfold Off sv
  have e3 : ((3 : Nat) : Rat) = 3 := rfl
  rw [e3]
  constructor <;> grind
end Format
end Ieee

namespace Wide
/-! ### wide numbers, in plain Lean: five digits of 64 bits -/
def qd (z : Int) : Nat → Int
  | 0 => z
  | k + 1 => qd z k / 18446744073709551616
def dig (z : Int) (k : Nat) : Int := qd z k % 18446744073709551616
theorem dig_bd (z : Int) (k : Nat) : 0 ≤ dig z k ∧ dig z k < 18446744073709551616 := by unfold dig; omega
theorem qd_split (z : Int) (k : Nat) : qd z k = 18446744073709551616 * qd z (k + 1) + dig z k := by unfold dig; rw [qd]; omega
/-- what is carried in a sum -/
def car (a b : Int) : Nat → Int
  | 0 => 0
  | k + 1 => (dig a k + dig b k + car a b k) / 18446744073709551616
theorem qd_add (a b : Int) : ∀ k, qd (a + b) k = qd a k + qd b k + car a b k ∧ 0 ≤ car a b k ∧ car a b k ≤ 1
  | 0 => by unfold qd car; omega
  | k + 1 => by
    obtain ⟨h1, h2, h3⟩ := qd_add a b k
    have s1 := qd_split a k
    have s2 := qd_split b k
    obtain ⟨d1, d2⟩ := dig_bd a k
    obtain ⟨d3, d4⟩ := dig_bd b k
    rw [car, show qd (a + b) (k + 1) = qd (a + b) k / 18446744073709551616 from rfl, h1]
    omega
theorem dig_add (a b : Int) (k : Nat) : dig (a + b) k = (dig a k + dig b k + car a b k) % 18446744073709551616 := by
  obtain ⟨h1, _, _⟩ := qd_add a b k
  have s1 := qd_split a k
  have s2 := qd_split b k
  rw [show dig (a + b) k = qd (a + b) k % 18446744073709551616 from rfl, h1]
  omega
theorem qd_not (a : Int) : ∀ k, qd (-1 - a) k = -1 - qd a k
  | 0 => rfl
  | k + 1 => by
    have := qd_not a k
    rw [show qd (-1 - a) (k + 1) = qd (-1 - a) k / 18446744073709551616 from rfl, show qd a (k + 1) = qd a k / 18446744073709551616 from rfl, this]
    omega
theorem dig_not (a : Int) (k : Nat) : dig (-1 - a) k = 18446744073709551615 - dig a k := by
  unfold dig
  rw [qd_not]
  omega
/-- what is carried in a product -/
def carm (a n : Int) : Nat → Int
  | 0 => 0
  | k + 1 => (dig a k * n + carm a n k) / 18446744073709551616
theorem qd_mul (a n : Int) (h0 : 0 ≤ n) : ∀ k, qd (a * n) k = qd a k * n + carm a n k ∧ 0 ≤ carm a n k ∧ carm a n k ≤ n
  | 0 => by simp [qd, carm]; omega
  | k + 1 => by
    obtain ⟨h1, h2, h3⟩ := qd_mul a n h0 k
    have s1 := qd_split a k
    obtain ⟨d1, d2⟩ := dig_bd a k
    have p0 := Int.mul_nonneg d1 (show 0 ≤ n by omega)
    have p1 := Int.mul_le_mul_of_nonneg_right (show dig a k ≤ 18446744073709551615 by omega) (show 0 ≤ n by omega)
    have e : qd a k * n = 18446744073709551616 * (qd a (k + 1) * n) + dig a k * n := by rw [s1]; grind
    rw [carm, show qd (a * n) (k + 1) = qd (a * n) k / 18446744073709551616 from rfl, h1]
    generalize qd a (k + 1) * n = R at *
    generalize dig a k * n = P at *
    omega
theorem dig_mul (a n : Int) (h0 : 0 ≤ n) (k : Nat) : dig (a * n) k = (dig a k * n + carm a n k) % 18446744073709551616 := by
  obtain ⟨h1, _, _⟩ := qd_mul a n h0 k
  have s1 := qd_split a k
  have e : qd a k * n = 18446744073709551616 * (qd a (k + 1) * n) + dig a k * n := by rw [s1]; grind
  rw [show dig (a * n) k = qd (a * n) k % 18446744073709551616 from rfl, h1]
  generalize qd a (k + 1) * n = R at *
  generalize dig a k * n = P at *
  omega
/-- less, alike, greater -/
def cmpI (a b : Int) : Int := if a < b then -1 else if b < a then 1 else 0
theorem qd_mono {a b : Int} (h : a ≤ b) : ∀ k, qd a k ≤ qd b k
  | 0 => h
  | k + 1 => Int.ediv_le_ediv (by omega) (qd_mono h k)
theorem cmp_at {a b : Int} {k : Nat} (h : qd a (k + 1) = qd b (k + 1)) : (dig a k = dig b k → qd a k = qd b k) ∧ (dig a k ≠ dig b k → cmpI a b = cmpI (dig a k) (dig b k)) := by
  have s1 := qd_split a k
  have s2 := qd_split b k
  refine ⟨fun e => by omega, fun e => ?_⟩
  rcases Int.lt_or_lt_of_ne e with h1 | h1
  · have : a < b := by
      by_cases c : a < b
      · exact c
      · have := qd_mono (show b ≤ a by omega) k
        omega
    unfold cmpI
    rw [if_pos this, if_pos h1]
  · have : b < a := by
      by_cases c : b < a
      · exact c
      · have := qd_mono (show a ≤ b by omega) k
        omega
    unfold cmpI
    rw [if_neg (by omega), if_pos this, if_neg (by omega), if_pos h1]
theorem qd_5 {a : Int} (h0 : 0 ≤ a) (h1 : a < 2135987035920910082395021706169552114602704522356652769947041607822219725780640550022962086936576) : qd a 5 = 0 := by
  simp only [qd]
  omega
theorem top_digit {z : Int} (h0 : -1067993517960455041197510853084776057301352261178326384973520803911109862890320275011481043468288 ≤ z) (h1 : z < 1067993517960455041197510853084776057301352261178326384973520803911109862890320275011481043468288) :
    (dig z 4 / 9223372036854775808 = if z < 0 then 1 else 0) := by
  unfold dig
  simp only [qd]
  split <;> omega
def zabs (z : Int) : Int := if z < 0 then -z else z
end Wide
namespace Ieee
namespace Format
open Go Kah Wide

/-- a single in units of 2^-160 -/
def zi (x : Nat) : Int := (if single.sgn x then -1 else 1) * ((single.rmag (single.rung x) * 2 ^ (single.rplace (single.rung x) + 160).toNat : Nat) : Int)
theorem zi_V (x : Nat) : ((zi x : Int) : Rat) = single.V x * P2 160 := by
  have hp := single.least_le (single.rung x)
  rw [single_least] at hp
  unfold zi V rv
  have e : P2 (single.rplace (single.rung x)) * P2 160 = ((2 ^ (single.rplace (single.rung x) + 160).toNat : Nat) : Rat) := by
    rw [← P2_add, ← P2_nat]
    congr 1
    omega
  have e2 : (((single.rmag (single.rung x) * 2 ^ (single.rplace (single.rung x) + 160).toNat : Nat) : Int) : Rat) = (single.rmag (single.rung x) : Rat) * (P2 (single.rplace (single.rung x)) * P2 160) := by
    rw [e, Rat.intCast_natCast, Rat.natCast_mul]
  rw [Rat.intCast_mul, e2]
  cases single.sgn x <;> simp [sg] <;> grind
def sumZ : List Nat → Int
  | [] => 0
  | x :: t => zi x + sumZ t
def magZ : List Nat → Int
  | [] => 0
  | x :: t => zabs (zi x) + magZ t
theorem sumZ_V : ∀ l, ((sumZ l : Int) : Rat) = sumV l * P2 160
  | [] => by simp [sumZ, sumV]
  | x :: t => by unfold sumZ sumV; rw [Rat.intCast_add, zi_V, sumZ_V t]; grind
theorem zabs_V {z : Int} {v : Rat} (h : (z : Rat) = v * P2 160) : ((zabs z : Int) : Rat) = ab v * P2 160 := by
  have p := P2_pos 160
  unfold zabs ab
  by_cases c : z < 0
  · have : (z : Rat) < ((0 : Int) : Rat) := Rat.intCast_lt_intCast.2 c
    have hv : ¬ 0 ≤ v := fun h0 => by
      have := Rat.mul_nonneg h0 (Rat.le_of_lt p)
      simp at *
      grind
    rw [if_pos c, if_neg hv, Rat.intCast_neg, h]
    grind
  · have : ((0 : Int) : Rat) ≤ (z : Rat) := Rat.intCast_le_intCast.2 (by omega)
    have hv : 0 ≤ v := by
      refine mul_le_cancel p ?_
      rw [← h]
      simpa using this
    rw [if_neg c, if_pos hv, h]
theorem magZ_V : ∀ l, ((magZ l : Int) : Rat) = magV l * P2 160
  | [] => by simp [magZ, magV]
  | x :: t => by unfold magZ magV; rw [Rat.intCast_add, zabs_V (zi_V x), magZ_V t]; grind
theorem magZ_nonneg (l : List Nat) : 0 ≤ magZ l := by
  have h : ((0 : Int) : Rat) ≤ ((magZ l : Int) : Rat) := by
    rw [magZ_V]
    simpa using Rat.mul_nonneg (sumV_le l).2.2 (Rat.le_of_lt (P2_pos 160))
  exact Rat.intCast_le_intCast.1 h
/-- a sum that is off by so little is within -/
theorem within_of {k v : Nat} {l : List Nat} (h : Off k v l) : zabs (zi v - sumZ l) * 8388608 ≤ magZ l * (k : Int) := by
  have hz : ((zi v - sumZ l : Int) : Rat) = (single.V v - sumV l) * P2 160 := by rw [Rat.intCast_sub, zi_V, sumZ_V]; grind
  have ha := zabs_V hz
  have hb := ab_le h.1 h.2
  have p := P2_pos 160
  have hc := Rat.mul_le_mul_of_nonneg_right hb (Rat.le_of_lt p)
  rw [← ha] at hc
  have s : sv * 16777216 = 1 := by
    have a := P2_add 24 (-24)
    rw [show P2 24 = ((2 ^ 24 : Nat) : Rat) from P2_nat 24, show (24 : Int) + -24 = 0 from rfl, P2_zero] at a
    have e : ((2 ^ 24 : Nat) : Rat) = 16777216 := rfl
    rw [e] at a
    unfold sv
    grind
  have e1 : ((zabs (zi v - sumZ l) * 8388608 : Int) : Rat) = ((zabs (zi v - sumZ l) : Int) : Rat) * 8388608 := by rw [Rat.intCast_mul]; rfl
  have e2 : ((magZ l * (k : Int) : Int) : Rat) = magV l * P2 160 * (k : Rat) := by rw [Rat.intCast_mul, magZ_V, Rat.intCast_natCast]
  have e3 : (k : Rat) * (2 * (sv * magV l)) * P2 160 * 8388608 = magV l * P2 160 * (k : Rat) := by
    have : sv * 16777216 * (magV l * P2 160 * (k : Rat)) = 1 * (magV l * P2 160 * (k : Rat)) := by rw [s]
    grind
  refine Rat.intCast_le_intCast.1 ?_
  rw [e1, e2, ← e3]
  grind
theorem zi_bd {k x : Nat} (h : Bd k x) (hk : k ≤ 40) : -((2 ^ (k + 160) : Nat) : Int) ≤ zi x ∧ zi x ≤ ((2 ^ (k + 160) : Nat) : Int) := by
  have p := P2_pos 160
  have a := Rat.mul_le_mul_of_nonneg_right h.2.1 (Rat.le_of_lt p)
  have b := Rat.mul_le_mul_of_nonneg_right h.2.2 (Rat.le_of_lt p)
  have e : P2 (k : Int) * P2 160 = (((2 ^ (k + 160) : Nat) : Int) : Rat) := by
    rw [← P2_add, show ((k : Int) + 160) = ((k + 160 : Nat) : Int) from by omega, P2_nat, Rat.intCast_natCast]
  have hz := zi_V x
  constructor
  · refine Rat.intCast_le_intCast.1 ?_
    rw [Rat.intCast_neg, ← e, hz]
    grind
  · refine Rat.intCast_le_intCast.1 ?_
    rw [← e, hz]
    exact b
theorem zabs_bd {z B : Int} (h1 : -B ≤ z) (h2 : z ≤ B) : 0 ≤ zabs z ∧ zabs z ≤ B := by unfold zabs; split <;> omega
theorem sumZ_le : ∀ l : List Nat, -magZ l ≤ sumZ l ∧ sumZ l ≤ magZ l
  | [] => by simp [sumZ, magZ]
  | x :: t => by
    have := sumZ_le t
    unfold sumZ magZ zabs
    split <;> omega
theorem magZ_bd : ∀ l : List Nat, (∀ x ∈ l, Ht x) → magZ l ≤ (l.length : Int) * 1532495540865888858358347027150309183618739122183602176
  | [], _ => by simp [magZ]
  | x :: t, h => by
    have a := magZ_bd t (fun y hy => h y (List.mem_cons_of_mem _ hy))
    have b := zi_bd (h x (List.mem_cons_self ..)).bd (by omega)
    have c := (zabs_bd b.1 b.2).2
    have e : ((2 ^ (20 + 160) : Nat) : Int) = 1532495540865888858358347027150309183618739122183602176 := by simp
    rw [e] at c
    unfold magZ
    rw [List.length_cons]
    push_cast
    omega
end Format
end Ieee
