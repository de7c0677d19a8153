import Derived.Test.YtkmcinibaffpmaaGreatFloatR
namespace Ieee
namespace Format
open Go

/-! ### sums of octaves, in plain Lean -/
theorem const_32 : single.fin 1107296256 ∧ single.V 1107296256 = 32 ∧ single.sgn 1107296256 = false := by
  have := V_const false 131 8388608 (.inr (by decide)) (by decide) (by decide)
  rw [show single.word false (131 * 8388608 + 8388608) = 1107296256 from by decide] at this
  refine ⟨this.1, ?_, this.2.2⟩
  rw [this.2.1, show ((131 : Nat) : Int) - 149 = -18 from rfl, show ((8388608 : Nat) : Rat) = P2 23 from (P2_nat 23).symm, ← P2_add]
  simp [sg]
  exact P2_nat 5
theorem place_32 : single.rplace 1107296255 = -19 := by
  rw [show (1107296255 : Nat) = (130 + 1) * 8388608 + 8388607 from by omega, place_at _ _ (by omega)]; rfl
theorem near_32 : Near1 32 (P2 (-20)) := near_of (-19) (-20) 1107296255 (by omega) const_32 (by omega) place_32
/-- the share of an octave -/
def octA (g : Nat) : Nat → Nat
  | 0 => 1065353216
  | k + 1 => mulF (octA g k) g
/-- the sum of the first octaves -/
def octS (g : Nat) (n : Nat → Nat) : Nat → Nat
  | 0 => 0
  | k + 1 => addF (octS g n k) (mulF (octA g k) (n k))
def reachF (g b k : Nat) : Nat := mulF (octS g (fun _ => b) k) 1065354055
theorem amp_ok {g : Nat} (hg : single.fin g) (g0 : 0 ≤ single.V g) (g1 : single.V g ≤ 1) : ∀ k, single.fin (octA g k) ∧ 0 ≤ single.V (octA g k) ∧ single.V (octA g k) ≤ 1
  | 0 => by unfold octA; exact ⟨const_1.1, by rw [const_1.2.1]; decide, by rw [const_1.2.1]; decide⟩
  | k + 1 => by
    obtain ⟨f, a, b⟩ := amp_ok hg g0 g1 k
    unfold octA
    have m0 := Rat.mul_nonneg a g0
    have m1 := Rat.mul_le_mul_of_nonneg_left g1 a
    have hr := (mulF_spec f hg).2
    have hb := hr.bound const_1.1 const_1.2.2 (by rw [const_1.2.1]; grind) (by rw [const_1.2.1]; grind)
    rw [const_1.2.1] at hb
    exact ⟨hb.1, hr.nonneg hb.1 m0, hb.2.1⟩
theorem unit24 : 0 < P2 (-24) ∧ P2 (-23) = 2 * P2 (-24) ∧ P2 (-20) = 16 * P2 (-24) ∧ P2 (-19) = 32 * P2 (-24) ∧ 16777216 * P2 (-24) = 1 := by
  have q1 : P2 (-23) = 2 * P2 (-24) := P2_double (-23)
  have q2 : P2 (-22) = 2 * P2 (-23) := P2_double (-22)
  have q3 : P2 (-21) = 2 * P2 (-22) := P2_double (-21)
  have q4 : P2 (-20) = 2 * P2 (-21) := P2_double (-20)
  have q5 : P2 (-19) = 2 * P2 (-20) := P2_double (-19)
  refine ⟨P2_pos _, q1, by grind, by grind, ?_⟩
  have := P2_add 24 (-24)
  rw [show P2 24 = ((2 ^ 24 : Nat) : Rat) from P2_nat 24] at this
  rw [show (24 : Int) + -24 = 0 from rfl, P2_zero] at this
  rw [this]; rfl
/-- what an octave's noise may be -/
def Noisy (b n : Nat) : Prop := single.fin n ∧ -(single.V b + P2 (-19)) ≤ single.V n ∧ single.V n ≤ single.V b + P2 (-19)
theorem oct_step {g b n s r k : Nat} (hk : k < 10) (fg : single.fin (octA g k)) (a0 : 0 ≤ single.V (octA g k)) (a1 : single.V (octA g k) ≤ 1) (hb : single.fin b) (b1 : 1 ≤ single.V b) (b3 : single.V b ≤ 3) (hn : Noisy b n)
    (fs : single.fin s) (fr : single.fin r) (r0 : 0 ≤ single.V r) (r1 : single.V r ≤ (k : Rat) * 3 + (k : Rat) * P2 (-20)) (hs1 : single.V s ≤ single.V r + (k : Rat) * (68 * P2 (-24))) (hs2 : -single.V s ≤ single.V r + (k : Rat) * (68 * P2 (-24))) :
    single.fin (mulF (octA g k) n) ∧ single.fin (mulF (octA g k) b) ∧ single.fin (addF s (mulF (octA g k) n)) ∧ single.fin (addF r (mulF (octA g k) b)) ∧ 0 ≤ single.V (addF r (mulF (octA g k) b)) ∧ 0 ≤ single.V (mulF (octA g k) b) ∧
    single.V r + single.V (mulF (octA g k) b) ≤ single.V (addF r (mulF (octA g k) b)) + P2 (-20) ∧ single.V (octA g k) * single.V b ≤ single.V (mulF (octA g k) b) + P2 (-23) ∧
    single.V (addF r (mulF (octA g k) b)) ≤ ((k + 1 : Nat) : Rat) * 3 + ((k + 1 : Nat) : Rat) * P2 (-20) ∧
    single.V (addF s (mulF (octA g k) n)) ≤ single.V (addF r (mulF (octA g k) b)) + ((k + 1 : Nat) : Rat) * (68 * P2 (-24)) ∧
    -single.V (addF s (mulF (octA g k) n)) ≤ single.V (addF r (mulF (octA g k) b)) + ((k + 1 : Nat) : Rat) * (68 * P2 (-24)) := by
  obtain ⟨u0, u1, u2, u3, u4⟩ := unit24
  obtain ⟨fn, n1, n2⟩ := hn
  have k0 : (0 : Rat) ≤ (k : Rat) := Rat.natCast_nonneg
  have k9 : (k : Rat) ≤ 9 := by exact_mod_cast (show k ≤ 9 by omega)
  have kc : ((k + 1 : Nat) : Rat) = (k : Rat) + 1 := by push_cast; rfl
  rw [kc]
  generalize hA : single.V (octA g k) = A at *
  have d0 : 0 ≤ P2 (-19) := by grind
  have m1 := Rat.mul_le_mul_of_nonneg_left n2 a0
  have m2 := Rat.mul_le_mul_of_nonneg_left n1 a0
  have m3 := Rat.mul_le_mul_of_nonneg_right a1 d0
  have m4 := Rat.mul_le_mul_of_nonneg_right a1 (show 0 ≤ single.V b by grind)
  have m5 := Rat.mul_nonneg a0 (show 0 ≤ single.V b by grind)
  have pn := (mulF_spec fg fn).2
  have pb := (mulF_spec fg hb).2
  rw [hA] at pn pb
  obtain ⟨fp, p1, p2, _, _⟩ := near_4 _ _ _ pn (by grind) (by grind)
  obtain ⟨fq, q1, q2, q3, q4⟩ := near_4 _ _ _ pb (by grind) (by grind)
  have q0 := pb.nonneg fq m5
  have q5 : single.V (mulF (octA g k) b) ≤ 3 := by
    have := pb.bound const_3.1 const_3.2.2 (by rw [const_3.2.1]; grind) (by rw [const_3.2.1]; grind)
    rw [const_3.2.1] at this
    exact this.2.1
  have j1 := Rat.mul_le_mul_of_nonneg_right k9 (Rat.le_of_lt u0)
  have ps := (addF_spec fs fp).2
  have pr := (addF_spec fr fq).2
  have e20 : ((k : Rat) + 1) * P2 (-20) = (k : Rat) * P2 (-20) + P2 (-20) := by rw [Rat.add_mul, Rat.one_mul]
  have e68 : ((k : Rat) + 1) * (68 * P2 (-24)) = (k : Rat) * (68 * P2 (-24)) + 68 * P2 (-24) := by rw [Rat.add_mul, Rat.one_mul]
  have l20 : (k : Rat) * P2 (-20) = 16 * ((k : Rat) * P2 (-24)) := by rw [u2]; grind
  have l68 : (k : Rat) * (68 * P2 (-24)) = 68 * ((k : Rat) * P2 (-24)) := by grind
  rw [Rat.mul_add] at m1
  rw [Rat.mul_neg, Rat.mul_add] at m2
  rw [Rat.one_mul] at m3 m4
  rw [e20, e68]
  clear e20 e68
  rw [l68] at hs1 hs2 ⊢
  rw [l20] at r1 ⊢
  clear l20 l68 n1 n2
  generalize (k : Rat) * P2 (-24) = ku at *
  obtain ⟨fS, s1, s2, _, _⟩ := near_32 _ _ _ ps (by clear ps pr pb pn; generalize A * P2 (-19) = w1 at *; generalize A * single.V b = w2 at *; generalize A * single.V n = w3 at *; grind) (by clear ps pr pb pn; generalize A * P2 (-19) = w1 at *; generalize A * single.V b = w2 at *; generalize A * single.V n = w3 at *; grind)
  obtain ⟨fR, t1, t2, _, _⟩ := near_32 _ _ _ pr (by clear ps pr pb pn; grind) (by clear ps pr pb pn; grind)
  have hr0 := pr.nonneg fR (by clear ps pr pb pn; grind)
  clear ps pr pb pn
  generalize A * P2 (-19) = w1 at *
  generalize A * single.V b = w2 at *
  generalize A * single.V n = w3 at *
  refine ⟨fp, fq, fS, fR, hr0, q0, t2, q2, ?_, ?_, ?_⟩
  · grind
  · grind
  · grind
theorem oct_all {g b : Nat} (n : Nat → Nat) (hg : single.fin g) (g0 : 0 ≤ single.V g) (g1 : single.V g ≤ 1) (hb : single.fin b) (b1 : 1 ≤ single.V b) (b3 : single.V b ≤ 3) : ∀ k, k ≤ 10 → (∀ j, j < k → Noisy b (n j)) →
    single.fin (octS g n k) ∧ single.fin (octS g (fun _ => b) k) ∧ 0 ≤ single.V (octS g (fun _ => b) k) ∧ single.V (octS g (fun _ => b) k) ≤ (k : Rat) * 3 + (k : Rat) * P2 (-20) ∧ (1 ≤ k → 1 ≤ single.V (octS g (fun _ => b) k) + ((k : Rat) + 1) * P2 (-20)) ∧
    single.V (octS g n k) ≤ single.V (octS g (fun _ => b) k) + (k : Rat) * (68 * P2 (-24)) ∧ -single.V (octS g n k) ≤ single.V (octS g (fun _ => b) k) + (k : Rat) * (68 * P2 (-24))
  | 0, _, _ => by
    unfold octS
    rw [const_0.2.1]
    refine ⟨const_0.1, const_0.1, by decide, by simp; grind, fun h => absurd h (by omega), by simp; grind, by simp; grind⟩
  | k + 1, hk, hn => by
    obtain ⟨a1, a2, a3, a4, a5, a6, a7⟩ := oct_all n hg g0 g1 hb b1 b3 k (by omega) (fun j hj => hn j (by omega))
    obtain ⟨f, p, q⟩ := amp_ok hg g0 g1 k
    obtain ⟨_, _, c3, c4, c5, c6, c7, c8, c9, c10, c11⟩ := oct_step (by omega) f p q hb b1 b3 (hn k (by omega)) a1 a2 a3 a4 a6 a7
    obtain ⟨u0, u1, u2, u3, u4⟩ := unit24
    unfold octS
    refine ⟨c3, c4, c5, c9, fun _ => ?_, c10, c11⟩
    have kc : ((k + 1 : Nat) : Rat) = (k : Rat) + 1 := by push_cast; rfl
    rw [kc]
    rcases Nat.eq_zero_or_pos k with rfl | h0
    · have e : single.V (octA g 0) = 1 := const_1.2.1
      rw [e] at c8
      have : ((0 : Nat) : Rat) = 0 := rfl
      grind
    · have := a5 h0
      grind
theorem const_reach : single.fin 1065354055 ∧ single.V 1065354055 = 1 + 1678 * P2 (-24) ∧ single.sgn 1065354055 = false := by
  have := V_const false 126 8389447 (.inr (by decide)) (by decide) (by decide)
  rw [show single.word false (126 * 8388608 + 8389447) = 1065354055 from by decide] at this
  refine ⟨this.1, ?_, this.2.2⟩
  obtain ⟨u0, u1, u2, u3, u4⟩ := unit24
  rw [this.2.1, show ((126 : Nat) : Int) - 149 = -23 from rfl]
  have e : ((8389447 : Nat) : Rat) = 8389447 := rfl
  rw [e]
  simp [sg]
  grind
/-- what the octaves add up to lies within the reach -/
theorem reach_ok {g b k : Nat} (n : Nat → Nat) (hg : single.fin g) (g0 : 0 ≤ single.V g) (g1 : single.V g ≤ 1) (hb : single.fin b) (b1 : 1 ≤ single.V b) (b3 : single.V b ≤ 3) (k1 : 1 ≤ k) (hk : k ≤ 10) (hn : ∀ j, j < k → Noisy b (n j)) :
    single.fin (octS g (fun _ => b) k) ∧ single.fin (reachF g b k) ∧ single.V (octS g n k) ≤ single.V (reachF g b k) ∧ -single.V (octS g n k) ≤ single.V (reachF g b k) ∧ single.V (reachF g b k) ≤ 32 ∧ 0 ≤ single.V (reachF g b k) := by
  obtain ⟨a1, a2, a3, a4, a5, a6, a7⟩ := oct_all n hg g0 g1 hb b1 b3 k hk hn
  have a5 := a5 k1
  obtain ⟨u0, u1, u2, u3, u4⟩ := unit24
  have k0 : (0 : Rat) ≤ (k : Rat) := Rat.natCast_nonneg
  have k9 : (k : Rat) ≤ 10 := by exact_mod_cast hk
  have j1 := Rat.mul_le_mul_of_nonneg_right k9 (Rat.le_of_lt u0)
  have hr := (mulF_spec a2 const_reach.1).2
  unfold reachF
  rw [const_reach.2.1] at hr
  generalize single.V (octS g (fun _ => b) k) = R at *
  generalize single.V (octS g n k) = S at *
  have e20 : ((k : Rat) + 1) * P2 (-20) = 16 * ((k : Rat) * P2 (-24)) + 16 * P2 (-24) := by rw [Rat.add_mul, Rat.one_mul, u2]; grind
  have f20 : (k : Rat) * P2 (-20) = 16 * ((k : Rat) * P2 (-24)) := by rw [u2]; grind
  have l68 : (k : Rat) * (68 * P2 (-24)) = 68 * ((k : Rat) * P2 (-24)) := by grind
  rw [e20] at a5
  rw [f20] at a4
  rw [l68] at a6 a7
  clear e20 f20 l68
  generalize (k : Rat) * P2 (-24) = ku at *
  have j2 : (1 : Rat) / 2 ≤ R := by clear hr; grind
  have j4 : R ≤ 31 := by clear hr; grind
  have j3 := Rat.mul_le_mul_of_nonneg_right j2 (Rat.le_of_lt u0)
  have j5 := Rat.mul_le_mul_of_nonneg_right j4 (Rat.le_of_lt u0)
  have e1 : R * (1 + 1678 * P2 (-24)) = R + 1678 * (R * P2 (-24)) := by grind
  rw [e1] at hr
  generalize R * P2 (-24) = Ru at *
  obtain ⟨f, r1, r2, r3, r4⟩ := near_32 _ _ _ hr (by clear hr; grind) (by clear hr; grind)
  have r0 := hr.nonneg f (by clear hr; grind)
  clear hr
  exact ⟨a2, f, by grind, by grind, r3, r0⟩
end Format
end Ieee
