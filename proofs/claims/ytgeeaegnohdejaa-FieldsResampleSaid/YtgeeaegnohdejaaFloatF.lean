import Derived.Test.YtgeeaegnohdejaaFloatE
namespace Ieee
namespace Format
open Go

theorem Near.lt_of {f : Format} {v : Rat} {r c : Nat} (h : f.Near v r) (hv : 2 * v < f.rv c + f.rv (c + 1)) : r ≤ c := by
  by_cases hr : r ≤ c
  · exact hr
  · exfalso
    have d := h.down (by omega)
    have m1 := f.rv_mono (show c ≤ r - 1 by omega)
    have m2 := f.rv_mono (show c + 1 ≤ r by omega)
    grind

theorem V_pos_word {c : Nat} (hc : single.sgn c = false) : single.V c = single.rv (single.rung c) := by
  unfold V; rw [hc]; simp [sg]

/-- what is no greater than a constant stays so -/
theorem Rounds.bound {x : Rat} {s : Bool} {w c : Nat} (h : single.Rounds x s w) (fc : single.fin c) (hc : single.sgn c = false) (h1 : x ≤ single.V c) (h2 : -single.V c ≤ x) :
    single.fin w ∧ single.V w ≤ single.V c ∧ -single.V c ≤ single.V w ∧ single.rung w ≤ single.rung c ∧ single.sgn w = s := by
  obtain ⟨r, rfl, hr⟩ := h
  rw [V_pos_word hc] at *
  have hb : sg s * x ≤ single.rv (single.rung c) := by cases s <;> simp [sg] <;> grind
  have hle := hr.le_of hb
  have fc' : single.rung c < single.infRung := fc
  have lt : r < single.infRung := by omega
  have e : single.rung (single.word s (min r single.infRung)) = r := by
    rw [single.rung_word s (single.min_lt_sw r), Nat.min_eq_left (by omega)]
  refine ⟨(single.fin_word_iff s r).2 lt, ?_, ?_, by rw [e]; exact hle, single.sgn_word s (single.min_lt_sw r)⟩ <;> rw [single.V_word lt] <;>
    have m := single.rv_mono hle <;> have p := single.rv_nonneg r <;> cases s <;> simp [sg] <;> grind

/-- the sign is kept -/
theorem Rounds.nonneg {x : Rat} {s : Bool} {w : Nat} (h : single.Rounds x s w) (fw : single.fin w) (h0 : 0 ≤ x) : 0 ≤ single.V w := by
  obtain ⟨r, rfl, hr⟩ := h
  have lt := (single.fin_word_iff s r).1 fw
  rw [single.V_word lt]
  have p := single.rv_nonneg r
  cases s
  · simp [sg]; grind
  · have h1 := hr.2.2
    simp [sg] at h1
    have x0 : x = 0 := by grind
    subst x0
    have hz : single.Near (single.rv 0) r := by rw [single.rv_zero]; simpa [sg] using hr
    have := hz.eq_of
    subst this
    rw [single.rv_zero]; simp [sg]

theorem Rounds.ge_const {x : Rat} {s : Bool} {w c : Nat} (h : single.Rounds x s w) (fw : single.fin w) (hc : single.sgn c = false) (h0 : 0 < single.V c) (h1 : single.V c ≤ x) : single.V c ≤ single.V w := by
  obtain ⟨r, rfl, hr⟩ := h
  have lt := (single.fin_word_iff s r).1 fw
  rw [single.V_word lt]
  have hs : s = false := by
    cases s
    · rfl
    · have := hr.2.2; simp [sg] at this; grind
  subst hs
  rw [V_pos_word hc] at *
  have := hr.ge_of (b := single.rung c) (by simp [sg]; grind)
  have := single.rv_mono this
  simp [sg]; grind

theorem const_3 : single.fin 1077936128 ∧ single.V 1077936128 = 3 ∧ single.sgn 1077936128 = false := by
  have := V_const false 127 12582912 (.inr (by decide)) (by decide) (by decide)
  rw [show single.word false (127 * 8388608 + 12582912) = 1077936128 from by decide] at this
  refine ⟨this.1, ?_, this.2.2⟩
  rw [this.2.1, show ((127 : Nat) : Int) - 149 = -22 from rfl]
  have : P2 22 * P2 (-22) = 1 := by rw [← P2_add]; exact P2_zero
  rw [show P2 22 = ((2 ^ 22 : Nat) : Rat) from P2_nat 22] at this
  simp only [sg]; grind
theorem const_half : single.fin 1056964608 ∧ single.V 1056964608 = 1 / 2 ∧ single.sgn 1056964608 = false := by
  have := V_const false 125 8388608 (.inr (by decide)) (by decide) (by decide)
  rw [show single.word false (125 * 8388608 + 8388608) = 1056964608 from by decide] at this
  refine ⟨this.1, ?_, this.2.2⟩
  rw [this.2.1, show ((125 : Nat) : Int) - 149 = -24 from rfl]
  have : P2 24 * P2 (-24) = 1 := by rw [← P2_add]; exact P2_zero
  rw [show P2 24 = ((2 ^ 24 : Nat) : Rat) from P2_nat 24] at this
  simp only [sg]; grind
theorem const_quarter : single.fin 1048576000 ∧ single.V 1048576000 = 1 / 4 ∧ single.sgn 1048576000 = false := by
  have := V_const false 124 8388608 (.inr (by decide)) (by decide) (by decide)
  rw [show single.word false (124 * 8388608 + 8388608) = 1048576000 from by decide] at this
  refine ⟨this.1, ?_, this.2.2⟩
  rw [this.2.1, show ((124 : Nat) : Int) - 149 = -25 from rfl]
  have : P2 25 * P2 (-25) = 1 := by rw [← P2_add]; exact P2_zero
  rw [show P2 25 = ((2 ^ 25 : Nat) : Rat) from P2_nat 25] at this
  simp only [sg]; grind

/-! ### Ease -/
def ease1 (t : Nat) : Nat := mulF t t
def ease2 (t : Nat) : Nat := mulF 1073741824 t
def ease3 (t : Nat) : Nat := subF 1077936128 (ease2 t)
def easeF (t : Nat) : Nat := mulF (ease1 t) (ease3 t)

theorem sq_le {T : Rat} (h0 : 0 ≤ T) {c : Rat} (h : T ≤ c) : T * T ≤ c * c := by
  have a := Rat.mul_le_mul_of_nonneg_left h h0
  have b := Rat.mul_le_mul_of_nonneg_right h (show 0 ≤ c by grind)
  grind

theorem ease_ok {t : Nat} (ft : single.fin t) (h0 : 0 ≤ single.V t) (h1 : single.V t ≤ 1) :
    single.fin (ease1 t) ∧ single.fin (ease2 t) ∧ single.fin (ease3 t) ∧ single.fin (easeF t) ∧ 0 ≤ single.V (easeF t) ∧ single.V (easeF t) ≤ 1 := by
  obtain ⟨f1, v1, s1⟩ := const_1
  obtain ⟨f2, v2, s2⟩ := const_2
  obtain ⟨f3, v3, s3⟩ := const_3
  obtain ⟨fq, vq, sq⟩ := const_quarter
  have ra := (mulF_spec ft ft).2
  have rb := (mulF_spec f2 ft).2
  have T2 : 0 ≤ single.V t * single.V t := Rat.mul_nonneg h0 h0
  have T2' : single.V t * single.V t ≤ 1 := by have := sq_le h0 h1; grind
  obtain ⟨fa, a1, a2, _, _⟩ := ra.bound f1 s1 (by rw [v1]; exact T2') (by rw [v1]; grind)
  have a0 := ra.nonneg fa T2
  obtain ⟨fb, b1, b2, _, _⟩ := rb.bound f2 s2 (by rw [v2]; grind) (by rw [v2]; grind)
  have b0 := rb.nonneg fb (by rw [v2]; grind)
  have rc := (subF_spec f3 fb).2
  obtain ⟨fc, c1, c2, _, _⟩ := rc.bound f3 s3 (by rw [v3]; grind) (by rw [v3]; rw [v2] at b1; grind)
  have c0 := rc.nonneg fc (by rw [v3]; rw [v2] at b1; grind)
  have rd := (mulF_spec fa fc).2
  rw [v1] at a1; rw [v2] at b1; rw [v3] at c1
  refine ⟨fa, fb, fc, ?_⟩
  -- the product is less than halfway above 1
  have key : single.V (ease1 t) * single.V (ease3 t) ≤ 1 ∨ 2 * (single.V (ease1 t) * single.V (ease3 t)) < 2 + P2 (-23) := by
    by_cases hh : single.V t ≤ 1 / 2
    · left
      obtain ⟨_, q1, _, _, _⟩ := ra.bound fq sq (by rw [vq]; have := sq_le h0 hh; grind) (by rw [vq]; grind)
      rw [vq] at q1
      have m1 := Rat.mul_le_mul_of_nonneg_right q1 c0
      unfold ease1 ease3 ease2
      grind
    · by_cases ht1 : single.V t = 1
      · left
        have e2 : single.V (ease3 t) ≤ 1 := by
          have e0 : single.V (mulF 1073741824 t) = 2 := by
            obtain ⟨_, q, _⟩ := rb.exact 1 1 (by decide) (by decide) (by decide) (by decide) (by rw [v2, ht1, P2_one]; simp)
            rw [q, v2, ht1]; grind
          obtain ⟨_, q, _⟩ := rc.exact 1 0 (by decide) (by decide) (by decide) (by decide) (by rw [v3, e0, P2_zero]; simp; grind)
          unfold ease3 ease2
          rw [q, v3, e0]; grind
        have m := Rat.mul_le_mul_of_nonneg_right a1 c0
        unfold ease1
        unfold ease3 ease2 at e2 ⊢
        grind
      · right
        -- t is n / 2^24
        obtain ⟨hf, hv, hs⟩ := const_half
        have st : single.sgn t = false := by
          cases hc : single.sgn t
          · rfl
          · unfold V at hh; rw [hc] at hh
            have := single.rv_nonneg (single.rung t)
            simp [sg] at hh; grind
        have vt := V_pos_word st
        have lo : single.rung 1056964608 ≤ single.rung t := by
          by_cases l : single.rung 1056964608 ≤ single.rung t
          · exact l
          · have m := single.rv_lt (show single.rung t < single.rung 1056964608 by omega)
            rw [← V_pos_word hs, hv] at m
            grind
        have hi : single.rung t < single.rung 1065353216 := by
          refine single.rv_lt_iff.1 ?_
          rw [← V_pos_word s1, v1, ← vt]; grind
        rw [show single.rung 1056964608 = 1056964608 from by decide] at lo
        rw [show single.rung 1065353216 = 1065353216 from by decide] at hi
        obtain ⟨k, hk⟩ : ∃ k, single.rung t = 125 * 8388608 + k := ⟨single.rung t - 125 * 8388608, by omega⟩
        have tv := single.rv_at 125 k (by rw [single_binade]; right; omega) (by rw [single_binade]; omega)
        rw [single_binade, ← hk, ← vt, single_least, show (-149 : Int) + ((125 : Nat) : Int) = -24 from rfl] at tv
        have hkl : 8388608 ≤ k := by omega
        have hku : k < 16777216 := by omega
        have e23 := P2_succ (-24)
        rw [show (-24 + 1 : Int) = -23 from by decide] at e23
        have one : (1 : Rat) = ((2 ^ 24 : Nat) : Rat) * P2 (-24) := by
          rw [← P2_nat 24, ← P2_add]; exact P2_zero.symm
        -- 2 t and 3 - 2 t are exact
        obtain ⟨_, qb, _⟩ := rb.exact k (-23) (by omega) (by omega) (by decide) (by decide) (by rw [v2, tv, e23, Rat.intCast_natCast]; grind)
        have eb : single.V 1073741824 * single.V t = 2 * single.V t := by rw [v2]
        rw [eb] at qb
        have k8 : 8388608 < k ∨ k = 8388608 := by omega
        have hhk : k ≠ 8388608 := by
          intro c
          apply hh
          rw [tv, c]
          have : ((8388608 : Nat) : Rat) * 2 = ((2 ^ 24 : Nat) : Rat) := by
            have : ((8388608 * 2 : Nat) : Rat) = ((2 ^ 24 : Nat) : Rat) := by rw [show 8388608 * 2 = 2 ^ 24 from rfl]
            rw [← this, Rat.natCast_mul]; rfl
          grind
        obtain ⟨_, qc, _⟩ := rc.exact (25165824 - k) (-23) (by omega) (by omega) (by decide) (by decide) (by
          rw [v3, qb, tv, e23, Rat.intCast_sub, Rat.intCast_natCast]
          have : ((25165824 : Int) : Rat) = 3 * ((2 ^ 23 : Nat) : Rat) := by
            have : ((3 * 2 ^ 23 : Nat) : Rat) = 3 * ((2 ^ 23 : Nat) : Rat) := by rw [Rat.natCast_mul]; rfl
            rw [← this]; rfl
          rw [this]
          have o2 : (1 : Rat) = ((2 ^ 23 : Nat) : Rat) * P2 (-23) := by rw [← P2_nat 23, ← P2_add]; exact P2_zero.symm
          rw [e23] at o2
          grind)
        rw [v3, qb] at qc
        -- the square
        have tle : single.V t ≤ single.rv 1065353215 := by rw [vt]; exact single.rv_mono (by omega)
        have tt : single.V t * single.V t ≤ single.rv 1065353215 := by
          have := Rat.mul_le_mul_of_nonneg_left h1 h0
          grind
        obtain ⟨r, hr, hn⟩ := ra
        have hsx : (single.sgn t ^^ single.sgn t) = false := by rw [st]; rfl
        rw [hsx] at hr hn
        have hn' : single.Near (single.V t * single.V t) r := by simpa [sg] using hn
        have rle := hn'.le_of tt
        have off := hn'.off.2
        have rp := single.rplace_mono rle
        rw [show single.rplace 1065353215 = -24 from by decide] at rp
        have pm := P2_mono rp
        have rinf : r < single.infRung := by rw [single_inf]; omega
        have va : single.V (ease1 t) = single.rv r := by
          unfold ease1; rw [hr, single.V_word rinf]; simp [sg]
        have A : 2 * single.V (ease1 t) ≤ 2 * (single.V t * single.V t) + P2 (-24) := by rw [va]; grind
        have hc : single.V (ease3 t) = 3 - 2 * single.V t := qc
        rw [hc, e23]
        have cpos : 0 ≤ 3 - 2 * single.V t := by grind
        have B := Rat.mul_le_mul_of_nonneg_right A cpos
        have p24 := P2_pos (-24)
        have D0 : 0 < 1 - single.V t := by grind
        have D1 : 1 - single.V t < 1 / 2 := by grind
        have DD := Rat.mul_pos D0 D0
        have DDD := Rat.mul_lt_mul_of_pos_left D1 DD
        have hp : P2 (-24) * (3 - 2 * single.V t) ≤ P2 (-24) * 2 := Rat.mul_le_mul_of_nonneg_left (by grind) (Rat.le_of_lt p24)
        generalize single.V t = T at *
        have ex : (2 * (T * T) + P2 (-24)) * (3 - 2 * T) = 2 - 6 * ((1 - T) * (1 - T)) + 4 * ((1 - T) * (1 - T) * (1 - T)) + P2 (-24) * (3 - 2 * T) := by grind
        rw [ex] at B
        grind
  have prod0 : 0 ≤ single.V (ease1 t) * single.V (ease3 t) := Rat.mul_nonneg a0 c0
  obtain ⟨r, hr, hn⟩ := rd
  have hn0 := hn
  have hcase : r ≤ 1065353216 := by
    have hnn : 2 * (sg (single.sgn (mulF t t) ^^ single.sgn (subF 1077936128 (mulF 1073741824 t))) * (single.V (mulF t t) * single.V (subF 1077936128 (mulF 1073741824 t)))) < single.rv 1065353216 + single.rv (1065353216 + 1) := by
      have e1 : single.rv 1065353216 = 1 := by
        have := V_pos_word s1
        rw [v1, show single.rung 1065353216 = 1065353216 from by decide] at this
        exact this.symm
      rw [single.rv_succ 1065353216, e1, show single.rplace 1065353216 = -23 from by decide]
      have p23 := P2_pos (-23)
      have hz := hn.2.2
      unfold ease1 ease3 ease2 at key prod0
      generalize single.V (mulF t t) * single.V (subF 1077936128 (mulF 1073741824 t)) = x at *
      rcases Bool.eq_false_or_eq_true (single.sgn (mulF t t) ^^ single.sgn (subF 1077936128 (mulF 1073741824 t))) with hs | hs <;> rw [hs] <;> simp [sg] <;> rcases key with key | key <;> grind
    exact hn.lt_of hnn
  have rinf : r < single.infRung := by rw [single_inf]; omega
  have fd : single.fin (easeF t) := by
    unfold easeF ease1 ease3 ease2; rw [hr]; exact (single.fin_word_iff _ r).2 rinf
  refine ⟨fd, ?_, ?_⟩
  · exact (mulF_spec fa fc).2.nonneg fd prod0
  · unfold easeF ease1 ease3 ease2
    rw [hr, single.V_word rinf]
    have m := single.rv_mono hcase
    have e1 : single.rv 1065353216 = 1 := by
      have := V_pos_word s1
      rw [v1, show single.rung 1065353216 = 1065353216 from by decide] at this
      exact this.symm
    have p := single.rv_nonneg r
    rcases Bool.eq_false_or_eq_true (single.sgn (mulF t t) ^^ single.sgn (subF 1077936128 (mulF 1073741824 t))) with hs | hs <;> rw [hs] <;> simp [sg] <;> grind

end Format
end Ieee
