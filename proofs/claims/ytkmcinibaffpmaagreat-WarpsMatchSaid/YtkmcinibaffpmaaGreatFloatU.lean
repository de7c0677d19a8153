import Derived.Test.YtkmcinibaffpmaaGreatFloatR
import Derived.Test.YtkmcinibaffpmaaGreatKah
namespace Ieee
namespace Format
open Go

/-! ### how far a rounded sum lies from the sum -/
def uR : Rat := 17 * P2 (-28)
theorem uR_facts : 0 ≤ uR ∧ uR ≤ 1 / 1048576 ∧ uR * 268435456 = 17 ∧ 16 * uR = 17 * P2 (-24) ∧ P2 (-24) ≤ 1 / 1048576 ∧ 0 ≤ P2 (-24) := by
  have a := P2_add 28 (-28)
  rw [show P2 28 = ((2 ^ 28 : Nat) : Rat) from P2_nat 28, show (28 : Int) + -28 = 0 from rfl, P2_zero] at a
  have b := P2_add 4 (-28)
  rw [show P2 4 = ((2 ^ 4 : Nat) : Rat) from P2_nat 4, show (4 : Int) + -28 = -24 from rfl] at b
  have p := P2_pos (-28)
  have e1 : ((2 ^ 28 : Nat) : Rat) = 268435456 := rfl
  have e2 : ((2 ^ 4 : Nat) : Rat) = 16 := rfl
  rw [e1] at a
  rw [e2] at b
  unfold uR
  refine ⟨by grind, by grind, by grind, by grind, by grind, by grind⟩
theorem mult_V (x : Nat) : Mult (single.V x) (-149) := by
  have hs := sing_V (x := x)
  obtain ⟨p, hp, h, _, _⟩ := hs.mult
  exact h.le hp
theorem Rounds.rel {x : Rat} {s : Bool} {w : Nat} (h : single.Rounds x s w) (fw : single.fin w) (hm : Mult x (-149)) (m : Rat) (h1 : -m ≤ x) (h2 : x ≤ m) :
    -(uR * m) ≤ single.V w - x ∧ single.V w - x ≤ uR * m := by
  obtain ⟨r, rfl, hn⟩ := h
  have hlt : r < single.infRung := (single.fin_word_iff s r).1 fw
  rw [single.V_word hlt]
  have hy : Mult (sg s * x) (-149) := by
    cases s
    · simpa [sg] using hm
    · have e : sg true * x = -x := by simp [sg]; grind
      rw [e]
      exact hm.neg
  have hx : x = sg s * (sg s * x) := by rw [← Rat.mul_assoc, sg_sq, Rat.one_mul]
  have hb : sg s * x ≤ m := by cases s <;> simp [sg] <;> grind
  have h0 := hn.2.2
  obtain ⟨u0, u1, u2, _, _, _⟩ := uR_facts
  generalize hv : sg s * x = y at *
  have key : -(uR * y) ≤ single.rv r - y ∧ single.rv r - y ≤ uR * y := by
    rcases Nat.lt_or_ge r (2 * single.binade) with hr | hr
    · obtain ⟨n, hnn⟩ := hy
      have p := P2_pos (-149)
      have e0 : single.rv r = (r : Rat) * P2 (-149) := by
        have := single.rv_at 0 r (.inl rfl) (Nat.le_of_lt hr)
        rw [Nat.zero_mul, Nat.zero_add, single_least] at this
        simpa using this
      have e1 : single.rv (r + 1) = ((r + 1 : Nat) : Rat) * P2 (-149) := by
        have := single.rv_at 0 (r + 1) (.inl rfl) hr
        rw [Nat.zero_mul, Nat.zero_add, single_least] at this
        simpa using this
      have a := hn.up
      rw [e0, e1, hnn] at a
      have a' : ((2 * n : Int) : Rat) ≤ ((2 * (r : Int) + 1 : Int) : Rat) := by
        refine mul_le_cancel p ?_
        push_cast at a ⊢
        grind
      have a'' : 2 * n ≤ 2 * (r : Int) + 1 := Rat.intCast_le_intCast.1 a'
      have hn0 : (0 : Int) ≤ n := by
        rw [hnn] at h0
        have : ((0 : Int) : Rat) ≤ (n : Rat) := by
          refine mul_le_cancel p ?_
          simpa using h0
        exact Rat.intCast_le_intCast.1 this
      have hnr : n = (r : Int) := by
        rcases Nat.eq_zero_or_pos r with hz | hz
        · subst hz; omega
        · have b := hn.down (by omega)
          have e2 : single.rv (r - 1) = ((r - 1 : Nat) : Rat) * P2 (-149) := by
            have := single.rv_at 0 (r - 1) (.inl rfl) (by omega)
            rw [Nat.zero_mul, Nat.zero_add, single_least] at this
            simpa using this
          rw [e0, e2, hnn] at b
          have b' : ((2 * (r : Int) - 1 : Int) : Rat) ≤ ((2 * n : Int) : Rat) := by
            refine mul_le_cancel p ?_
            have e3 : ((r - 1 : Nat) : Rat) = (r : Rat) - 1 := by
              have : ((r - 1 + 1 : Nat) : Rat) = ((r - 1 : Nat) : Rat) + 1 := by push_cast; rfl
              rw [show r - 1 + 1 = r from by omega] at this
              grind
            rw [e3] at b
            push_cast at b ⊢
            grind
          have b'' : 2 * (r : Int) - 1 ≤ 2 * n := Rat.intCast_le_intCast.1 b'
          omega
      have e : single.rv r = y := by
        rw [e0, hnn, hnr, Rat.intCast_natCast]
      have := Rat.mul_nonneg u0 h0
      rw [e]
      constructor <;> grind
    · obtain ⟨a, b⟩ := hn.off
      have hmag : single.binade ≤ single.rmag r := by
        unfold rmag
        rw [if_neg (by have := single.binade_pos; omega)]
        omega
      have hbin : single.binade = 8388608 := single_binade
      have p := P2_pos (single.rplace r)
      have c : (8388608 : Rat) * P2 (single.rplace r) ≤ single.rv r := by
        unfold rv
        refine Rat.mul_le_mul_of_nonneg_right ?_ (Rat.le_of_lt p)
        have : ((8388608 : Nat) : Rat) ≤ ((single.rmag r : Nat) : Rat) := by exact_mod_cast (by omega : 8388608 ≤ single.rmag r)
        exact this
      generalize P2 (single.rplace r) = P at *
      generalize single.rv r = R at *
      have d : P ≤ 2 * (uR * y) := by
        have : (16777215 : Rat) * P ≤ 2 * y := by grind
        have := Rat.mul_le_mul_of_nonneg_left this u0
        have e : uR * 268435456 * P = 17 * P := by rw [u2]
        grind
      constructor <;> grind
  have hm' := Rat.mul_le_mul_of_nonneg_left hb u0
  rw [hx]
  cases s <;> simp [sg] <;> grind
/-- the error of a sum of singles -/
def addE (x y : Nat) : Rat := single.V (addF x y) - (single.V x + single.V y)
def subE (x y : Nat) : Rat := single.V (subF x y) - (single.V x - single.V y)
theorem addE_le {x y : Nat} (hx : single.fin x) (hy : single.fin y) (hf : single.fin (addF x y)) (m : Rat) (h1 : -m ≤ single.V x + single.V y) (h2 : single.V x + single.V y ≤ m) : -(uR * m) ≤ addE x y ∧ addE x y ≤ uR * m :=
  (addF_spec hx hy).2.rel hf ((mult_V x).add (mult_V y)) m h1 h2
theorem subE_le {x y : Nat} (hx : single.fin x) (hy : single.fin y) (hf : single.fin (subF x y)) (m : Rat) (h1 : -m ≤ single.V x - single.V y) (h2 : single.V x - single.V y ≤ m) : -(uR * m) ≤ subE x y ∧ subE x y ≤ uR * m :=
  (subF_spec hx hy).2.rel hf ((mult_V x).sub (mult_V y)) m h1 h2
end Format
end Ieee
