import Derived.Test.YtgeeaegnohdejaaFloatB
namespace Ieee

def sg (s : Bool) : Rat := if s then -1 else 1
theorem sg_sq (s : Bool) : sg s * sg s = 1 := by cases s <;> simp [sg] <;> grind
theorem sg_xor (s t : Bool) : sg (s ^^ t) = sg s * sg t := by cases s <;> cases t <;> simp [sg] <;> grind
theorem sg_not (s : Bool) : sg (!s) = -sg s := by cases s <;> simp [sg] <;> grind

theorem signed_val (s : Bool) (m up : Nat) (b : Int) : ((signed s m up : Int) : Rat) * P2 b = sg s * ((m : Rat) * P2 (b + up)) := by
  have e : ((m <<< up : Nat) : Rat) = (m : Rat) * P2 up := by
    rw [Nat.shiftLeft_eq, Rat.natCast_mul, P2_nat]
  rw [P2_add]
  unfold signed sg
  cases s
  · simp only [Bool.false_eq_true, if_false]
    rw [Rat.intCast_natCast, e]; grind
  · simp only [if_true]
    rw [Rat.intCast_neg, Rat.intCast_natCast, e]; grind

theorem sum_val (s t : Bool) (m n : Nat) (i j : Int) : ∃ u T b, Datum.sum (.number s m i) (.number t n j) = some (.number u T b) ∧
    sg u * ((T : Rat) * P2 b) = sg s * ((m : Rat) * P2 i) + sg t * ((n : Rat) * P2 j) ∧
    u = (if sg s * ((m : Rat) * P2 i) + sg t * ((n : Rat) * P2 j) = 0 then s && t else decide (sg s * ((m : Rat) * P2 i) + sg t * ((n : Rat) * P2 j) < 0)) := by
  have ei := signed_val s m (i - min i j).toNat (min i j)
  have ej := signed_val t n (j - min i j).toNat (min i j)
  rw [show min i j + ((i - min i j).toNat : Int) = i from by omega] at ei
  rw [show min i j + ((j - min i j).toNat : Int) = j from by omega] at ej
  rw [← ei, ← ej]
  refine ⟨_, _, _, rfl, ?_, ?_⟩ <;> generalize signed s m (i - min i j).toNat = a <;> generalize signed t n (j - min i j).toNat = c <;>
    generalize min i j = b
  · have hp := P2_pos b
    rw [show (a : Rat) * P2 b + (c : Rat) * P2 b = ((a + c : Int) : Rat) * P2 b from by rw [Rat.intCast_add]; grind]
    generalize a + c = z
    by_cases h0 : z = 0
    · subst h0; simp
    · rw [if_neg h0]
      by_cases hn : z < 0
      · have e : ((z.natAbs : Nat) : Rat) = -((z : Int) : Rat) := by
          rw [← Rat.intCast_natCast, show (z.natAbs : Int) = -z from by omega, Rat.intCast_neg]
        simp only [hn, decide_true]
        rw [e]; simp only [sg, if_true]; grind
      · have e : ((z.natAbs : Nat) : Rat) = ((z : Int) : Rat) := by
          rw [← Rat.intCast_natCast, show (z.natAbs : Int) = z from by omega]
        simp only [hn, decide_false]
        rw [e]; simp only [sg]; grind
  · have hp := P2_pos b
    rw [show (a : Rat) * P2 b + (c : Rat) * P2 b = ((a + c : Int) : Rat) * P2 b from by rw [Rat.intCast_add]; grind]
    generalize a + c = z
    have z0 : ((z : Rat) * P2 b = 0) ↔ z = 0 := by
      rw [Rat.mul_eq_zero]
      constructor
      · rintro (h | h)
        · exact Rat.intCast_eq_zero_iff.1 h
        · grind
      · intro h; left; rw [h]; rfl
    have zn : ((z : Rat) * P2 b < 0) ↔ z < 0 := by
      rw [Rat.mul_comm, Rat.mul_neg_iff_of_pos_left hp]
      exact Rat.intCast_neg_iff
    simp only [z0, zn]

namespace Format
variable (f : Format)

def sgn (w : Nat) : Bool := w / f.signWeight % 2 == 1
def rung (w : Nat) : Nat := w % f.signWeight
/-- the word of a number (no infinity, no NaN) -/
def fin (w : Nat) : Prop := f.rung w < f.infRung
instance (w : Nat) : Decidable (f.fin w) := inferInstanceAs (Decidable (_ < _))
/-- the number of a word -/
def V (w : Nat) : Rat := sg (f.sgn w) * f.rv (f.rung w)

theorem signWeight_pos : 0 < f.signWeight := Nat.two_pow_pos _

theorem sgn_word (s : Bool) {r : Nat} (h : r < f.signWeight) : f.sgn (f.word s r) = s := by
  unfold sgn word
  cases s
  · simp only [Bool.false_eq_true, if_false]; rw [Nat.div_eq_of_lt h]; rfl
  · simp only [if_true]
    rw [Nat.add_div_left _ f.signWeight_pos, Nat.div_eq_of_lt h]; rfl

theorem rung_word (s : Bool) {r : Nat} (h : r < f.signWeight) : f.rung (f.word s r) = r := by
  unfold rung word
  cases s
  · simp only [Bool.false_eq_true, if_false]; exact Nat.mod_eq_of_lt h
  · simp only [if_true]; rw [Nat.add_mod_left]; exact Nat.mod_eq_of_lt h

theorem word_eta {w : Nat} (h : w < 2 * f.signWeight) : f.word (f.sgn w) (f.rung w) = w := by
  unfold sgn rung word
  have e := Nat.div_add_mod w f.signWeight
  have hp := f.signWeight_pos
  have l := Nat.mod_lt w hp
  by_cases c : w < f.signWeight
  · rw [Nat.div_eq_of_lt c, Nat.mod_eq_of_lt c]; rfl
  · have d : w / f.signWeight = 1 := by rw [Nat.div_eq_iff hp]; omega
    rw [d] at e ⊢
    simp; omega

theorem infRung_lt' : f.infRung < f.signWeight := f.infRung_lt

theorem read_fin {w : Nat} (h : f.fin w) : f.read w = .number (f.sgn w) (f.rmag (f.rung w)) (f.rplace (f.rung w)) := by
  unfold fin at h
  unfold read rmag rplace
  change (if f.rung w < f.binade then _ else if f.rung w < f.infRung then _ else _) = _
  split
  · rfl
  · rfl

theorem V_read (w : Nat) : f.V w = sg (f.sgn w) * ((f.rmag (f.rung w) : Rat) * P2 (f.rplace (f.rung w))) := rfl

theorem min_lt_sw (r : Nat) : min r f.infRung < f.signWeight := Nat.lt_of_le_of_lt (Nat.min_le_right ..) f.infRung_lt

/-- WHAT 'write' GIVES -/
theorem write_number (hf : 1 ≤ f.fractionBits) (s : Bool) (m : Nat) (p : Int) :
    ∃ r, f.write (.number s m p) = f.word s (min r f.infRung) ∧ f.Near ((m : Rat) * P2 p) r := f.nearest_near hf s m p

theorem fin_word_iff (s : Bool) (r : Nat) : f.fin (f.word s (min r f.infRung)) ↔ r < f.infRung := by
  unfold fin
  rw [f.rung_word s (f.min_lt_sw r)]
  omega

theorem V_word {s : Bool} {r : Nat} (h : r < f.infRung) : f.V (f.word s (min r f.infRung)) = sg s * f.rv r := by
  unfold V
  rw [f.sgn_word s (f.min_lt_sw r), f.rung_word s (f.min_lt_sw r), Nat.min_eq_left (by omega)]

/-- 'w' is the word nearest to 'x', of sign 's' -/
def Rounds (x : Rat) (s : Bool) (w : Nat) : Prop := ∃ r, w = f.word s (min r f.infRung) ∧ f.Near (sg s * x) r

theorem Rounds.unique {f : Format} {x : Rat} {s : Bool} {w w' : Nat} (h : f.Rounds x s w) (h' : f.Rounds x s w') : w = w' := by
  obtain ⟨r, rfl, h⟩ := h; obtain ⟨r', rfl, h'⟩ := h'
  rw [h.unique h']

theorem write_rounds (hf : 1 ≤ f.fractionBits) (s : Bool) (m : Nat) (p : Int) {x : Rat} (hx : sg s * ((m : Rat) * P2 p) = x) : f.Rounds x s (f.write (.number s m p)) := by
  obtain ⟨r, h1, h2⟩ := f.write_number hf s m p
  refine ⟨r, h1, ?_⟩
  rw [← hx, ← Rat.mul_assoc, sg_sq, Rat.one_mul]
  exact h2

/-- the sign of a sum -/
def sumSign (s t : Bool) (x : Rat) : Bool := if x = 0 then s && t else decide (x < 0)

theorem add_rounds (hf : 1 ≤ f.fractionBits) {x y : Nat} (hx : f.fin x) (hy : f.fin y) :
    ∃ w, f.add x y = some w ∧ f.Rounds (f.V x + f.V y) (sumSign (f.sgn x) (f.sgn y) (f.V x + f.V y)) w := by
  obtain ⟨u, T, b, h1, h2, h3⟩ := sum_val (f.sgn x) (f.sgn y) (f.rmag (f.rung x)) (f.rmag (f.rung y)) (f.rplace (f.rung x)) (f.rplace (f.rung y))
  unfold add
  rw [f.read_fin hx, f.read_fin hy, h1]
  refine ⟨_, rfl, ?_⟩
  have : u = sumSign (f.sgn x) (f.sgn y) (f.V x + f.V y) := h3
  rw [← this]
  exact f.write_rounds hf u T b h2

theorem sub_rounds (hf : 1 ≤ f.fractionBits) {x y : Nat} (hx : f.fin x) (hy : f.fin y) :
    ∃ w, f.sub x y = some w ∧ f.Rounds (f.V x - f.V y) (sumSign (f.sgn x) (!f.sgn y) (f.V x - f.V y)) w := by
  obtain ⟨u, T, b, h1, h2, h3⟩ := sum_val (f.sgn x) (!f.sgn y) (f.rmag (f.rung x)) (f.rmag (f.rung y)) (f.rplace (f.rung x)) (f.rplace (f.rung y))
  have e : sg (f.sgn x) * ((f.rmag (f.rung x) : Rat) * P2 (f.rplace (f.rung x))) + sg (!f.sgn y) * ((f.rmag (f.rung y) : Rat) * P2 (f.rplace (f.rung y))) = f.V x - f.V y := by
    rw [sg_not]; unfold V rv; grind
  rw [e] at h2 h3
  unfold sub
  rw [f.read_fin hx, f.read_fin hy]
  change ∃ w, (Datum.sum _ (.number (!f.sgn y) _ _)).map f.write = some w ∧ _
  rw [h1]
  refine ⟨_, rfl, ?_⟩
  have : u = sumSign (f.sgn x) (!f.sgn y) (f.V x - f.V y) := h3
  rw [← this]
  exact f.write_rounds hf u T b h2

theorem mul_rounds (hf : 1 ≤ f.fractionBits) {x y : Nat} (hx : f.fin x) (hy : f.fin y) :
    ∃ w, f.mul x y = some w ∧ f.Rounds (f.V x * f.V y) (f.sgn x ^^ f.sgn y) w := by
  unfold mul
  rw [f.read_fin hx, f.read_fin hy]
  refine ⟨_, rfl, ?_⟩
  refine f.write_rounds hf _ _ _ ?_
  rw [sg_xor, Rat.natCast_mul, P2_add]
  unfold V rv; grind


/-! ### comparing -/
theorem compare_lt_iff (a b : Int) : (compare a b == .lt) = decide (a < b) := by
  rw [Bool.eq_iff_iff]; simp [Int.compare_eq_lt]
theorem order_fin {x y : Nat} (hx : f.fin x) (hy : f.fin y) :
    f.order x y = some (if f.V x < f.V y then .lt else if f.V x = f.V y then .eq else .gt) := by
  unfold order
  rw [f.read_fin hx, f.read_fin hy]
  unfold Datum.order
  dsimp only
  have ei := signed_val (f.sgn x) (f.rmag (f.rung x)) (f.rplace (f.rung x) - min (f.rplace (f.rung x)) (f.rplace (f.rung y))).toNat (min (f.rplace (f.rung x)) (f.rplace (f.rung y)))
  have ej := signed_val (f.sgn y) (f.rmag (f.rung y)) (f.rplace (f.rung y) - min (f.rplace (f.rung x)) (f.rplace (f.rung y))).toNat (min (f.rplace (f.rung x)) (f.rplace (f.rung y)))
  rw [show min (f.rplace (f.rung x)) (f.rplace (f.rung y)) + (((f.rplace (f.rung x)) - min (f.rplace (f.rung x)) (f.rplace (f.rung y))).toNat : Int) = f.rplace (f.rung x) from by omega] at ei
  rw [show min (f.rplace (f.rung x)) (f.rplace (f.rung y)) + (((f.rplace (f.rung y)) - min (f.rplace (f.rung x)) (f.rplace (f.rung y))).toNat : Int) = f.rplace (f.rung y) from by omega] at ej
  have vx : f.V x = sg (f.sgn x) * ((f.rmag (f.rung x) : Rat) * P2 (f.rplace (f.rung x))) := rfl
  have vy : f.V y = sg (f.sgn y) * ((f.rmag (f.rung y) : Rat) * P2 (f.rplace (f.rung y))) := rfl
  rw [vx, vy, ← ei, ← ej]
  generalize signed (f.sgn x) _ _ = a
  generalize signed (f.sgn y) _ _ = c
  generalize (min (f.rplace (f.rung x)) (f.rplace (f.rung y)) : Int) = b
  have hp := P2_pos b
  have z0 : ((a : Rat) * P2 b < (c : Rat) * P2 b) ↔ a < c := by
    rw [Rat.mul_lt_mul_right hp]; exact Rat.intCast_lt_intCast
  have z1 : ((a : Rat) * P2 b = (c : Rat) * P2 b) ↔ a = c := by
    constructor
    · intro h
      have e1 := Rat.le_of_mul_le_mul_right (a := (a : Rat)) (b := (c : Rat)) (by rw [h]; exact Rat.le_refl) hp
      have e2 := Rat.le_of_mul_le_mul_right (a := (c : Rat)) (b := (a : Rat)) (by rw [h]; exact Rat.le_refl) hp
      exact Rat.intCast_inj.1 (Rat.le_antisymm e1 e2)
    · intro h; rw [h]
  simp only [z0, z1]
  congr 1

theorem order_lt {x y : Nat} (hx : f.fin x) (hy : f.fin y) : (f.order x y == some .lt) = decide (f.V x < f.V y) := by
  rw [f.order_fin hx hy]
  by_cases h : f.V x < f.V y
  · simp [h]
  · by_cases h2 : f.V x = f.V y <;> simp [h, h2]
theorem order_eq {x y : Nat} (hx : f.fin x) (hy : f.fin y) : (f.order x y == some .eq) = decide (f.V x = f.V y) := by
  rw [f.order_fin hx hy]
  by_cases h : f.V x < f.V y
  · have : f.V x ≠ f.V y := by grind
    simp [h, this]
  · by_cases h2 : f.V x = f.V y <;> simp [h, h2]
theorem order_gt {x y : Nat} (hx : f.fin x) (hy : f.fin y) : (f.order x y == some .gt) = decide (f.V y < f.V x) := by
  rw [f.order_fin hx hy]
  by_cases h : f.V x < f.V y
  · have : ¬ f.V y < f.V x := by grind
    simp [h, this]
  · by_cases h2 : f.V x = f.V y
    · simp [h2]
    · have : f.V y < f.V x := by grind
      simp [h, h2, this]

/-! ### the double of a single, and back -/
theorem sing_V {x : Nat} : Sing (single.V x) := by
  refine ⟨single.rung x, ?_⟩
  unfold V sg
  split
  · right; grind
  · left; grind

open Go in
theorem widen {x : Nat} (hx : single.fin x) : ∃ w, floatToFloatBits .f32 x .f64 = some w ∧ double.fin w ∧ double.V w = single.V x ∧ double.sgn w = single.sgn x := by
  obtain ⟨r, h1, h2⟩ := double.write_number double_fb (single.sgn x) (single.rmag (single.rung x)) (single.rplace (single.rung x))
  obtain ⟨b, hb⟩ := single_in_double (single.rung x)
  have e : (single.rmag (single.rung x) : Rat) * P2 (single.rplace (single.rung x)) = double.rv b := hb.symm
  rw [e] at h2
  obtain rfl := h2.eq_of
  have lt : r < double.infRung := by
    have a : single.rv (single.rung x) < single.rv single.infRung := single.rv_lt hx
    rw [← hb] at a
    have c : single.rv single.infRung = (8388608 : Nat) * P2 105 := by
      have := single.rv_at 254 8388608 (.inr (by decide)) (by decide)
      rw [show 254 * single.binade + 8388608 = single.infRung from by decide] at this
      rw [this, single_least]; rfl
    have d : double.rv double.infRung = (4503599627370496 : Nat) * P2 972 := by
      have := double.rv_at 2046 4503599627370496 (.inr (by decide)) (by decide)
      rw [show 2046 * double.binade + 4503599627370496 = double.infRung from by decide] at this
      rw [this, double_least]; rfl
    have g : single.rv single.infRung ≤ double.rv double.infRung := by
      rw [c, d]
      have := P2_mono (show (105 : Int) ≤ 972 by omega)
      have := P2_pos 105
      have e1 := Rat.mul_le_mul_of_nonneg_right (show ((8388608 : Nat) : Rat) ≤ ((4503599627370496 : Nat) : Rat) from by exact_mod_cast (show 8388608 ≤ 4503599627370496 by omega)) (Rat.le_of_lt this)
      grind
    exact double.rv_lt_iff.1 (by grind)
  have fw : double.fin (double.word (single.sgn x) (min r double.infRung)) := (double.fin_word_iff _ _).2 lt
  refine ⟨double.word (single.sgn x) (min r double.infRung), ?_, fw, ?_, ?_⟩
  · unfold floatToFloatBits
    rw [if_neg (by decide)]
    have hd : FloatKind.decode .f32 x = .number (single.sgn x) (single.rmag (single.rung x)) (single.rplace (single.rung x)) := single.read_fin hx
    rw [hd]
    have he : FloatKind.encode .f64 (.number (single.sgn x) (single.rmag (single.rung x)) (single.rplace (single.rung x))) = double.word (single.sgn x) (min r double.infRung) := h1
    dsimp only
    rw [he]
    have hd2 : FloatKind.decode .f64 (double.word (single.sgn x) (min r double.infRung)) = .number _ _ _ := double.read_fin fw
    rw [hd2]; rfl
  · rw [double.V_word lt, hb]; rfl
  · exact double.sgn_word _ (double.min_lt_sw r)

open Go in
/-- back: what the double 'z' of a number 'x' is as a single is 'x' rounded at once, where nothing is rounded to a midpoint -/
theorem narrow {z w : Nat} {x : Rat} {s : Bool} (hz : double.Rounds x s z) (hw : single.Rounds x s w) (fw : single.fin w)
    (hbad : ∀ k, double.Near (sg s * x) k → ∀ a, 2 * double.rv k = single.rv a + single.rv (a + 1) → sg s * x = double.rv k) :
    floatToFloatBits .f64 z .f32 = some w := by
  obtain ⟨k, rfl, hk⟩ := hz
  obtain ⟨r, rfl, hr⟩ := hw
  have hrl := (single.fin_word_iff s r).1 fw
  have lt : k < double.infRung := by
    -- the single is finite, so the number is below the infinite single
    have h1 := hr.up
    have h2 : single.rv (r + 1) ≤ single.rv single.infRung := single.rv_mono (by omega)
    have h3 := single.rv_lt_succ r
    have c : single.rv single.infRung = (8388608 : Nat) * P2 105 := by
      have := single.rv_at 254 8388608 (.inr (by decide)) (by decide)
      rw [show 254 * single.binade + 8388608 = single.infRung from by decide] at this
      rw [this, single_least]; rfl
    have d : double.rv (double.infRung - 1) = (9007199254740991 : Nat) * P2 971 := by
      have := double.rv_at 2045 9007199254740991 (.inr (by decide)) (by decide)
      rw [show 2045 * double.binade + 9007199254740991 = double.infRung - 1 from by decide] at this
      rw [this, double_least]; rfl
    have g : single.rv single.infRung ≤ double.rv (double.infRung - 1) := by
      rw [c, d]
      have := P2_mono (show (105 : Int) ≤ 971 by omega)
      have := P2_pos 105
      have e1 := Rat.mul_le_mul_of_nonneg_right (show ((8388608 : Nat) : Rat) ≤ ((9007199254740991 : Nat) : Rat) from by exact_mod_cast (show 8388608 ≤ 9007199254740991 by omega)) (Rat.le_of_lt this)
      have e2 : (0 : Rat) ≤ ((9007199254740991 : Nat) : Rat) := Rat.natCast_nonneg
      grind
    have := hk.le_of (b := double.infRung - 1) (by grind)
    have : 0 < double.infRung := by decide
    omega
  have fz : double.fin (double.word s (min k double.infRung)) := (double.fin_word_iff s k).2 lt
  have hd : FloatKind.decode .f64 (double.word s (min k double.infRung)) = .number s (double.rmag k) (double.rplace k) := by
    have h : double.read (double.word s (min k double.infRung)) = _ := double.read_fin fz
    rw [double.sgn_word s (double.min_lt_sw k), double.rung_word s (double.min_lt_sw k)] at h
    rw [show min k double.infRung = k from Nat.min_eq_left (by omega)] at h ⊢
    exact h
  obtain ⟨q, hq, hq2⟩ := single.write_number single_fb s (double.rmag k) (double.rplace k)
  have e : (double.rmag k : Rat) * P2 (double.rplace k) = double.rv k := rfl
  rw [e] at hq2
  have : q = r := near_twice hk hr hq2 single_mid_in_double (hbad k hk)
  subst this
  unfold floatToFloatBits
  rw [if_neg (by decide), hd]
  have he : FloatKind.encode .f32 (.number s (double.rmag k) (double.rplace k)) = single.word s (min q single.infRung) := hq
  dsimp only
  rw [he]
  have hd2 : FloatKind.decode .f32 (single.word s (min q single.infRung)) = .number _ _ _ := single.read_fin fw
  rw [hd2]; rfl

open Go

theorem V_sing_sg (s : Bool) {x : Rat} (h : Sing x) : Sing (sg s * x) := by
  cases s
  · simpa [sg] using h
  · have := h.neg
    simpa [sg, Rat.neg_mul] using this

theorem ref_add {x y w : Nat} (hx : single.fin x) (hy : single.fin y) (hw : single.add x y = some w) (fw : single.fin w) :
    ∃ X Y Z, floatToFloatBits .f32 x .f64 = some X ∧ floatToFloatBits .f32 y .f64 = some Y ∧ double.add X Y = some Z ∧ floatToFloatBits .f64 Z .f32 = some w := by
  obtain ⟨X, a1, a2, a3, a4⟩ := widen hx
  obtain ⟨Y, b1, b2, b3, b4⟩ := widen hy
  obtain ⟨Z, c1, c2⟩ := double.add_rounds double_fb a2 b2
  obtain ⟨W, d1, d2⟩ := single.add_rounds single_fb hx hy
  rw [hw] at d1; cases d1
  rw [a3, b3, a4, b4] at c2
  obtain ⟨s, hs⟩ : ∃ s, s = (sumSign (single.sgn x) (single.sgn y) (single.V x + single.V y)) := ⟨_, rfl⟩
  rw [← hs] at c2 d2
  refine ⟨X, Y, Z, a1, b1, c1, narrow c2 d2 fw fun k hk => ?_⟩
  refine add_bad (x := sg s * single.V x) (y := sg s * single.V y) (V_sing_sg _ sing_V) (V_sing_sg _ sing_V) (by grind) hk

theorem ref_sub {x y w : Nat} (hx : single.fin x) (hy : single.fin y) (hw : single.sub x y = some w) (fw : single.fin w) :
    ∃ X Y Z, floatToFloatBits .f32 x .f64 = some X ∧ floatToFloatBits .f32 y .f64 = some Y ∧ double.sub X Y = some Z ∧ floatToFloatBits .f64 Z .f32 = some w := by
  obtain ⟨X, a1, a2, a3, a4⟩ := widen hx
  obtain ⟨Y, b1, b2, b3, b4⟩ := widen hy
  obtain ⟨Z, c1, c2⟩ := double.sub_rounds double_fb a2 b2
  obtain ⟨W, d1, d2⟩ := single.sub_rounds single_fb hx hy
  rw [hw] at d1; cases d1
  rw [a3, b3, a4, b4] at c2
  obtain ⟨s, hs⟩ : ∃ s, s = (sumSign (single.sgn x) (!single.sgn y) (single.V x - single.V y)) := ⟨_, rfl⟩
  rw [← hs] at c2 d2
  refine ⟨X, Y, Z, a1, b1, c1, narrow c2 d2 fw fun k hk => ?_⟩
  refine add_bad (x := sg s * single.V x) (y := -(sg s * single.V y)) (V_sing_sg _ sing_V) (V_sing_sg _ sing_V).neg (by grind) hk

theorem ref_mul {x y w : Nat} (hx : single.fin x) (hy : single.fin y) (hw : single.mul x y = some w) (fw : single.fin w) :
    ∃ X Y Z, floatToFloatBits .f32 x .f64 = some X ∧ floatToFloatBits .f32 y .f64 = some Y ∧ double.mul X Y = some Z ∧ floatToFloatBits .f64 Z .f32 = some w := by
  obtain ⟨X, a1, a2, a3, a4⟩ := widen hx
  obtain ⟨Y, b1, b2, b3, b4⟩ := widen hy
  obtain ⟨Z, c1, c2⟩ := double.mul_rounds double_fb a2 b2
  obtain ⟨W, d1, d2⟩ := single.mul_rounds single_fb hx hy
  rw [hw] at d1; cases d1
  rw [a3, b3, a4, b4] at c2
  obtain ⟨s, hs⟩ : ∃ s, s = (single.sgn x ^^ single.sgn y) := ⟨_, rfl⟩
  rw [← hs] at c2 d2
  refine ⟨X, Y, Z, a1, b1, c1, narrow c2 d2 fw fun k hk a _ => ?_⟩
  exact mul_bad (x := sg s * single.V x) (y := single.V y) (V_sing_sg _ sing_V) sing_V (by grind) hk

end Format
end Ieee
