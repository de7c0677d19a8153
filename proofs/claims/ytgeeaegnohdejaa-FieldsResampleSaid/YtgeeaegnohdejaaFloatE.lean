import Derived.Test.YtgeeaegnohdejaaFloatD
namespace Ieee
namespace Format
open Go

theorem single_inf : single.infRung = 2139095040 := by decide
theorem single_sw : single.signWeight = 2147483648 := by decide
theorem double_inf : double.infRung = 9218868437227405312 := by decide
theorem double_sw : double.signWeight = 9223372036854775808 := by decide
theorem single_bi : single.binade ≤ single.infRung := by decide
theorem double_bi : double.binade ≤ double.infRung := by decide

theorem read_inf (f : Format) (hb : f.binade ≤ f.infRung) {w : Nat} (h : f.rung w = f.infRung) : f.read w = .infinity (f.sgn w) := by
  unfold read
  change (if f.rung w < f.binade then _ else if f.rung w < f.infRung then _ else if f.rung w = f.infRung then _ else _) = _
  rw [if_neg (by omega), if_neg (by omega), if_pos h]
  rfl
theorem read_nan (f : Format) (hb : f.binade ≤ f.infRung) {w : Nat} (h : f.infRung < f.rung w) : f.read w = .nan (f.sgn w) (f.rung w - f.infRung) := by
  unfold read
  change (if f.rung w < f.binade then _ else if f.rung w < f.infRung then _ else if f.rung w = f.infRung then _ else _) = _
  rw [if_neg (by omega), if_neg (by omega), if_neg (by omega)]
  rfl

theorem order_nan_left (f : Format) (hb : f.binade ≤ f.infRung) {x : Nat} (y : Nat) (h : f.infRung < f.rung x) : f.order x y = none := by
  unfold order
  rw [f.read_nan hb h]; rfl
theorem order_inf_left (f : Format) (hb : f.binade ≤ f.infRung) {x y : Nat} (h : f.rung x = f.infRung) (hy : f.fin y) : f.order x y = some (if f.sgn x then .lt else .gt) := by
  unfold order
  rw [f.read_inf hb h, f.read_fin hy]; rfl

/-- the lesser rung is the lesser magnitude -/
theorem V_le_rung {x c : Nat} (h : single.rung x ≤ single.rung c) (hc : single.sgn c = false) : single.V x ≤ single.V c := by
  have m := single.rv_mono h
  have p := single.rv_nonneg (single.rung x)
  unfold V; rw [hc]
  cases single.sgn x <;> simp [sg] <;> grind
theorem V_ge_rung {x c : Nat} (h : single.rung x ≤ single.rung c) (hc : single.sgn c = false) : -single.V c ≤ single.V x := by
  have m := single.rv_mono h
  have p := single.rv_nonneg (single.rung x)
  have q := single.rv_nonneg (single.rung c)
  unfold V; rw [hc]
  cases single.sgn x <;> simp [sg] <;> grind
theorem V_far_rung {x c : Nat} (h : single.rung c < single.rung x) (hc : single.sgn c = false) : single.V c < single.V x ∨ single.V x < -single.V c := by
  have m := single.rv_lt h
  unfold V; rw [hc]
  cases single.sgn x <;> simp [sg] <;> grind
theorem V_rung_iff {x c : Nat} (hc : single.sgn c = false) : (-single.V c ≤ single.V x ∧ single.V x ≤ single.V c) ↔ single.rung x ≤ single.rung c := by
  constructor
  · rintro ⟨a, b⟩
    by_cases h : single.rung x ≤ single.rung c
    · exact h
    · have hlt : single.rung c < single.rung x := by omega
      rcases V_far_rung hlt hc with d | d <;> grind
  · intro h; exact ⟨V_ge_rung h hc, V_le_rung h hc⟩

theorem rung_lit (w : Nat) : single.rung w = w % 2147483648 := by unfold rung; rw [single_sw]
theorem sgn_lit (w : Nat) : single.sgn w = (w / 2147483648 % 2 == 1) := by unfold sgn; rw [single_sw]
theorem fin_lit (w : Nat) : single.fin w ↔ w % 2147483648 < 2139095040 := by unfold fin; rw [rung_lit, single_inf]

theorem V_neg_word {c d : Nat} (h : single.rung d = single.rung c) (hc : single.sgn c = false) (hd : single.sgn d = true) : single.V d = -single.V c := by
  unfold V; rw [h, hc, hd]; simp [sg]; grind

/-- 'low ≤ x ∧ x ≤ high' as Go asks it, 'high' a positive constant and 'low' its opposite -/
theorem between {x c d : Nat} (fc : single.fin c) (fd : single.fin d) (h : single.rung d = single.rung c) (hc : single.sgn c = false) (hd : single.sgn d = true) :
    (((single.order x d == some .gt || single.order x d == some .eq) && (single.order x c == some .lt || single.order x c == some .eq)) = decide (single.rung x ≤ single.rung c)) := by
  by_cases hx : single.fin x
  · rw [single.order_gt hx fd, single.order_eq hx fd, single.order_lt hx fc, single.order_eq hx fc, V_neg_word h hc hd, Bool.eq_iff_iff]
    simp only [Bool.and_eq_true, Bool.or_eq_true, decide_eq_true_iff, ← V_rung_iff hc]
    constructor
    · rintro ⟨a, b⟩; constructor <;> grind
    · rintro ⟨a, b⟩; constructor <;> grind
  · have hf : single.rung c < single.infRung := fc
    have hg : ¬ single.rung x < single.infRung := hx
    rw [show decide (single.rung x ≤ single.rung c) = false from decide_eq_false (by omega)]
    by_cases e : single.rung x = single.infRung
    · rw [single.order_inf_left single_bi e fd, single.order_inf_left single_bi e fc]
      cases single.sgn x <;> rfl
    · rw [single.order_nan_left single_bi d (by omega), single.order_nan_left single_bi c (by omega)]
      rfl

theorem finite_test (x : Nat) : ((single.order x 4286578687 == some .gt || single.order x 4286578687 == some .eq) && (single.order x 2139095039 == some .lt || single.order x 2139095039 == some .eq)) = decide (single.fin x) := by
  have := between (x := x) (c := 2139095039) (d := 4286578687) (by decide) (by decide) (by decide) (by decide) (by decide)
  rw [this]
  congr 1
  rw [eq_iff_iff, fin_lit, rung_lit, rung_lit]; omega
theorem height_test (x : Nat) : ((single.order x 3380609024 == some .gt || single.order x 3380609024 == some .eq) && (single.order x 1233125376 == some .lt || single.order x 1233125376 == some .eq)) = decide (x % 2147483648 ≤ 1233125376) := by
  have := between (x := x) (c := 1233125376) (d := 3380609024) (by decide) (by decide) (by decide) (by decide) (by decide)
  rw [this]
  congr 1

/-- the error of a single that should be a height -/
def heightE (x : Nat) : Int := if ¬ single.fin x then 2 else if x % 2147483648 ≤ 1233125376 then 0 else 3
def heightsE (l : List Nat) : Int := if l.all (fun x => decide (single.fin x)) then (if l.all (fun x => decide (x % 2147483648 ≤ 1233125376)) then 0 else 3) else 2

theorem is_nan_test (x : Nat) : (single.order x x != some .eq) = decide (2139095040 < x % 2147483648) := by
  by_cases hx : single.fin x
  · have : (single.order x x == some .eq) = true := by rw [single.order_eq hx hx]; simp
    rw [bne, this]
    rw [fin_lit] at hx
    simp; omega
  · rw [fin_lit] at hx
    by_cases e : x % 2147483648 = 2139095040
    · have e' : single.rung x = single.infRung := by rw [rung_lit, single_inf]; exact e
      unfold order
      rw [single.read_inf single_bi e']
      rw [show Datum.order (.infinity (single.sgn x)) (.infinity (single.sgn x)) = some .eq from by cases single.sgn x <;> rfl, e]
      rfl
    · rw [single.order_nan_left single_bi x (by rw [rung_lit, single_inf]; omega)]
      rw [show decide (2139095040 < x % 2147483648) = true from decide_eq_true (by omega)]
      rfl

/-- the greater test on a magnitude: 'c' a positive finite constant -/
theorem mag_gt {x c : Nat} (hx : single.sgn x = false) (hn : single.rung x ≤ single.infRung) (fc : single.fin c) (hc : single.sgn c = false) : (single.order x c == some .gt) = decide (single.rung c < single.rung x) := by
  by_cases fx : single.fin x
  · rw [single.order_gt fx fc, Bool.eq_iff_iff, decide_eq_true_iff, decide_eq_true_iff]
    unfold V; rw [hx, hc]
    simp only [sg, Bool.false_eq_true, if_false, Rat.one_mul]
    exact single.rv_lt_iff
  · have fx' : ¬ single.rung x < single.infRung := fx
    have fc' : single.rung c < single.infRung := fc
    rw [single.order_inf_left single_bi (by omega) fc, hx]
    simp; omega
end Format
end Ieee
