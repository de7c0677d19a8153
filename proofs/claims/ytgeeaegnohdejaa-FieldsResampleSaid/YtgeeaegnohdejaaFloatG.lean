import Derived.Test.YtgeeaegnohdejaaFloatF
namespace Ieee
namespace Format
open Go

theorem mag_gt' (f : Format) (hb : f.binade ≤ f.infRung) {x c : Nat} (hx : f.sgn x = false) (hn : f.rung x ≤ f.infRung) (fc : f.fin c) (hc : f.sgn c = false) : (f.order x c == some .gt) = decide (f.rung c < f.rung x) := by
  by_cases fx : f.fin x
  · rw [f.order_gt fx fc, Bool.eq_iff_iff, decide_eq_true_iff, decide_eq_true_iff]
    unfold V; rw [hx, hc]
    simp only [sg, Bool.false_eq_true, if_false, Rat.one_mul]
    exact f.rv_lt_iff
  · have fx' : ¬ f.rung x < f.infRung := fx
    have fc' : f.rung c < f.infRung := fc
    rw [f.order_inf_left hb (by omega) fc, hx]
    simp; omega

/-- the magnitude's word of a double -/
def dmag (X : Nat) : Nat := double.rung X
theorem dmag_parts (X : Nat) : double.sgn (dmag X) = false ∧ double.rung (dmag X) = double.rung X := by
  have h : double.rung X < double.signWeight := Nat.mod_lt _ double.signWeight_pos
  have e : dmag X = double.word false (double.rung X) := by unfold dmag word; rfl
  rw [e]
  exact ⟨double.sgn_word false h, double.rung_word false h⟩
theorem dinf_test (X : Nat) (hn : double.rung X ≤ double.infRung) : (double.order (dmag X) 9218868437227405311 == some .gt) = decide (double.rung X = double.infRung) := by
  obtain ⟨a, b⟩ := dmag_parts X
  rw [mag_gt' double double_bi a (by rw [b]; exact hn) (c := 9218868437227405311) (by unfold fin rung; decide) (by decide), b]
  have e : double.rung 9218868437227405311 = double.infRung - 1 := by decide
  rw [e, Bool.eq_iff_iff, decide_eq_true_iff, decide_eq_true_iff]
  have : 0 < double.infRung := by decide
  omega

/-- the double of a single that is no NaN: infinite where the single is -/
theorem widen_any {x : Nat} (h : x % 2147483648 ≤ 2139095040) : ∃ X, floatToFloatBits .f32 x .f64 = some X ∧ X < 2 ^ 64 ∧ double.rung X ≤ double.infRung ∧ (double.rung X = double.infRung ↔ ¬ single.fin x) := by
  by_cases fx : single.fin x
  · obtain ⟨X, a, b, _, _⟩ := widen fx
    refine ⟨X, a, ?_, Nat.le_of_lt b, ?_⟩
    · have := floatToFloatBits_some_lt a
      exact this
    · have b' : double.rung X < double.infRung := b
      constructor
      · intro e; omega
      · intro c; exact absurd fx c
  · have e : single.rung x = single.infRung := by
      rw [fin_lit] at fx; rw [rung_lit, single_inf]; omega
    have hd : FloatKind.decode .f32 x = .infinity (single.sgn x) := single.read_inf single_bi e
    have r : double.rung (double.word (single.sgn x) double.infRung) = double.infRung := double.rung_word _ double.infRung_lt
    refine ⟨double.word (single.sgn x) double.infRung, ?_, ?_, by rw [r]; exact Nat.le_refl _, by rw [r]; simp [fx]⟩
    · unfold floatToFloatBits
      rw [if_neg (by decide), hd]; rfl
    · exact double.word_lt _ double.infRung_lt
where
  floatToFloatBits_some_lt {x X : Nat} (h : floatToFloatBits .f32 x .f64 = some X) : X < 2 ^ 64 := by
    unfold floatToFloatBits at h
    rw [if_neg (by decide)] at h
    split at h
    · cases h
    · cases h; exact double.write_lt _
    · split at h
      · cases h
      · cases h; exact double.write_lt _

def allFin (l : List Nat) : Bool := l.all fun x => decide (fin Ieee.single x)
def allHt (l : List Nat) : Bool := l.all fun x => decide (x % 2147483648 ≤ 1233125376)
theorem all_true {p : Nat → Prop} [DecidablePred p] {l : List Nat} (h : ∀ j, j < l.length → p (l.getD j 0)) : (l.all fun x => decide (p x)) = true := by
  rw [List.all_eq_true]
  intro x hx
  obtain ⟨i, hi, rfl⟩ := List.mem_iff_getElem.1 hx
  have := h i hi
  rw [List.getD_eq_getElem?_getD, List.getElem?_eq_getElem hi] at this
  exact decide_eq_true this
theorem all_false {p : Nat → Prop} [DecidablePred p] {l : List Nat} {j : Nat} (hj : j < l.length) (h : ¬ p (l.getD j 0)) : (l.all fun x => decide (p x)) = false := by
  rw [List.all_eq_false]
  refine ⟨l[j], List.getElem_mem hj, ?_⟩
  rw [List.getD_eq_getElem?_getD, List.getElem?_eq_getElem hj] at h
  simpa using h
/-- the error of singles that should be finite; that should be heights -/
def finE (l : List Nat) : Int := if allFin l then 0 else 2
def htE (l : List Nat) : Int := if allFin l then (if allHt l then 0 else 3) else 2
theorem finE_ok {l : List Nat} (h : allFin l = true) : finE l = 0 := by unfold finE; rw [h]; rfl
theorem finE_bad {l : List Nat} (h : allFin l = false) : finE l = 2 := by unfold finE; rw [h]; rfl
theorem htE_ok {l : List Nat} (h : allFin l = true) (h2 : allHt l = true) : htE l = 0 := by unfold htE; rw [h, h2]; rfl
theorem htE_far {l : List Nat} (h : allFin l = true) (h2 : allHt l = false) : htE l = 3 := by unfold htE; rw [h, h2]; rfl
theorem htE_bad {l : List Nat} (h : allFin l = false) : htE l = 2 := by unfold htE; rw [h]; rfl
end Format
end Ieee
