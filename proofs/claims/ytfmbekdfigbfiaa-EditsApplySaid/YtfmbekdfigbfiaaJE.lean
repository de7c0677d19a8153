import Derived.Test.YtfmbekdfigbfiaaJD
import Derived.Test.YtfmbekdfigbfiaaJC
import Derived.BigQuiet
import Derived.Deep.QuietTactic
import Derived.Deep.RegionHeld3
import Derived.Deep.DeepCutAuto
namespace Go.Proofs.Ytfmbekdfigbfiaa
open Go.ChangeShapes Go.WideShapes Go.ChangeAt Go.RowKit
open Ieee.Format (fin finE htE allFin allHt all_true all_false mulF subF addF Ht Bd divF rootF floorF easeF mixF)
set_option linter.unusedVariables false
open Ieee.Format (mixF mix_bd quarter_bd const_quarter)

/-! ### edits, in plain Lean -/
structure Ed where
  kd : Int
  bk : Int
  X : Int
  Y : Int
  R : Int
  h : Nat
  t : Nat
def Ed.wt (e : Ed) (x y : Int) : Nat := weightF e.bk (sqD x y e.X e.Y) e.R
/-- is a single zero? -/
def isZ (x : Nat) : Bool := FloatKind.f32.format.order x 0 == some .eq
def sumF4 (n s e w : Nat) : Nat := addF (addF n w) (addF e s)
def avgF (n s e w : Nat) : Nat := mulF (sumF4 n s e w) 1048576000
/-- what an edit makes of a value v with the weight wt; m: the average of the neighbours -/
def chgF (e : Ed) (wt v m : Nat) : Nat :=
  if isZ wt then v else if e.kd = 1 then addF v (mulF e.h wt) else if e.kd = 2 then mixF v e.t wt else if e.kd = 3 then mixF v m wt else e.t
def avgAt (g : Int → Int → Nat) (x y : Int) : Nat := avgF (g x (y - 1)) (g x (y + 1)) (g (x + 1) y) (g (x - 1) y)
def edV (e : Ed) (g : Int → Int → Nat) (x y : Int) : Nat := chgF e (e.wt x y) (g x y) (avgAt g x y)
def edsV : List Ed → (Int → Int → Nat) → Int → Int → Nat
  | [], g => g
  | e :: l, g => edsV l (edV e g)
def softB (e : Ed) : Nat := if e.kd = 3 then 1 else 0
def softN (l : List Ed) : Nat := (l.map softB).sum
theorem softN_le (l : List Ed) : softN l ≤ l.length := by
  induction l with
  | nil => simp [softN]
  | cons e l ih =>
    have : softN (e :: l) = softB e + softN l := by simp [softN]
    rw [this, List.length_cons]
    unfold softB
    split <;> omega
/-- a right edit's numbers -/
structure Ed.ok (e : Ed) : Prop where
  k1 : 1 ≤ e.kd
  k4 : e.kd ≤ 4
  b : brushE e.bk e.X e.Y e.R e.h = 0
  t : Ht e.t
theorem Ed.ok.wts {e : Ed} (h : e.ok) (x y : Int) : Share (e.wt x y) := by
  obtain ⟨_, _, _, r1, r2, _⟩ := brush_zero h.b
  exact weight_share (by
    unfold sqD
    have q : ∀ z : Int, 0 ≤ z * z := fun z => by
      rcases Int.le_total 0 z with h | h
      · exact Int.mul_nonneg h h
      · exact Int.mul_nonneg_of_nonpos_of_nonpos h h
    have a := q (x - e.X); have b := q (y - e.Y); omega) r1 r2
theorem Ed.ok.hh {e : Ed} (h : e.ok) : Bd 20 e.h := by
  obtain ⟨_, _, _, _, _, hH⟩ := brush_zero h.b
  exact Ieee.Format.Ht.bd (htE_one hH)
theorem avg_bd {k n s e w : Nat} (hn : Bd k n) (hs : Bd k s) (he : Bd k e) (hw : Bd k w) (hk : k ≤ 80) :
    Bd (k + 1) (addF n w) ∧ Bd (k + 1) (addF e s) ∧ Bd (k + 2) (sumF4 n s e w) ∧ Bd k (avgF n s e w) := by
  have a1 := hn.add hw (by omega)
  have a2 := he.add hs (by omega)
  have a3 := a1.add a2 (by omega)
  exact ⟨a1, a2, a3, Ieee.Format.Bd.less (j := 2) a3 const_quarter.1 quarter_bd (by omega)⟩
theorem chg_bd {e : Ed} (h : e.ok) {k wt v m : Nat} (hk : 20 ≤ k) (hk2 : k ≤ 80) (hw : Share wt) (hv : Bd k v) (hm : Bd k m) : Bd (k + 2) (chgF e wt v m) := by
  unfold chgF
  split
  · exact hv.mono (by omega)
  split
  · exact (hv.add ((h.hh.mul hw.bd (by omega)).mono hk) (by omega)).mono (by omega)
  split
  · exact (mix_bd hv (h.t.bd.mono hk) hw.bd hk2).2.2
  split
  · exact (mix_bd hv hm hw.bd hk2).2.2
  · exact h.t.bd.mono (by omega)
theorem edV_bd {e : Ed} (h : e.ok) {k : Nat} (hk : 20 ≤ k) (hk2 : k ≤ 80) {g : Int → Int → Nat} (hg : ∀ x y, Bd k (g x y)) (x y : Int) : Bd (k + 2) (edV e g x y) :=
  chg_bd h hk hk2 (h.wts x y) (hg x y) (avg_bd (hg _ _) (hg _ _) (hg _ _) (hg _ _) hk2).2.2.2

/-! ### an edit changes nothing outside of its reach -/
/-- two functions agree outside of a square -/
def AgreeOut (g g' : Int → Int → Nat) (X Y W H : Int) : Prop := ∀ x y, ¬ inR X Y W H x y → g x y = g' x y
theorem edV_agree {e : Ed} {g g' : Int → Int → Nat} {X Y W H : Int} (h : AgreeOut g g' X Y W H) : AgreeOut (edV e g) (edV e g') (X - softB e) (Y - softB e) (W + 2 * softB e) (H + 2 * softB e) := by
  intro x y hn
  unfold inR at hn
  unfold edV
  unfold softB at hn
  by_cases h3 : e.kd = 3
  · rw [if_pos h3] at hn
    have e0 : g x y = g' x y := h x y (by unfold inR; omega)
    have e1 : g x (y - 1) = g' x (y - 1) := h _ _ (by unfold inR; omega)
    have e2 : g x (y + 1) = g' x (y + 1) := h _ _ (by unfold inR; omega)
    have e3 : g (x + 1) y = g' (x + 1) y := h _ _ (by unfold inR; omega)
    have e4 : g (x - 1) y = g' (x - 1) y := h _ _ (by unfold inR; omega)
    unfold avgAt
    rw [e0, e1, e2, e3, e4]
  · rw [if_neg h3] at hn
    have e0 : g x y = g' x y := h x y (by unfold inR; omega)
    unfold chgF
    rw [e0]
    simp only [if_neg h3]
theorem edsV_agree (l : List Ed) {g g' : Int → Int → Nat} {X Y W H : Int} (h : AgreeOut g g' X Y W H) : AgreeOut (edsV l g) (edsV l g') (X - softN l) (Y - softN l) (W + 2 * softN l) (H + 2 * softN l) := by
  induction l generalizing g g' X Y W H with
  | nil => simpa [edsV, softN] using h
  | cons e l ih =>
    have := ih (edV_agree (e := e) h)
    have s : (softN (e :: l) : Int) = softB e + softN l := by simp [softN]
    rw [s]
    have a : X - (softB e : Int) - softN l = X - ((softB e : Int) + softN l) := by omega
    have b : Y - (softB e : Int) - softN l = Y - ((softB e : Int) + softN l) := by omega
    have c : W + 2 * (softB e : Int) + 2 * softN l = W + 2 * ((softB e : Int) + softN l) := by omega
    have d : H + 2 * (softB e : Int) + 2 * softN l = H + 2 * ((softB e : Int) + softN l) := by omega
    rw [← a, ← b, ← c, ← d]
    exact this
theorem edV_out {e : Ed} (h : e.ok) (g : Int → Int → Nat) : AgreeOut (edV e g) g (e.X - e.R + 1) (e.Y - e.R + 1) (2 * e.R - 1) (2 * e.R - 1) := by
  obtain ⟨_, _, _, r1, r2, _⟩ := brush_zero h.b
  intro x y hn
  unfold edV Ed.wt chgF
  rw [out_box r1 hn]
  rw [if_pos (by decide)]
theorem edsV_append (l m : List Ed) (g : Int → Int → Nat) : edsV (l ++ m) g = edsV m (edsV l g) := by
  induction l generalizing g with
  | nil => rfl
  | cons e l ih => exact ih _
/-- the law: without edit k, all is as it was outside of its reach -/
theorem reach_law (l : List Ed) (k : Nat) (hk : k < l.length) (h : l[k].ok) (g : Int → Int → Nat) (x y : Int)
    (hn : ¬ inR (l[k].X - l[k].R + 1 - softN (l.drop (k + 1))) (l[k].Y - l[k].R + 1 - softN (l.drop (k + 1))) (2 * l[k].R - 1 + 2 * softN (l.drop (k + 1))) (2 * l[k].R - 1 + 2 * softN (l.drop (k + 1))) x y) :
    edsV l g x y = edsV (l.take k ++ l.drop (k + 1)) g x y := by
  have e : l = l.take k ++ l[k] :: l.drop (k + 1) := by rw [List.getElem_cons_drop]; exact (List.take_append_drop k l).symm
  conv => lhs; rw [e, edsV_append]
  rw [edsV_append]
  show edsV (l.drop (k + 1)) (edV l[k] (edsV (l.take k) g)) x y = _
  exact edsV_agree (l.drop (k + 1)) (edV_out h _) x y hn
end Go.Proofs.Ytfmbekdfigbfiaa

namespace Go.Proofs.Ytfmbekdfigbfiaa
open Go.ChangeShapes Go.WideShapes Go.ChangeAt Go.RowKit
open Ieee.Format (fin finE htE allFin allHt all_true all_false mulF subF addF Ht Bd divF rootF floorF easeF mixF)
set_option linter.unusedVariables false

/-! ### fields that a function makes -/
theorem made_cell (g : Int → Int → Nat) (X Y : Int) (Wn Hn : Nat) {x y : Int} (hx : X ≤ x) (hx2 : x < X + Wn) (hy : Y ≤ y) (hy2 : y < Y + Hn) :
    ∃ k : Nat, cellNo X Y Wn x y = (k : Int) ∧ k < Hn * Wn ∧ (madeL g X Y Wn (Hn * Wn)).getD k 0 = g x y := by
  obtain ⟨i, rfl⟩ : ∃ i : Nat, x = X + (i : Int) := ⟨(x - X).toNat, by omega⟩
  obtain ⟨j, rfl⟩ : ∃ j : Nat, y = Y + (j : Int) := ⟨(y - Y).toNat, by omega⟩
  have hi : i < Wn := by omega
  have hj : j < Hn := by omega
  have m1 : (j + 1) * Wn ≤ Hn * Wn := Nat.mul_le_mul_right _ hj
  rw [Nat.add_mul] at m1
  have hk : j * Wn + i < Hn * Wn := by omega
  refine ⟨j * Wn + i, ?_, hk, ?_⟩
  · unfold cellNo
    rw [show Y + (j : Int) - Y = (j : Int) by omega, ← Int.natCast_mul]
    omega
  · unfold madeL
    rw [List.getD_eq_getElem?_getD, List.getElem?_map, List.getElem?_range hk]
    simp only [Option.map_some, Option.getD_some]
    rw [Nat.mul_comm j Wn, Nat.mul_add_mod, Nat.mod_eq_of_lt hi, Nat.mul_add_div (by omega), Nat.div_eq_of_lt hi, Nat.add_zero]
theorem made_nbrs (g : Int → Int → Nat) (X Y : Int) (Wn Hn : Nat) {x y : Int} (hx : X + 1 ≤ x) (hx2 : x < X + Wn - 1) (hy : Y + 1 ≤ y) (hy2 : y < Y + Hn - 1) (k : Nat) (hk : cellNo X Y Wn x y = (k : Int)) :
    1 ≤ k ∧ Wn ≤ k ∧ k + Wn < Hn * Wn ∧ k + 1 < Hn * Wn ∧ (madeL g X Y Wn (Hn * Wn)).getD (k - Wn) 0 = g x (y - 1) ∧ (madeL g X Y Wn (Hn * Wn)).getD (k + Wn) 0 = g x (y + 1) ∧ (madeL g X Y Wn (Hn * Wn)).getD (k + 1) 0 = g (x + 1) y ∧ (madeL g X Y Wn (Hn * Wn)).getD (k - 1) 0 = g (x - 1) y := by
  obtain ⟨k1, a1, b1, c1⟩ := made_cell g X Y Wn Hn (x := x) (y := y - 1) (by omega) (by omega) (by omega) (by omega)
  obtain ⟨k2, a2, b2, c2⟩ := made_cell g X Y Wn Hn (x := x) (y := y + 1) (by omega) (by omega) (by omega) (by omega)
  obtain ⟨k3, a3, b3, c3⟩ := made_cell g X Y Wn Hn (x := x + 1) (y := y) (by omega) (by omega) (by omega) (by omega)
  obtain ⟨k4, a4, b4, c4⟩ := made_cell g X Y Wn Hn (x := x - 1) (y := y) (by omega) (by omega) (by omega) (by omega)
  unfold cellNo at *
  have e1 : (y - 1 - Y) * (Wn : Int) = (y - Y) * Wn - Wn := by rw [show y - 1 - Y = (y - Y) - 1 by omega, Int.sub_mul]; omega
  have e2 : (y + 1 - Y) * (Wn : Int) = (y - Y) * Wn + Wn := by rw [show y + 1 - Y = (y - Y) + 1 by omega, Int.add_mul]; omega
  rw [e1] at a1
  rw [e2] at a2
  generalize (y - Y) * (Wn : Int) = M at *
  have r1 : k1 = k - Wn := by omega
  have r2 : k2 = k + Wn := by omega
  have r3 : k3 = k + 1 := by omega
  have r4 : k4 = k - 1 := by omega
  subst r1 r2 r3 r4
  exact ⟨by omega, by omega, b2, b3, c1, c2, c3, c4⟩
theorem made_id (X Y : Int) (Wn Hn : Nat) (l : List Nat) (h1 : 1 ≤ Wn) (hl : l.length = Hn * Wn) : madeL (fun x y => l.getD (cellNo X Y Wn x y).toNat 0) X Y Wn (Hn * Wn) = l := by
  have := madeL_map id X Y Wn Hn l h1 hl
  simpa using this
theorem made_bd {k : Nat} {g : Int → Int → Nat} (hg : ∀ x y, Bd k (g x y)) (X Y : Int) (W n : Nat) (j : Nat) : Bd k ((madeL g X Y W n).getD j 0) := by
  rcases Nat.lt_or_ge j n with h | h
  · unfold madeL
    rw [List.getD_eq_getElem?_getD, List.getElem?_map, List.getElem?_range h]
    exact hg _ _
  · rw [List.getD_eq_getElem?_getD, List.getElem?_eq_none (by rw [madeL_len]; exact h)]
    refine ⟨Ieee.Format.const_0.1, ?_⟩
    show -_ ≤ Ieee.single.V 0 ∧ Ieee.single.V 0 ≤ _
    rw [Ieee.Format.const_0.2.1]
    have := Ieee.P2_pos k
    constructor <;> grind
end Go.Proofs.Ytfmbekdfigbfiaa

namespace Go.Proofs.Ytfmbekdfigbfiaa
open Go.ChangeShapes Go.WideShapes Go.ChangeAt Go.RowKit
open Ieee.Format (fin finE htE allFin allHt all_true all_false mulF subF addF Ht Bd divF rootF floorF easeF mixF)
set_option linter.unusedVariables false
open Ieee.Format (mixF mix_bd bits_add bits_mul const_quarter)

def edC (e : Ed) : Array Value := #[.int .i64 e.kd, .int .i64 e.bk, .int .i64 e.X, .int .i64 e.Y, .int .i64 e.R, .float .f32 e.h, .float .f32 e.t]
def edA (e : Ed) : Value := .agg (edC e)
set_option maxRecDepth 100000 in
set_option maxHeartbeats 1000000 in
/-- the average of the neighbours -/
theorem softfn_any (X Y : Int) (Wn Hn b o c pf pk k K : Nat) (l : List Nat) (w : World) (hf : Fld w pf X Y Wn Hn (.slice (some ⟨b, o, none⟩) l.length c)) (hp : Blk w pk #[.int .i64 (k : Int)] 3) (hl : SRow w (some ⟨b, o, none⟩) l)
    (hk1 : 1 ≤ k) (hk2 : Wn ≤ k) (hk3 : k + Wn < l.length) (hk4 : k + 1 < l.length) (hw : Wn ≤ 512) (hb : ∀ j, Bd K (l.getD j 0)) (hK : K ≤ 80) :
    Calls Try.prog 157 #[.pointer (some ⟨pf, 0, none⟩), .pointer (some ⟨pk, 0, none⟩)] w fun e w' => e = .returned (.float .f32 (avgF (l.getD (k - Wn) 0) (l.getD (k + Wn) 0) (l.getD (k + 1) 0) (l.getD (k - 1) 0))) ∧ Below w.heap.size w w' := by
  have hlen := hl.1.1
  have d0 := hl.at_ (k := k - Wn) (by omega)
  have d1 := hl.at_ (k := k - 1) (by omega)
  have d2 := hl.at_ (k := k + 1) (by omega)
  have d3 := hl.at_ (k := k + Wn) (by omega)
  obtain ⟨s1, s2, s3, _⟩ := avg_bd (hb (k - Wn)) (hb (k + Wn)) (hb (k + 1)) (hb (k - 1)) hK
  have k1 := fun w' => run_float_arith (P := Try.prog) w' .add 27 .f32 _ _ _ (bits_add (hb (k - Wn)).1 (hb (k - 1)).1)
  have k2 := fun w' => run_float_arith (P := Try.prog) w' .add 27 .f32 _ _ _ (bits_add (hb (k + 1)).1 (hb (k + Wn)).1)
  have k3 := fun w' => run_float_arith (P := Try.prog) w' .add 27 .f32 _ _ _ (bits_add s1.1 s2.1)
  have k4 := fun w' => run_float_arith (P := Try.prog) w' .mul 27 .f32 _ _ _ (bits_mul s3.1 const_quarter.1)
  unfold avgF
  unfold sumF4 at k4 s3 ⊢
  clear s1 s2 s3 hb
  generalize l.getD (k - Wn) 0 = v0 at *
  generalize l.getD (k - 1) 0 = v1 at *
  generalize l.getD (k + 1) 0 = v2 at *
  generalize l.getD (k + Wn) 0 = v3 at *
  generalize mulF (addF (addF v0 v1) (addF v2 v3)) 1048576000 = r at *
  generalize addF (addF v0 v1) (addF v2 v3) = r3 at *
  generalize addF v0 v1 = r1 at *
  generalize addF v2 v3 = r2 at *
  obtain ⟨c0, c1, c2, c3, c4⟩ := hf.cells
  have p0 : w.cell? ⟨pk, 0, none⟩ = some (.int .i64 (k : Int)) := hp.cell 0
  have e1 : IntKind.i64.wrap ((k : Int) - (Wn : Int)) = ((k - Wn : Nat) : Int) := by rw [IntWalk.i64_in _ (by omega)]; omega
  have e2 : IntKind.i64.wrap ((k : Int) - 1) = ((k - 1 : Nat) : Int) := by rw [IntWalk.i64_in _ (by omega)]; omega
  have e3 : IntKind.i64.wrap ((k : Int) + 1) = ((k + 1 : Nat) : Int) := by rw [IntWalk.i64_in _ (by omega)]; omega
  have e4 : IntKind.i64.wrap ((k : Int) + (Wn : Int)) = ((k + Wn : Nat) : Int) := by rw [IntWalk.i64_in _ (by omega)]; omega
  have i0 : ((k - Wn : Nat) : Int) < (l.length : Int) := by omega
  have i1 : ((k - 1 : Nat) : Int) < (l.length : Int) := by omega
  have i2 : ((k + 1 : Nat) : Int) < (l.length : Int) := by omega
  have i3 : ((k + Wn : Nat) : Int) < (l.length : Int) := by omega
  clear hf hp hl hk1 hk2 hk3 hk4 hw
  generalize k - Wn = n0 at *
  generalize k - 1 = n1 at *
  generalize k + 1 = n2 at *
  generalize k + Wn = n3 at *
  go_enter Try.func157, Try.ntmps157
  go_wp2_with fail
  go_quiet (fail)
  go_wp2_with fail
  go_ret
  exact ⟨rfl, (by repeat (first | with_reducible exact Below.refl _ _ | with_reducible apply Below.drew | with_reducible refine below_drewN ?_ _ | (with_reducible refine Below.setCell ?_ ?_ _; rotate_left; focus (first | omega | (simp <;> omega))) | (with_reducible refine Below.alloc ?_ ?_ _; rotate_left; focus (first | omega | (simp <;> omega)))))⟩

set_option maxRecDepth 100000 in
set_option maxHeartbeats 1000000 in
/-- what an edit changes a value to -/
theorem changed_any (e : Ed) (he : e.ok) (wt v m K : Nat) (fn : Nat) (caps : Array Value) (w : World) (hw : Share wt) (hz : isZ wt = false) (hv : Bd K v) (hK : 20 ≤ K) (hK2 : K ≤ 80) (hm : e.kd = 3 → Bd K m)
    (eg : ∀ args w, (callFunc fn args).run Try.prog w = .ok (.enter fn args) w)
    (hs : e.kd = 3 → ∀ W', Below w.heap.size w W' → Calls Try.prog fn caps W' fun en w' => en = .returned (.float .f32 m) ∧ Below W'.heap.size W' w') :
    Calls Try.prog 156 #[edA e, .float .f32 v, .float .f32 wt, .func (.func fn) #[] caps] w fun en w' => en = .returned (.float .f32 (chgF e wt v m)) ∧ Below w.heap.size w w' := by
  have hk : e.kd = 1 ∨ e.kd = 2 ∨ e.kd = 3 ∨ e.kd = 4 := by have := he.k1; have := he.k4; omega
  have hh := he.hh
  have ht := he.t.bd.mono hK
  have hwb := hw.bd
  have BA : Below w.heap.size w (w.alloc (.cells (edC e) 68)) := (by repeat (first | with_reducible exact Below.refl _ _ | with_reducible apply Below.drew | with_reducible refine below_drewN ?_ _ | (with_reducible refine Below.setCell ?_ ?_ _; rotate_left; focus (first | omega | (simp <;> omega))) | (with_reducible refine Below.alloc ?_ ?_ _; rotate_left; focus (first | omega | (simp <;> omega)))))
  unfold chgF
  rw [if_neg (by simp [hz])]
  clear he hz
  obtain ⟨kd, bk, X, Y, R, h, t⟩ := e
  unfold edA
  unfold edC at *
  simp only at *
  rcases hk with rfl | rfl | rfl | rfl
  · have s1 := hh.mul hwb (show 20 + 0 ≤ 100 by omega)
    have k1 := fun w' => run_float_arith (P := Try.prog) w' .mul 27 .f32 h wt _ (bits_mul hh.1 hw.1)
    have k2 := fun w' => run_float_arith (P := Try.prog) w' .add 27 .f32 v _ _ (bits_add hv.1 s1.1)
    rw [if_pos rfl]
    generalize addF v (mulF h wt) = z2 at *
    generalize mulF h wt = z1 at *
    clear hs hm hh ht hwb s1 hv hw BA
    go_enter Try.func156, Try.ntmps156
    go_wp2_with fail
    go_ret
    exact ⟨rfl, (by repeat (first | with_reducible exact Below.refl _ _ | with_reducible apply Below.drew | with_reducible refine below_drewN ?_ _ | (with_reducible refine Below.setCell ?_ ?_ _; rotate_left; focus (first | omega | (simp <;> omega))) | (with_reducible refine Below.alloc ?_ ?_ _; rotate_left; focus (first | omega | (simp <;> omega)))))⟩
  · have KM := Lib.hid (fun w' => mix_any K v t wt w' hv ht hwb hK2)
    rw [if_neg (by decide), if_pos rfl]
    generalize mixF v t wt = z at *
    clear hs hm hh ht hwb hv hw BA
    go_enter Try.func156, Try.ntmps156
    go_wp2_with fail
    refine (KM.out _).mono ?_
    rintro en w1 ⟨rfl, rfl⟩
    go_wp2_with fail
    go_ret
    exact ⟨rfl, (by repeat (first | with_reducible exact Below.refl _ _ | with_reducible apply Below.drew | with_reducible refine below_drewN ?_ _ | (with_reducible refine Below.setCell ?_ ?_ _; rotate_left; focus (first | omega | (simp <;> omega))) | (with_reducible refine Below.alloc ?_ ?_ _; rotate_left; focus (first | omega | (simp <;> omega)))))⟩
  · have KM := Lib.hid (fun w' => mix_any K v m wt w' hv (hm rfl) hwb hK2)
    have KS := Lib.hid (hs rfl _ BA)
    rw [if_neg (by decide), if_neg (by decide), if_pos rfl]
    generalize mixF v m wt = z at *
    clear hs hm hh ht hwb hv hw
    go_enter Try.func156, Try.ntmps156
    go_wp2_with fail
    refine KS.out.mono ?_
    rintro en w1 ⟨rfl, b1⟩
    have HB1 := Lib.hid (BA.trans (b1.mono BA.size))
    clear b1
    go_wp2_with fail
    refine (KM.out _).mono ?_
    rintro en w2 ⟨rfl, rfl⟩
    go_wp2_with fail
    go_ret
    exact ⟨rfl, HB1.out⟩
  · rw [if_neg (by decide), if_neg (by decide), if_neg (by decide)]
    clear hs hm hh ht hwb hv hw BA
    go_enter Try.func156, Try.ntmps156
    go_wp2_with fail
    go_ret
    exact ⟨rfl, (by repeat (first | with_reducible exact Below.refl _ _ | with_reducible apply Below.drew | with_reducible refine below_drewN ?_ _ | (with_reducible refine Below.setCell ?_ ?_ _; rotate_left; focus (first | omega | (simp <;> omega))) | (with_reducible refine Below.alloc ?_ ?_ _; rotate_left; focus (first | omega | (simp <;> omega)))))⟩
set_option maxRecDepth 100000 in
set_option maxHeartbeats 1000000 in
/-- the cell's function of an edit -/
theorem editfn_any (e : Ed) (he : e.ok) (hh : e.h < 4294967296) (g : Int → Int → Nat) (X Y : Int) (Wn Hn b c pf pe K : Nat) (x y : Int) (w : World)
    (hf : Fld w pf X Y Wn Hn (.slice (some ⟨b, 0, none⟩) (madeL g X Y Wn (Hn * Wn)).length c)) (hp : Blk w pe (edC e) 68) (hl : SRow w (some ⟨b, 0, none⟩) (madeL g X Y Wn (Hn * Wn)))
    (h1 : 1 ≤ Wn) (h2 : Wn ≤ 512) (h3 : 1 ≤ Hn) (h4 : Hn ≤ 512) (hX : -4194304 ≤ X) (hX2 : X ≤ 4194304 - Wn) (hY : -4194304 ≤ Y) (hY2 : Y ≤ 4194304 - Hn)
    (hx : X ≤ x) (hx2 : x < X + Wn) (hy : Y ≤ y) (hy2 : y < Y + Hn) (hs : e.kd = 3 → X + 1 ≤ x ∧ x < X + Wn - 1 ∧ Y + 1 ≤ y ∧ y < Y + Hn - 1) (hg : ∀ x y, Bd K (g x y)) (hK : 20 ≤ K) (hK2 : K ≤ 80) :
    Calls Try.prog 154 #[.int .i64 x, .int .i64 y, .pointer (some ⟨pf, 0, none⟩), .pointer (some ⟨pe, 0, none⟩)] w fun en w' => en = .returned (.float .f32 (edV e g x y)) ∧ Below w.heap.size w w' := by
  obtain ⟨k, hk, hkl, hv⟩ := made_cell g X Y Wn Hn hx hx2 hy hy2
  obtain ⟨_, _, bp, r1, r2, _⟩ := brush_zero he.b
  have KW := Lib.hid (fun w => Weight_in e.bk e.X e.Y e.R e.h x y w hh he.b (placeE_of (by omega)) ⟨bp, by omega, r1, r2⟩)
  have KC := Lib.hid (fun (hz : isZ (e.wt x y) = false) (W : World) (pk : Nat) (hfW : Fld W pf X Y Wn Hn (.slice (some ⟨b, 0, none⟩) (madeL g X Y Wn (Hn * Wn)).length c)) (hkW : Blk W pk #[.int .i64 (k : Int)] 3) (hlW : SRow W (some ⟨b, 0, none⟩) (madeL g X Y Wn (Hn * Wn))) =>
    changed_any e he (e.wt x y) (g x y) (avgAt g x y) K 157 #[.pointer (some ⟨pf, 0, none⟩), .pointer (some ⟨pk, 0, none⟩)] W (he.wts x y) hz (hg x y) hK hK2 (fun _ => (avg_bd (hg _ _) (hg _ _) (hg _ _) (hg _ _) hK2).2.2.2)
      (enters_of Try.func157 (by kernel_rfl) rfl)
      (fun h3 W' hb' => by
        obtain ⟨s1, s2, s3, s4⟩ := hs h3
        obtain ⟨q1, q2, q3, q4, q5, q6, q7, q8⟩ := made_nbrs g X Y Wn Hn s1 s2 s3 s4 k hk
        have := softfn_any X Y Wn Hn b 0 c pf pk k K (madeL g X Y Wn (Hn * Wn)) W' (hfW.below hb' hfW.lt) (hkW.below hb' hkW.lt) (hlW.below hb') q1 q2 (by rw [madeL_len]; exact q3) (by rw [madeL_len]; exact q4) h2 (made_bd hg _ _ _ _) hK2
        rw [q5, q6, q7, q8] at this
        exact this))
  have hm := Nat.mul_le_mul h4 h2
  have hd := hl.at_ (k := k) (by rw [madeL_len]; exact hkl)
  rw [hv, Nat.zero_add] at hd
  have hkl' : (k : Int) < ((madeL g X Y Wn (Hn * Wn)).length : Int) := by rw [madeL_len]; omega
  have hll : ((madeL g X Y Wn (Hn * Wn)).length : Int) ≤ 1099511627776 := by have := hl.1.1; omega
  have hez : isZ (e.wt x y) = true → edV e g x y = g x y := fun hz => by unfold edV chgF; rw [if_pos hz]
  unfold edV at *
  unfold Ed.wt at *
  obtain ⟨a1, a2, a3, a4⟩ := cellNo_in (show (1 : Int) ≤ Wn by omega) (by omega) (show (1 : Int) ≤ Hn by omega) (by omega) hx hx2 hy hy2
  have ek : (y - Y) * Wn + x - X = (k : Int) := hk
  have HF := Lib.hid hf
  have HP := Lib.hid hp
  have HL := Lib.hid hl
  clear hf hp hl hs hg hv hk he hh a3 a4 bp r1 r2
  generalize chgF e (weightF e.bk (sqD x y e.X e.Y) e.R) (g x y) (avgAt g x y) = z at *
  generalize weightF e.bk (sqD x y e.X e.Y) e.R = wt at *
  generalize g x y = v at *
  generalize hM : (y - Y) * (Wn : Int) = M at *
  generalize madeL g X Y Wn (Hn * Wn) = l at *
  obtain ⟨kd, bk, BX, BY, R, h, t⟩ := e
  unfold edA at KC
  unfold edC at KC HP
  simp only at *
  have BA : Below w.heap.size w (w.alloc (.cells #[.int .i64 (k : Int)] 3)) := (by repeat (first | with_reducible exact Below.refl _ _ | with_reducible apply Below.drew | with_reducible refine below_drewN ?_ _ | (with_reducible refine Below.setCell ?_ ?_ _; rotate_left; focus (first | omega | (simp <;> omega))) | (with_reducible refine Below.alloc ?_ ?_ _; rotate_left; focus (first | omega | (simp <;> omega)))))
  have BK := Blk.new w #[.int .i64 (k : Int)] 3
  obtain ⟨c0, c1, c2, c3, c4⟩ := HF.out.cells
  have HP1 := HP
  have p0 : w.cell? ⟨pe, 0, none⟩ = some (.int .i64 kd) := HP1.out.cell 0
  have p1 : w.cell? ⟨pe, 1, none⟩ = some (.int .i64 bk) := HP1.out.cell 1
  have p2 : w.cell? ⟨pe, 2, none⟩ = some (.int .i64 BX) := HP1.out.cell 2
  have p3 : w.cell? ⟨pe, 3, none⟩ = some (.int .i64 BY) := HP1.out.cell 3
  have p4 : w.cell? ⟨pe, 4, none⟩ = some (.int .i64 R) := HP1.out.cell 4
  have p5 : w.cell? ⟨pe, 5, none⟩ = some (.float .f32 h) := HP1.out.cell 5
  have p6 : w.cell? ⟨pe, 6, none⟩ = some (.float .f32 t) := HP1.out.cell 6
  have lpe := HP1.out.lt
  have lpf := HF.out.lt
  go_enter Try.func154, Try.ntmps154
  go_wp2_with fail
  generalize w.alloc (.cells #[.int .i64 (k : Int)] 3) = W0 at *
  refine (KW.out _).mono ?_
  rintro en w1 ⟨rfl, b1⟩
  have HF1 := Lib.hid ((HF.out.below BA HF.out.lt).below b1 (Nat.lt_of_lt_of_le HF.out.lt BA.size))
  clear p0 p1 p2 p3 p4 p5 p6 lpe c0 c1 c2 c3 c4 HP1
  have HP1 := Lib.hid ((HP.out.below BA HP.out.lt).below b1 (Nat.lt_of_lt_of_le HP.out.lt BA.size))
  have HL1 := Lib.hid ((HL.out.below BA).below b1)
  have HK1 := Lib.hid (BK.below b1 BK.lt)
  have hd1 := (b1.cell (p := ⟨b, k, none⟩) (World.block_lt_of_cell? W0 _ ((BA.cell (World.block_lt_of_cell? w _ hd)).trans hd))).trans ((BA.cell (World.block_lt_of_cell? w _ hd)).trans hd)
  have HB1 := Lib.hid (BA.trans (b1.mono BA.size))
  clear b1 BA BK hd
  obtain ⟨c0, c1, c2, c3, c4⟩ := HF1.out.cells
  have p0 : w1.cell? ⟨pe, 0, none⟩ = some (.int .i64 kd) := HP1.out.cell 0
  have p1 : w1.cell? ⟨pe, 1, none⟩ = some (.int .i64 bk) := HP1.out.cell 1
  have p2 : w1.cell? ⟨pe, 2, none⟩ = some (.int .i64 BX) := HP1.out.cell 2
  have p3 : w1.cell? ⟨pe, 3, none⟩ = some (.int .i64 BY) := HP1.out.cell 3
  have p4 : w1.cell? ⟨pe, 4, none⟩ = some (.int .i64 R) := HP1.out.cell 4
  have p5 : w1.cell? ⟨pe, 5, none⟩ = some (.float .f32 h) := HP1.out.cell 5
  have p6 : w1.cell? ⟨pe, 6, none⟩ = some (.float .f32 t) := HP1.out.cell 6
  have lpe := HP1.out.lt
  have kc : w1.cell? ⟨w.heap.size, 0, none⟩ = some (.int .i64 (k : Int)) := HK1.out.cell 0
  have lpk := HK1.out.lt
  clear lpf
  have lpf := HF1.out.lt
  have lb := World.block_lt_of_cell? w1 _ hd1
  simp only at lb
  by_cases hz : isZ wt = true
  · obtain rfl := hez hz
    unfold isZ at hz
    clear hez KC
    go_wp2_with fail
    go_ret
    exact ⟨rfl, HB1.out⟩
  · have hz' : isZ wt = false := by simpa using hz
    have KC1 := Lib.hid (KC.out hz')
    unfold isZ at hz'
    clear hez KC hz
    go_wp2_with fail
    go_region_held3 (fun w' => w'.cell? ⟨pe, 0, none⟩ = some (.int .i64 kd) ∧ w'.cell? ⟨pe, 1, none⟩ = some (.int .i64 bk) ∧ w'.cell? ⟨pe, 2, none⟩ = some (.int .i64 BX) ∧ w'.cell? ⟨pe, 3, none⟩ = some (.int .i64 BY) ∧ w'.cell? ⟨pe, 4, none⟩ = some (.int .i64 R) ∧ w'.cell? ⟨pe, 5, none⟩ = some (.float .f32 h) ∧ w'.cell? ⟨pe, 6, none⟩ = some (.float .f32 t) ∧ w'.cell? ⟨pf, 4, none⟩ = some (.slice (some ⟨b, 0, none⟩) l.length c) ∧ w'.cell? ⟨w.heap.size, 0, none⟩ = some (.int .i64 (k : Int)) ∧ w'.cell? ⟨b, k, none⟩ = some (.float .f32 v) ∧ Below w1.heap.size w1 w')
      (first
        | exact ⟨p0, p1, p2, p3, p4, p5, p6, c4, kc, hd1, (Below.refl _ _).drew⟩
        | (go_split_ands
           have hs := hb.size
           have hs2 := (show Below w1.heap.size w1 _ by assumption).size
           refine ⟨?_, ?_, ?_, ?_, ?_, ?_, ?_, ?_, ?_, ?_, ?_⟩
           all_goals first
             | (rw [hb.cell (by simp; omega)]; assumption)
             | exact Below.trans (by assumption) (hb.mono (by omega)))
        | (go_split_ands; refine ⟨?_, ?_, ?_, ?_, ?_, ?_, ?_, ?_, ?_, ?_, ?_⟩ <;> assumption))
      ((go_at_call 156; go_split_ands; refine (KC1.out _ _ (HF1.out.below (by assumption) HF1.out.lt) (HK1.out.below (by assumption) HK1.out.lt) (HL1.out.below (by assumption))).mono ?_; rintro e2 w5 ⟨rfl, hb⟩))
    rename_i hHeld
    have HBE := Lib.hid (HB1.out.trans (hHeld.2.2.2.2.2.2.2.2.2.2.mono HB1.out.size))
    clear hHeld
    go_wp2_with fail
    go_ret
    exact ⟨rfl, HBE.out⟩
end Go.Proofs.Ytfmbekdfigbfiaa

namespace Ieee
namespace Format
open Go

/-- finite, and at most n times the greatest height -/
def Hn (n : Nat) (x : Nat) : Prop := single.fin x ∧ -((n : Rat) * P2 20) ≤ single.V x ∧ single.V x ≤ (n : Rat) * P2 20
theorem const_nat (n : Nat) (hn : n < 16777216) : ∃ c, single.fin c ∧ single.V c = (n : Rat) * P2 20 ∧ single.sgn c = false := by
  have r : single.Rounds ((n : Rat) * P2 20) false (single.write (.number false n 20)) := single.write_rounds single_fb false n 20 (by simp [sg])
  exact ⟨_, r.exact (n : Int) 20 (by omega) (by omega) (by decide) (by decide) (by rw [Rat.intCast_natCast])⟩
theorem Hn.one {x : Nat} (h : Bd 20 x) : Hn 1 x := by
  obtain ⟨a, b, c⟩ := h
  have e : ((1 : Nat) : Rat) * P2 20 = P2 20 := by rw [show ((1 : Nat) : Rat) = 1 from rfl, Rat.one_mul]
  exact ⟨a, by rw [e]; exact b, by rw [e]; exact c⟩
theorem Hn.add {n x y : Nat} (hx : Hn n x) (hy : Bd 20 y) (hn : n + 1 < 16777216) : Hn (n + 1) (addF x y) := by
  have r := (addF_spec hx.1 hy.1).2
  obtain ⟨c, fc, vc, sc⟩ := const_nat (n + 1) hn
  obtain ⟨_, x1, x2⟩ := hx
  obtain ⟨_, y1, y2⟩ := hy
  have e : ((n + 1 : Nat) : Rat) * P2 20 = (n : Rat) * P2 20 + P2 20 := by
    rw [show ((n + 1 : Nat) : Rat) = (n : Rat) + 1 from by exact_mod_cast rfl, Rat.add_mul, Rat.one_mul]
  have z : P2 ((20 : Nat) : Int) = P2 20 := rfl
  rw [z] at y1 y2
  have := r.bound fc sc (by rw [vc, e]; grind) (by rw [vc, e]; grind)
  rw [vc] at this
  exact ⟨this.1, this.2.2.1, this.2.1⟩

/-- 'float32(n)' of any integer -/
theorem conv_rounds (n : Int) : single.Rounds (n : Rat) (decide (n < 0)) (floatOfInt .f32 n) := by
  have e : sg (decide (n < 0)) * (((n.natAbs : Nat) : Rat) * P2 0) = (n : Rat) := by
    rw [P2_zero, Rat.mul_one]
    by_cases c : n < 0
    · have e : ((n.natAbs : Nat) : Rat) = -((n : Int) : Rat) := by
        rw [← Rat.intCast_natCast, show (n.natAbs : Int) = -n from by omega, Rat.intCast_neg]
      rw [e]; simp [c, sg]; grind
    · have e : ((n.natAbs : Nat) : Rat) = ((n : Int) : Rat) := by
        rw [← Rat.intCast_natCast, show (n.natAbs : Int) = n from by omega]
      rw [e]; simp [c, sg]
  exact single.write_rounds single_fb (decide (n < 0)) n.natAbs 0 e
theorem conv_big {n : Int} {k : Nat} (hk : k ≤ 100) (h1 : -((2 ^ k : Nat) : Int) ≤ n) (h2 : n ≤ ((2 ^ k : Nat) : Int)) : Bd k (floatOfInt .f32 n) := by
  have r := conv_rounds n
  have e : P2 k = (((2 ^ k : Nat) : Int) : Rat) := by rw [P2_nat, Rat.intCast_natCast]
  refine r.bd hk ?_ ?_
  · rw [e]; exact Rat.intCast_le_intCast.2 h2
  · rw [e, ← Rat.intCast_neg]; exact Rat.intCast_le_intCast.2 h1
theorem conv_nonneg {n : Int} {k : Nat} (hk : k ≤ 100) (h1 : 0 ≤ n) (h2 : n ≤ ((2 ^ k : Nat) : Int)) : 0 ≤ single.V (floatOfInt .f32 n) := by
  have h0 : (0 : Int) ≤ ((2 ^ k : Nat) : Int) := by omega
  exact (conv_rounds n).nonneg (conv_big hk (by omega) h2).1 (Rat.intCast_nonneg.2 h1)
/-- exact up to 2^24 itself -/
theorem conv_24 {n : Int} (h1 : 1 ≤ n) (h2 : n ≤ 16777216) : single.fin (floatOfInt .f32 n) ∧ single.V (floatOfInt .f32 n) = (n : Rat) ∧ single.sgn (floatOfInt .f32 n) = false := by
  have d : decide (n < 0) = false := decide_eq_false (by omega)
  have r := conv_rounds n
  rw [d] at r
  by_cases c : n = 16777216
  · subst c
    exact r.exact 1 24 (by decide) (by decide) (by decide) (by decide) (by rw [show P2 24 = ((2 ^ 24 : Nat) : Rat) from P2_nat 24]; decide +kernel)
  · exact r.exact n 0 (by omega) (by omega) (by decide) (by decide) (by rw [P2_zero, Rat.mul_one])
/-- the sign is kept -/
theorem Rounds.nonpos {x : Rat} {s : Bool} {w : Nat} (h : single.Rounds x s w) (fw : single.fin w) (h0 : x ≤ 0) : single.V w ≤ 0 := by
  obtain ⟨r, rfl, hr⟩ := h
  have lt := (single.fin_word_iff s r).1 fw
  rw [single.V_word lt]
  have p := single.rv_nonneg r
  cases s
  · have h1 := hr.2.2
    simp [sg] at h1
    have x0 : x = 0 := by grind
    subst x0
    have hz : single.Near (single.rv 0) r := by rw [single.rv_zero]; simpa [sg] using hr
    have := hz.eq_of
    subst this
    rw [single.rv_zero]
    simp [sg]
  · simp [sg]; grind
theorem div_nonpos {x y : Nat} (hx : single.fin x) (hy : single.fin y) (h0 : 0 < single.V y) (fd : single.fin (divF x y)) (h1 : single.V x ≤ 0) : single.V (divF x y) ≤ 0 := by
  have hr := (divF_spec hx hy (by intro e; rw [e] at h0; exact absurd h0 (by grind))).2
  have e : single.V x / single.V y * single.V y = single.V x := Rat.div_mul_cancel (by grind)
  exact hr.nonpos fd (mul_le_cancel h0 (by rw [e]; grind))
end Format
end Ieee

namespace Ieee
namespace Format
open Go

/-- finite, and at most n times 2^e -/
def He (e n : Nat) (x : Nat) : Prop := single.fin x ∧ -((n : Rat) * P2 e) ≤ single.V x ∧ single.V x ≤ (n : Rat) * P2 e
theorem const_nat_e (e n : Nat) (he : e ≤ 100) (hn : n < 16777216) : ∃ c, single.fin c ∧ single.V c = (n : Rat) * P2 e ∧ single.sgn c = false := by
  have r : single.Rounds ((n : Rat) * P2 e) false (single.write (.number false n e)) := single.write_rounds single_fb false n e (by simp [sg])
  exact ⟨_, r.exact (n : Int) e (by omega) (by omega) (by omega) (by omega) (by rw [Rat.intCast_natCast])⟩
theorem He.one {e x : Nat} (h : Bd e x) : He e 1 x := by
  obtain ⟨a, b, c⟩ := h
  have q : ((1 : Nat) : Rat) * P2 e = P2 e := by rw [show ((1 : Nat) : Rat) = 1 from rfl, Rat.one_mul]
  exact ⟨a, by rw [q]; exact b, by rw [q]; exact c⟩
theorem He.add {e n x y : Nat} (hx : He e n x) (hy : Bd e y) (he : e ≤ 100) (hn : n + 1 < 16777216) : He e (n + 1) (addF x y) := by
  have r := (addF_spec hx.1 hy.1).2
  obtain ⟨c, fc, vc, sc⟩ := const_nat_e e (n + 1) he hn
  obtain ⟨_, x1, x2⟩ := hx
  obtain ⟨_, y1, y2⟩ := hy
  have q : ((n + 1 : Nat) : Rat) * P2 e = (n : Rat) * P2 e + P2 e := by
    rw [show ((n + 1 : Nat) : Rat) = (n : Rat) + 1 from by exact_mod_cast rfl, Rat.add_mul, Rat.one_mul]
  have := r.bound fc sc (by rw [vc, q]; grind) (by rw [vc, q]; grind)
  rw [vc] at this
  exact ⟨this.1, this.2.2.1, this.2.1⟩
/-- what is at most 2^12 times 2^e is at most 2^(e+12) -/
theorem He.bd {e n x : Nat} (h : He e n x) (hn : n ≤ 4096) : Bd (e + 12) x := by
  obtain ⟨a, b, c⟩ := h
  have p := P2_pos (e : Int)
  have q : P2 ((e + 12 : Nat) : Int) = 4096 * P2 e := by
    rw [show ((e + 12 : Nat) : Int) = 12 + (e : Int) from by omega, P2_add, show P2 12 = ((2 ^ 12 : Nat) : Rat) from P2_nat 12]
    rfl
  have hq : (n : Rat) ≤ 4096 := by exact_mod_cast hn
  have := Rat.mul_le_mul_of_nonneg_right hq (Rat.le_of_lt p)
  exact ⟨a, by rw [q]; grind, by rw [q]; grind⟩
end Format
end Ieee

namespace Ieee
namespace Format
open Go

/-- finite, and at most c in magnitude -/
def Wi (c : Rat) (x : Nat) : Prop := single.fin x ∧ -c ≤ single.V x ∧ single.V x ≤ c
/-- how far a rounded number lies from the number -/
theorem Rounds.err {x : Rat} {s : Bool} {w c : Nat} {e : Int} (h : single.Rounds x s w) (fc : single.fin c) (hc : single.sgn c = false) (h1 : x ≤ single.V c) (h2 : -single.V c ≤ x)
    (hr : ∀ r, r < single.rung c → single.rplace r ≤ e) : single.fin w ∧ 2 * single.V w ≤ 2 * x + P2 e ∧ 2 * x ≤ 2 * single.V w + P2 e := by
  obtain ⟨fw, _, _, hle, _⟩ := h.bound fc hc h1 h2
  refine ⟨fw, ?_⟩
  obtain ⟨r, rfl, hn⟩ := h
  have hlt : r < single.infRung := (single.fin_word_iff s r).1 fw
  rw [single.V_word hlt]
  rw [single.rung_word s (single.min_lt_sw r), Nat.min_eq_left (Nat.le_of_lt hlt)] at hle
  have hv : sg s * x ≤ single.rv (single.rung c) := by
    rw [← V_pos_word hc]
    cases s <;> simp [sg] <;> grind
  have key : 2 * single.rv r ≤ 2 * (sg s * x) + P2 e ∧ 2 * (sg s * x) ≤ 2 * single.rv r + P2 e := by
    rcases Nat.lt_or_ge r (single.rung c) with hlt2 | hge
    · obtain ⟨a, b⟩ := hn.off
      have := P2_mono (hr r hlt2)
      grind
    · obtain rfl : r = single.rung c := by omega
      have hp := P2_pos e
      refine ⟨?_, by grind⟩
      rcases hn.2.1 with h0 | h0
      · rw [h0, single.rv_zero]
        have := hn.2.2
        grind
      · rcases Nat.eq_zero_or_pos (single.rung c) with hz | hz
        · rw [hz, single.rv_zero]
          have := hn.2.2
          grind
        · have h3 : single.rv (single.rung c - 1) + single.rv (single.rung c) ≤ 2 * (sg s * x) := by
            split at h0
            · exact h0
            · exact Rat.le_of_lt h0
          have h4 := single.rv_succ (single.rung c - 1)
          rw [show single.rung c - 1 + 1 = single.rung c from by omega] at h4
          have := P2_mono (hr (single.rung c - 1) (by omega))
          grind
  cases s <;> simp [sg] at key ⊢ <;> grind
theorem place_le {r R : Nat} {e : Int} (he : single.rplace R = e) : ∀ q, q < r → r ≤ R + 1 → single.rplace q ≤ e := fun q hq hr => by
  rw [← he]; exact single.rplace_mono (by omega)
theorem const_4 : single.fin 1082130432 ∧ single.V 1082130432 = 4 ∧ single.sgn 1082130432 = false := by
  have := V_const false 128 8388608 (.inr (by decide)) (by decide) (by decide)
  rw [show single.word false (128 * 8388608 + 8388608) = 1082130432 from by decide] at this
  refine ⟨this.1, ?_, this.2.2⟩
  rw [this.2.1, show ((128 : Nat) : Int) - 149 = -21 from rfl, show ((8388608 : Nat) : Rat) = P2 23 from (P2_nat 23).symm, ← P2_add]
  simp [sg]
  exact P2_nat 2
theorem const_8 : single.fin 1090519040 ∧ single.V 1090519040 = 8 ∧ single.sgn 1090519040 = false := by
  have := V_const false 129 8388608 (.inr (by decide)) (by decide) (by decide)
  rw [show single.word false (129 * 8388608 + 8388608) = 1090519040 from by decide] at this
  refine ⟨this.1, ?_, this.2.2⟩
  rw [this.2.1, show ((129 : Nat) : Int) - 149 = -20 from rfl, show ((8388608 : Nat) : Rat) = P2 23 from (P2_nat 23).symm, ← P2_add]
  simp [sg]
  exact P2_nat 3
/-- numbers of at most M are rounded by at most d, and stay at most M -/
def Near1 (M d : Rat) : Prop := ∀ (x : Rat) (s : Bool) (w : Nat), single.Rounds x s w → x ≤ M → -M ≤ x → single.fin w ∧ single.V w ≤ x + d ∧ x ≤ single.V w + d ∧ single.V w ≤ M ∧ -M ≤ single.V w
theorem near_of {c : Nat} {M : Rat} (e d : Int) (R : Nat) (hd : d = e - 1) (hc : single.fin c ∧ single.V c = M ∧ single.sgn c = false) (hR : c % 2147483648 = R + 1) (he : single.rplace R = e) : Near1 M (P2 d) := by
  subst hd
  intro x s w h h1 h2
  obtain ⟨fc, vc, sc⟩ := hc
  rw [← vc] at h1 h2
  have h3 := h.err fc sc h1 h2 (fun r hr => place_le he r (by rw [rung_lit, hR] at hr; exact hr) (Nat.le_refl _))
  have h4 := h.bound fc sc h1 h2
  rw [vc] at h4
  have h5 := P2_double e
  exact ⟨h3.1, by grind, by grind, h4.2.1, h4.2.2.1⟩
theorem place_at (l k : Nat) (h : k < 8388608) : single.rplace ((l + 1) * 8388608 + k) = -149 + (l : Int) := by
  unfold rplace
  have e1 : single.binade = 8388608 := by decide
  have e2 : single.leastPlace = -149 := by decide
  rw [e1, e2, if_neg (by omega), show ((l + 1) * 8388608 + k) / 8388608 = l + 1 from by omega]
  simp
theorem place_2 : single.rplace 1073741823 = -23 := by
  rw [show (1073741823 : Nat) = (126 + 1) * 8388608 + 8388607 from by omega, place_at _ _ (by omega)]; rfl
theorem place_4 : single.rplace 1082130431 = -22 := by
  rw [show (1082130431 : Nat) = (127 + 1) * 8388608 + 8388607 from by omega, place_at _ _ (by omega)]; rfl
theorem place_8 : single.rplace 1090519039 = -21 := by
  rw [show (1090519039 : Nat) = (128 + 1) * 8388608 + 8388607 from by omega, place_at _ _ (by omega)]; rfl
theorem near_2 : Near1 2 (P2 (-24)) := near_of (-23) (-24) 1073741823 (by omega) const_2 (by omega) place_2
theorem near_4 : Near1 4 (P2 (-23)) := near_of (-22) (-23) 1082130431 (by omega) const_4 (by omega) place_4
theorem near_8 : Near1 8 (P2 (-22)) := near_of (-21) (-22) 1090519039 (by omega) const_8 (by omega) place_8
theorem mix_lin {c dM U A B D P : Rat} (u0 : 0 ≤ U) (u1 : U ≤ 1) (hd : 0 ≤ dM) (a1 : -c ≤ A) (a2 : A ≤ c) (b1 : -c ≤ B) (b2 : B ≤ c) (D1 : D ≤ B - A + dM) (D2 : B - A ≤ D + dM) (P1 : P ≤ D * U + dM) (P2 : D * U ≤ P + dM) :
    A + P ≤ c + 2 * dM ∧ -(c + 2 * dM) ≤ A + P := by
  have e0 : 0 ≤ 1 - U := by grind
  have q1 := Rat.mul_le_mul_of_nonneg_right a2 e0
  have q2 := Rat.mul_le_mul_of_nonneg_right a1 e0
  have q3 := Rat.mul_le_mul_of_nonneg_right b2 u0
  have q4 := Rat.mul_le_mul_of_nonneg_right b1 u0
  have q5 := Rat.mul_le_mul_of_nonneg_right D1 u0
  have q6 := Rat.mul_le_mul_of_nonneg_right D2 u0
  have q7 := Rat.mul_le_mul_of_nonneg_left u1 hd
  constructor <;> grind
/-- between two numbers -/
theorem mix_wi {c M N dM dN : Rat} {a b u : Nat} (KM : Near1 M dM) (KN : Near1 N dN) (ha : Wi c a) (hb : Wi c b) (hu : single.fin u) (u0 : 0 ≤ single.V u) (u1 : single.V u ≤ 1) (hM : 2 * c ≤ M) (hN : c + 2 * dM ≤ N) (hd : 0 ≤ dM) (hM0 : 0 ≤ M) :
    single.fin (subF b a) ∧ single.fin (mulF (subF b a) u) ∧ Wi (c + 2 * dM + dN) (mixF a b u) := by
  obtain ⟨fa, a1, a2⟩ := ha
  obtain ⟨fb, b1, b2⟩ := hb
  obtain ⟨fD, D1, D2, D3, D4⟩ := KM _ _ _ (subF_spec fb fa).2 (by grind) (by grind)
  have m1 := Rat.mul_le_mul_of_nonneg_right D3 u0
  have m2 := Rat.mul_le_mul_of_nonneg_right D4 u0
  have m3 := Rat.mul_le_mul_of_nonneg_left u1 hM0
  obtain ⟨fP, P1, P2, _, _⟩ := KM _ _ _ (mulF_spec fD hu).2 (by grind) (by grind)
  obtain ⟨s1, s2⟩ := mix_lin u0 u1 hd a1 a2 b1 b2 D1 D2 P1 P2
  obtain ⟨fS, S1, S2, _, _⟩ := KN _ _ _ (addF_spec fa fP).2 (by grind) (by grind)
  exact ⟨fD, fP, fS, by unfold mixF; grind, by unfold mixF; grind⟩
/-- the noise of values: three steps between numbers of at most 1 -/
theorem value_wi {a b c d u v : Nat} (ha : Wi 1 a) (hb : Wi 1 b) (hc : Wi 1 c) (hd : Wi 1 d) (hu : single.fin u) (u0 : 0 ≤ single.V u) (u1 : single.V u ≤ 1) (hv : single.fin v) (v0 : 0 ≤ single.V v) (v1 : single.V v ≤ 1) :
    Wi (1 + 8 * P2 (-24)) (mixF (mixF a b u) (mixF c d u) v) := by
  have p := P2_pos (-24)
  have q : P2 (-23) = 2 * P2 (-24) := P2_double (-23)
  have r : 16777216 * P2 (-24) = 1 := by
    have := P2_add 24 (-24)
    rw [show P2 24 = ((2 ^ 24 : Nat) : Rat) from P2_nat 24] at this
    rw [show (24 : Int) + -24 = 0 from rfl, P2_zero] at this
    rw [this]; rfl
  have h1 := (mix_wi near_2 near_2 ha hb hu u0 u1 (by grind) (by grind) (by grind) (by grind)).2.2
  have h2 := (mix_wi near_2 near_2 hc hd hu u0 u1 (by grind) (by grind) (by grind) (by grind)).2.2
  have h3 := (mix_wi near_4 near_2 h1 h2 hv v0 v1 (by grind) (by grind) (by grind) (by grind)).2.2
  obtain ⟨f, x, y⟩ := h3
  exact ⟨f, by grind, by grind⟩
/-- the noise of directions -/
theorem grad_wi {a b c d u v : Nat} (ha : Wi 2 a) (hb : Wi 2 b) (hc : Wi 2 c) (hd : Wi 2 d) (hu : single.fin u) (u0 : 0 ≤ single.V u) (u1 : single.V u ≤ 1) (hv : single.fin v) (v0 : 0 ≤ single.V v) (v1 : single.V v ≤ 1) :
    Wi (2 + 16 * P2 (-24)) (mixF (mixF a b u) (mixF c d u) v) := by
  have p := P2_pos (-24)
  have q : P2 (-23) = 2 * P2 (-24) := P2_double (-23)
  have q2 : P2 (-22) = 2 * P2 (-23) := P2_double (-22)
  have r : 16777216 * P2 (-24) = 1 := by
    have := P2_add 24 (-24)
    rw [show P2 24 = ((2 ^ 24 : Nat) : Rat) from P2_nat 24] at this
    rw [show (24 : Int) + -24 = 0 from rfl, P2_zero] at this
    rw [this]; rfl
  have h1 := (mix_wi near_4 near_4 ha hb hu u0 u1 (by grind) (by grind) (by grind) (by grind)).2.2
  have h2 := (mix_wi near_4 near_4 hc hd hu u0 u1 (by grind) (by grind) (by grind) (by grind)).2.2
  have h3 := (mix_wi near_8 near_4 h1 h2 hv v0 v1 (by grind) (by grind) (by grind) (by grind)).2.2
  obtain ⟨f, x, y⟩ := h3
  exact ⟨f, by grind, by grind⟩
end Format
end Ieee

namespace Ieee
namespace Format
open Go

/-! ### twice a number, exactly -/
theorem rv_dbl (r : Nat) : ∃ r2, single.rv r2 = 2 * single.rv r ∧ r ≤ r2 := by
  have e1 : single.binade = 8388608 := by decide
  rcases Nat.lt_or_ge r 8388608 with h | h
  · refine ⟨2 * r, ?_, by omega⟩
    have a := single.rv_at 0 r (.inl rfl) (by rw [e1]; omega)
    have b := single.rv_at 0 (2 * r) (.inl rfl) (by rw [e1]; omega)
    rw [Nat.zero_mul, Nat.zero_add] at a b
    rw [a, b, Rat.natCast_mul]
    have : ((2 : Nat) : Rat) = 2 := rfl
    rw [this]; grind
  · obtain ⟨l, k, hr, hk, hk2⟩ : ∃ l k : Nat, r = l * 8388608 + k ∧ 8388608 ≤ k ∧ k ≤ 2 * 8388608 := ⟨r / 8388608 - 1, r - (r / 8388608 - 1) * 8388608, by omega, by omega, by omega⟩
    refine ⟨r + 8388608, ?_, by omega⟩
    have a := single.rv_at l k (.inr (by rw [e1]; omega)) (by rw [e1]; omega)
    have b := single.rv_at (l + 1) k (.inr (by rw [e1]; omega)) (by rw [e1]; omega)
    rw [e1] at a b
    rw [hr, show l * 8388608 + k + 8388608 = (l + 1) * 8388608 + k from by omega, a, b]
    have d : P2 (single.leastPlace + ((l + 1 : Nat) : Int)) = 2 * P2 (single.leastPlace + (l : Int)) := by
      have := P2_double (single.leastPlace + ((l + 1 : Nat) : Int))
      rw [this]
      congr 2
      omega
    rw [d]; grind
theorem word_dbl {x : Nat} (fx : single.fin x) (hx : single.sgn x = false) (hb : single.V x ≤ P2 100) : ∃ c, single.fin c ∧ single.sgn c = false ∧ single.V c = 2 * single.V x := by
  obtain ⟨r2, h, _⟩ := rv_dbl (single.rung x)
  rw [V_pos_word hx] at hb ⊢
  have lt : r2 < single.infRung := by
    refine (single.rv_lt_iff).1 ?_
    rw [h, rv_inf]
    have p := P2_lt (show (101 : Int) < 128 by omega)
    have d : P2 101 = 2 * P2 100 := P2_double 101
    grind
  refine ⟨single.word false (min r2 single.infRung), (single.fin_word_iff false r2).2 lt, single.sgn_word false (single.min_lt_sw r2), ?_⟩
  rw [single.V_word lt, h]
  simp [sg]
theorem add_dbl {a b m : Nat} (fa : single.fin a) (fb : single.fin b) (fm : single.fin m) (sm : single.sgn m = false) (hm : single.V m ≤ P2 100) (a1 : single.V a ≤ single.V m) (a2 : -single.V m ≤ single.V a) (b1 : single.V b ≤ single.V m) (b2 : -single.V m ≤ single.V b) :
    single.fin (addF a b) ∧ single.V (addF a b) ≤ 2 * single.V m ∧ -(2 * single.V m) ≤ single.V (addF a b) := by
  obtain ⟨c, fc, sc, vc⟩ := word_dbl fm sm hm
  have h := (addF_spec fa fb).2.bound fc sc (by rw [vc]; grind) (by rw [vc]; grind)
  rw [vc] at h
  exact ⟨h.1, h.2.1, h.2.2.1⟩
theorem sub_dbl {a b m : Nat} (fa : single.fin a) (fb : single.fin b) (fm : single.fin m) (sm : single.sgn m = false) (hm : single.V m ≤ P2 100) (a1 : single.V a ≤ single.V m) (a2 : -single.V m ≤ single.V a) (b1 : single.V b ≤ single.V m) (b2 : -single.V m ≤ single.V b) :
    single.fin (subF a b) ∧ single.V (subF a b) ≤ 2 * single.V m ∧ -(2 * single.V m) ≤ single.V (subF a b) := by
  obtain ⟨c, fc, sc, vc⟩ := word_dbl fm sm hm
  have h := (subF_spec fa fb).2.bound fc sc (by rw [vc]; grind) (by rw [vc]; grind)
  rw [vc] at h
  exact ⟨h.1, h.2.1, h.2.2.1⟩
theorem const_qtr : single.fin 1048576000 ∧ single.V 1048576000 = 1 / 4 ∧ single.sgn 1048576000 = false := by
  have := V_const false 124 8388608 (.inr (by decide)) (by decide) (by decide)
  rw [show single.word false (124 * 8388608 + 8388608) = 1048576000 from by decide] at this
  refine ⟨this.1, ?_, this.2.2⟩
  rw [this.2.1, show ((124 : Nat) : Int) - 149 = -25 from rfl, show ((8388608 : Nat) : Rat) = P2 23 from (P2_nat 23).symm, ← P2_add]
  simp [sg]
  have d : P2 0 = 2 * P2 (-1) := P2_double 0
  have d2 : P2 (-1) = 2 * P2 (-2) := P2_double (-1)
  rw [P2_zero] at d
  have : P2 (23 + -25) = P2 (-2) := rfl
  grind
/-- a quarter of four numbers -/
def downF (a b c d : Nat) : Nat := mulF (addF (addF a b) (addF c d)) 1048576000
theorem down_bd {a b c d m : Nat} (fa : single.fin a) (fb : single.fin b) (fc : single.fin c) (fd : single.fin d) (fm : single.fin m) (sm : single.sgn m = false) (hm : single.V m ≤ P2 99) (a1 : single.V a ≤ single.V m) (a2 : -single.V m ≤ single.V a) (b1 : single.V b ≤ single.V m) (b2 : -single.V m ≤ single.V b)
    (c1 : single.V c ≤ single.V m) (c2 : -single.V m ≤ single.V c) (d1 : single.V d ≤ single.V m) (d2 : -single.V m ≤ single.V d) :
    single.fin (addF a b) ∧ single.fin (addF c d) ∧ single.fin (addF (addF a b) (addF c d)) ∧ single.fin (downF a b c d) ∧ single.V (downF a b c d) ≤ single.V m ∧ -single.V m ≤ single.V (downF a b c d) := by
  have p : P2 100 = 2 * P2 99 := P2_double 100
  have p0 := P2_pos 99
  obtain ⟨f1, x1, x2⟩ := add_dbl fa fb fm sm (by grind) a1 a2 b1 b2
  obtain ⟨f2, y1, y2⟩ := add_dbl fc fd fm sm (by grind) c1 c2 d1 d2
  obtain ⟨m2, fm2, sm2, vm2⟩ := word_dbl fm sm (by grind)
  obtain ⟨f3, z1, z2⟩ := add_dbl f1 f2 fm2 sm2 (by rw [vm2]; grind) (by rw [vm2]; exact x1) (by rw [vm2]; exact x2) (by rw [vm2]; exact y1) (by rw [vm2]; exact y2)
  rw [vm2] at z1 z2
  have h := (mulF_spec f3 const_qtr.1).2.bound fm sm (by rw [const_qtr.2.1]; grind) (by rw [const_qtr.2.1]; grind)
  exact ⟨f1, f2, f3, h.1, h.2.1, h.2.2.1⟩
theorem mul_two {m : Nat} (fm : single.fin m) (sm : single.sgn m = false) (hm : single.V m ≤ P2 100) : single.fin (mulF 1073741824 m) ∧ single.V (mulF 1073741824 m) = 2 * single.V m := by
  obtain ⟨c, fc, sc, vc⟩ := word_dbl fm sm hm
  have h := (mulF_spec const_2.1 fm).2
  rw [const_2.2.1, ← vc, const_2.2.2, sm] at h
  have e : mulF 1073741824 m = single.word false (single.rung c) ∨ single.fin (mulF 1073741824 m) ∧ single.V (mulF 1073741824 m) = single.V c := by
    right
    have b := h.bound fc sc (Rat.le_refl) (by have := single.rv_nonneg (single.rung c); rw [V_pos_word sc]; grind)
    refine ⟨b.1, ?_⟩
    obtain ⟨r, hw, hn⟩ := h
    simp only [Bool.false_eq_true, sg, if_false] at hn
    have hc : single.Near (single.V c) (single.rung c) := by rw [V_pos_word sc]; exact single.near_rv _
    have hr : r = single.rung c := Near.unique (by simpa [sg] using hn) hc
    rw [hw, hr, single.V_word ((by
      have := fc
      exact this) : single.rung c < single.infRung), V_pos_word sc]
    simp [sg]
  rcases e with e | e
  · have hb := h.bound fc sc (Rat.le_refl) (by have := single.rv_nonneg (single.rung c); rw [V_pos_word sc]; grind)
    have lt : single.rung c < single.infRung := fc
    refine ⟨hb.1, ?_⟩
    rw [e, show single.rung c = min (single.rung c) single.infRung from by omega, single.V_word lt]
    have : single.V c = single.rv (single.rung c) := V_pos_word sc
    simp [sg]
    rw [← this, vc]
  · exact ⟨e.1, by rw [e.2, vc]⟩
end Format
end Ieee

namespace Go.Proofs.Ytfmbekdfigbfiaa
open Go.ChangeShapes Go.WideShapes Go.ChangeAt Go.RowKit
open Ieee.Format (fin finE htE allFin allHt all_true all_false mulF subF addF Ht Bd divF rootF floorF easeF mixF)
set_option linter.unusedVariables false
open Ieee.Format (downF down_bd)

/-! ### levels of detail, in plain Lean -/
structure Lv where
  X : Int
  Y : Int
  W : Nat
  H : Nat
  l : List Nat
def Lv.ok (v : Lv) : Prop := Right v.X v.Y v.W v.H v.l
def Lv.ev (v : Lv) : Prop := v.X % 2 = 0 ∧ v.Y % 2 = 0 ∧ v.W % 2 = 0 ∧ v.H % 2 = 0
def dnK (v : Lv) (x y : Int) : Nat := ((2 * y - v.Y) * (v.W : Int) + 2 * x - v.X).toNat
def dnV (v : Lv) (x y : Int) : Nat := downF (v.l.getD (dnK v x y) 0) (v.l.getD (dnK v x y + 1) 0) (v.l.getD (dnK v x y + v.W) 0) (v.l.getD (dnK v x y + v.W + 1) 0)
def nx (v : Lv) : Lv := ⟨v.X / 2, v.Y / 2, v.W / 2, v.H / 2, madeL (dnV v) (v.X / 2) (v.Y / 2) (v.W / 2) (v.H / 2 * (v.W / 2))⟩
def lv (v : Lv) : Nat → Lv
  | 0 => v
  | k + 1 => nx (lv v k)
/-- all values are at most m in magnitude -/
def Lv.le (v : Lv) (m : Nat) : Prop := ∀ x ∈ v.l, fin Ieee.single x ∧ Ieee.single.V x ≤ Ieee.single.V m ∧ -Ieee.single.V m ≤ Ieee.single.V x
theorem dnK_in {v : Lv} (h : v.ok) (e : v.ev) {x y : Int} (hx : v.X / 2 ≤ x) (hx2 : x < v.X / 2 + (v.W / 2 : Nat)) (hy : v.Y / 2 ≤ y) (hy2 : y < v.Y / 2 + (v.H / 2 : Nat)) :
    (2 * y - v.Y) * (v.W : Int) + 2 * x - v.X = (dnK v x y : Int) ∧ dnK v x y + v.W + 1 < v.l.length ∧ 0 ≤ (2 * y - v.Y) * (v.W : Int) ∧ (2 * y - v.Y) * (v.W : Int) ≤ 65536 := by
  obtain ⟨e1, e2, e3, e4⟩ := e
  have l := h.len
  have wh := h.wh
  obtain ⟨j, hj⟩ : ∃ j : Nat, 2 * y - v.Y = (j : Int) := ⟨(2 * y - v.Y).toNat, by omega⟩
  have j2 : j + 2 ≤ v.H := by omega
  have m1 : (j + 2) * v.W ≤ v.H * v.W := Nat.mul_le_mul_right _ j2
  rw [Nat.add_mul] at m1
  have m2 : v.H * v.W = v.W * v.H := Nat.mul_comm _ _
  have c : (j : Int) * (v.W : Int) = ((j * v.W : Nat) : Int) := (Int.natCast_mul _ _).symm
  unfold dnK
  rw [hj, c, l]
  generalize j * v.W = z at *
  generalize v.H * v.W = z2 at *
  omega
theorem nx_le {v : Lv} {m : Nat} (h : v.ok) (e : v.ev) (hm : v.le m) (fm : fin Ieee.single m) (sm : Ieee.single.sgn m = false) (bm : Ieee.single.V m ≤ Ieee.P2 99) {x y : Int} (hx : v.X / 2 ≤ x) (hx2 : x < v.X / 2 + (v.W / 2 : Nat)) (hy : v.Y / 2 ≤ y) (hy2 : y < v.Y / 2 + (v.H / 2 : Nat)) :
    fin Ieee.single (dnV v x y) ∧ Ieee.single.V (dnV v x y) ≤ Ieee.single.V m ∧ -Ieee.single.V m ≤ Ieee.single.V (dnV v x y) := by
  obtain ⟨_, k1, _, _⟩ := dnK_in h e hx hx2 hy hy2
  have g : ∀ j, j < v.l.length → fin Ieee.single (v.l.getD j 0) ∧ Ieee.single.V (v.l.getD j 0) ≤ Ieee.single.V m ∧ -Ieee.single.V m ≤ Ieee.single.V (v.l.getD j 0) := fun j hj => by
    rw [List.getD_eq_getElem?_getD, List.getElem?_eq_getElem hj]
    exact hm _ (List.getElem_mem hj)
  have g0 := g (dnK v x y) (by omega)
  have g1 := g (dnK v x y + 1) (by omega)
  have g2 := g (dnK v x y + v.W) (by omega)
  have g3 := g (dnK v x y + v.W + 1) (by omega)
  have := down_bd g0.1 g1.1 g2.1 g3.1 fm sm bm g0.2.1 g0.2.2 g1.2.1 g1.2.2 g2.2.1 g2.2.2 g3.2.1 g3.2.2
  exact this.2.2.2
theorem nx_ok {v : Lv} {m : Nat} (h : v.ok) (e : v.ev) (hm : v.le m) (fm : fin Ieee.single m) (sm : Ieee.single.sgn m = false) (bm : Ieee.single.V m ≤ Ieee.P2 20) : (nx v).ok ∧ (nx v).le m := by
  have p99 := Ieee.P2_lt (show (20 : Int) < 99 by omega)
  have hall : (nx v).le m := by
    intro z hz
    unfold nx madeL at hz
    obtain ⟨k, hk, rfl⟩ := List.mem_map.1 hz
    have hk := List.mem_range.1 hk
    obtain ⟨e1, e2, e3, e4⟩ := e
    have w1 := h.w1
    have h1 := h.h1
    have hw : 0 < v.W / 2 := by omega
    have a1 := Nat.mod_lt k hw
    have a2 : k / (v.W / 2) < v.H / 2 := (Nat.div_lt_iff_lt_mul hw).2 hk
    generalize k / (v.W / 2) = b at *
    generalize k % (v.W / 2) = a at *
    exact nx_le h ⟨e1, e2, e3, e4⟩ hm fm sm (by grind) (by omega) (by omega) (by omega) (by omega)
  refine ⟨?_, hall⟩
  obtain ⟨e1, e2, e3, e4⟩ := e
  have w1 := h.w1; have w2 := h.w2; have h1 := h.h1; have h2 := h.h2; have x1 := h.x1; have x2 := h.x2; have y1 := h.y1; have y2 := h.y2; have wh := h.wh
  have wh2 : v.W / 2 * (v.H / 2) ≤ v.W * v.H := Nat.mul_le_mul (by omega) (by omega)
  refine ⟨by show 1 ≤ v.W / 2; omega, by show v.W / 2 ≤ 512; omega, by show 1 ≤ v.H / 2; omega, by show v.H / 2 ≤ 512; omega, by show v.W / 2 * (v.H / 2) ≤ 65536; omega, by show -4194304 ≤ v.X / 2; omega, by show v.X / 2 ≤ 4194304 - ((v.W / 2 : Nat) : Int); omega, by show -4194304 ≤ v.Y / 2; omega, by show v.Y / 2 ≤ 4194304 - ((v.H / 2 : Nat) : Int); omega, ?_, ?_⟩
  · show (madeL (dnV v) (v.X / 2) (v.Y / 2) (v.W / 2) (v.H / 2 * (v.W / 2))).length = v.H / 2 * (v.W / 2)
    exact madeL_len _ _ _ _ _
  · intro z hz
    obtain ⟨_, b, c⟩ := hall z hz
    exact Ieee.Format.Ht.of ⟨by grind, by grind⟩
/-- a level of a field whose levels ahead of it are even -/
theorem lv_ok {v : Lv} {m : Nat} (h : v.ok) (hm : v.le m) (fm : fin Ieee.single m) (sm : Ieee.single.sgn m = false) (bm : Ieee.single.V m ≤ Ieee.P2 20) : ∀ k, (∀ j, j < k → (lv v j).ev) →
    (lv v k).ok ∧ (lv v k).le m ∧ v.X = (lv v k).X * 2 ^ k ∧ v.Y = (lv v k).Y * 2 ^ k ∧ v.W = (lv v k).W * 2 ^ k ∧ v.H = (lv v k).H * 2 ^ k
  | 0, _ => ⟨h, hm, by simp [lv], by simp [lv], by simp [lv], by simp [lv]⟩
  | k + 1, he => by
    obtain ⟨a, b, c1, c2, c3, c4⟩ := lv_ok h hm fm sm bm k (fun j hj => he j (by omega))
    have e := he k (by omega)
    obtain ⟨x, y⟩ := nx_ok a e b fm sm bm
    obtain ⟨e1, e2, e3, e4⟩ := e
    refine ⟨x, y, ?_, ?_, ?_, ?_⟩
    · show v.X = (lv v k).X / 2 * 2 ^ (k + 1)
      rw [Int.pow_succ, Int.mul_comm (2 ^ k) 2, ← Int.mul_assoc, Int.ediv_mul_cancel (Int.dvd_of_emod_eq_zero e1)]; exact c1
    · show v.Y = (lv v k).Y / 2 * 2 ^ (k + 1)
      rw [Int.pow_succ, Int.mul_comm (2 ^ k) 2, ← Int.mul_assoc, Int.ediv_mul_cancel (Int.dvd_of_emod_eq_zero e2)]; exact c2
    · show v.W = (lv v k).W / 2 * 2 ^ (k + 1)
      rw [Nat.pow_succ, Nat.mul_comm (2 ^ k) 2, ← Nat.mul_assoc, Nat.div_mul_cancel (Nat.dvd_of_mod_eq_zero e3)]; exact c3
    · show v.H = (lv v k).H / 2 * 2 ^ (k + 1)
      rw [Nat.pow_succ, Nat.mul_comm (2 ^ k) 2, ← Nat.mul_assoc, Nat.div_mul_cancel (Nat.dvd_of_mod_eq_zero e4)]; exact c4
end Go.Proofs.Ytfmbekdfigbfiaa

namespace Go.Proofs.Ytfmbekdfigbfiaa
open Go.ChangeShapes Go.WideShapes Go.ChangeAt Go.RowKit
open Ieee.Format (fin finE htE allFin allHt all_true all_false mulF subF addF Ht Bd divF rootF floorF easeF mixF)
set_option linter.unusedVariables false
open Ieee.Format (downF down_bd bits_add bits_mul const_qtr)

theorem ev_iff (v : Lv) : (v.X.tmod 2 = 0 ∧ v.Y.tmod 2 = 0 ∧ (v.W : Int).tmod 2 = 0 ∧ (v.H : Int).tmod 2 = 0) ↔ v.ev := by
  unfold Lv.ev
  have t : ∀ z : Int, z.tmod 2 = 0 ↔ z % 2 = 0 := fun z => by rw [← Int.dvd_iff_tmod_eq_zero, Int.dvd_iff_emod_eq_zero]
  rw [t, t, t, t]
  omega
end Go.Proofs.Ytfmbekdfigbfiaa

namespace Go.Proofs.Ytfmbekdfigbfiaa
open Go.ChangeShapes Go.WideShapes Go.ChangeAt Go.RowKit
open Ieee.Format (fin finE htE allFin allHt all_true all_false mulF subF addF Ht Bd divF rootF floorF easeF mixF)
set_option linter.unusedVariables false
open Ieee.Format (downF down_bd bits_add bits_mul const_qtr)

/-- a field that is made -/
def LvP (u : Lv) (w : World) (e : Ending) (w' : World) : Prop :=
  (∃ g cap, e = .returned (fldV u.X u.Y u.W u.H (some ⟨g, 0, none⟩) u.l.length cap) ∧ OwnF w' w.heap.size g cap u.l) ∧ Below w.heap.size w w'
theorem downF_lt (a b c d : Nat) : downF a b c d < 4294967296 := Ieee.Format.mulF_lt _ _
theorem dn_world (w : World) (X Y W H : Int) (v : Value) (A B P Q : Int) : ∀ W0, W0 = ((w.alloc (.cells #[.int .i64 X, .int .i64 Y, .int .i64 W, .int .i64 H, v] 26)).alloc (.cells #[.int .i64 0, .int .i64 0, .int .i64 0, .int .i64 0, .slice none 0 0] 26)).alloc (.cells #[.int .i64 A, .int .i64 B, .int .i64 P, .int .i64 Q] 23) →
    Fld W0 w.heap.size X Y W H v ∧ Fld W0 (w.heap.size + 1) 0 0 0 0 (.slice none 0 0) ∧ Reg W0 (w.heap.size + 1 + 1) A B P Q ∧ Below w.heap.size w W0 := by
  rintro _ rfl
  refine ⟨((Fld.new w X Y W H v).alloc _).alloc _, ?_, ?_, (by repeat (first | with_reducible exact Below.refl _ _ | with_reducible apply Below.drew | with_reducible refine below_drewN ?_ _ | (with_reducible refine Below.setCell ?_ ?_ _; rotate_left; focus (first | omega | (simp <;> omega))) | (with_reducible refine Below.alloc ?_ ?_ _; rotate_left; focus (first | omega | (simp <;> omega)))))⟩
  · have := (Fld.new (w.alloc (.cells #[.int .i64 X, .int .i64 Y, .int .i64 W, .int .i64 H, v] 26)) 0 0 0 0 (.slice none 0 0)).alloc (.cells #[.int .i64 A, .int .i64 B, .int .i64 P, .int .i64 Q] 23)
    simpa using this
  · have := Reg.new ((w.alloc (.cells #[.int .i64 X, .int .i64 Y, .int .i64 W, .int .i64 H, v] 26)).alloc (.cells #[.int .i64 0, .int .i64 0, .int .i64 0, .int .i64 0, .slice none 0 0] 26)) A B P Q
    simpa using this
theorem lv_fin {v : Lv} {m : Nat} (hm : v.le m) {j : Nat} (h : j < v.l.length) : fin Ieee.single (v.l.getD j 0) ∧ Ieee.single.V (v.l.getD j 0) ≤ Ieee.single.V m ∧ -Ieee.single.V m ≤ Ieee.single.V (v.l.getD j 0) := by
  rw [List.getD_eq_getElem?_getD, List.getElem?_eq_getElem h]
  exact hm _ (List.getElem_mem h)
end Go.Proofs.Ytfmbekdfigbfiaa

namespace Go.Proofs.Ytfmbekdfigbfiaa
open Go.ChangeShapes Go.WideShapes Go.ChangeAt Go.RowKit
open Ieee.Format (fin finE htE allFin allHt all_true all_false mulF subF addF Ht Bd divF rootF floorF easeF mixF)
set_option linter.unusedVariables false

theorem reg_stored4 {w : World} {k : Nat} {a b c d x y p q : Int} (h : Reg w k a b c d) :
    Reg ((((w.setCell ⟨k, 0, none⟩ (.int .i64 x)).setCell ⟨k, 1, none⟩ (.int .i64 y)).setCell ⟨k, 2, none⟩ (.int .i64 p)).setCell ⟨k, 3, none⟩ (.int .i64 q)) k x y p q := by
  unfold Reg at *
  exact heap_setCell_same _ k 3 _ _ _ (heap_setCell_same _ k 2 _ _ _ (heap_setCell_same _ k 1 _ _ _ (heap_setCell_same w k 0 _ _ _ h)))
/-- the field behind an edit -/
def edL (e : Ed) (g : Int → Int → Nat) (X Y : Int) (Wn Hn : Nat) : Lv :=
  ⟨X + softB e, Y + softB e, Wn - 2 * softB e, Hn - 2 * softB e, madeL (edV e g) (X + softB e) (Y + softB e) (Wn - 2 * softB e) ((Hn - 2 * softB e) * (Wn - 2 * softB e))⟩
theorem ed_world (w : World) (X Y W H : Int) (v : Value) (cs : Array Value) (t : TypeId) (A B P Q : Int) : ∀ W0, W0 = (((w.alloc (.cells #[.int .i64 X, .int .i64 Y, .int .i64 W, .int .i64 H, v] 26)).alloc (.cells cs t)).alloc (.cells #[.int .i64 0, .int .i64 0, .int .i64 0, .int .i64 0, .slice none 0 0] 26)).alloc (.cells #[.int .i64 A, .int .i64 B, .int .i64 P, .int .i64 Q] 23) →
    Fld W0 w.heap.size X Y W H v ∧ Blk W0 (w.heap.size + 1) cs t ∧ Fld W0 (w.heap.size + 1 + 1) 0 0 0 0 (.slice none 0 0) ∧ Reg W0 (w.heap.size + 1 + 1 + 1) A B P Q ∧ Below w.heap.size w W0 := by
  rintro _ rfl
  obtain ⟨a, b, c, d⟩ := box_fb w X Y W H v cs t _ rfl
  refine ⟨a.alloc _, b.alloc _, c.alloc _, ?_, d.alloc (by simp; omega) _⟩
  have := Reg.new (((w.alloc (.cells #[.int .i64 X, .int .i64 Y, .int .i64 W, .int .i64 H, v] 26)).alloc (.cells cs t)).alloc (.cells #[.int .i64 0, .int .i64 0, .int .i64 0, .int .i64 0, .slice none 0 0] 26)) A B P Q
  simpa using this
theorem ed_under {w w' : World} {k1 k2 k3 B : Nat} {X Y W H : Int} {v : Value} {cs : Array Value} {t : TypeId} (h : Fld w k1 X Y W H v ∧ Blk w k2 cs t ∧ Fld w k3 0 0 0 0 (.slice none 0 0)) (hb : Below B w w') (h1 : k1 < B) (h2 : k2 < B) (h3 : k3 < B) :
    Fld w' k1 X Y W H v ∧ Blk w' k2 cs t ∧ Fld w' k3 0 0 0 0 (.slice none 0 0) := ⟨h.1.below hb h1, h.2.1.below hb h2, h.2.2.below hb h3⟩
set_option maxRecDepth 100000 in
set_option maxHeartbeats 1000000 in
theorem edited_any (e : Ed) (he : e.ok) (hh : e.h < 4294967296) (g : Int → Int → Nat) (X Y : Int) (Wn Hn b c K : Nat) (w : World) (hl : SRow w (some ⟨b, 0, none⟩) (madeL g X Y Wn (Hn * Wn)))
    (h1 : 1 ≤ Wn) (h2 : Wn ≤ 512) (h3 : 1 ≤ Hn) (h4 : Hn ≤ 512) (hX : -4194304 ≤ X) (hX2 : X ≤ 4194304 - Wn) (hY : -4194304 ≤ Y) (hY2 : Y ≤ 4194304 - Hn)
    (hs : e.kd = 3 → 3 ≤ Wn ∧ 3 ≤ Hn) (hg : ∀ x y, Bd K (g x y)) (hgl : ∀ x y, edV e g x y < 4294967296) (hK : 20 ≤ K) (hK2 : K ≤ 80) :
    Calls Try.prog 85 #[fldV X Y Wn Hn (some ⟨b, 0, none⟩) (madeL g X Y Wn (Hn * Wn)).length c, edA e] w fun en w' => LvP (edL e g X Y Wn Hn) w en w' := by
  have s1 : softB e ≤ 1 ∧ (softB e = 1 ↔ e.kd = 3) := by unfold softB; split <;> simp_all
  have KM := Lib.hid (fun (W : World) (pf pe : Nat) (hf : Fld W pf X Y Wn Hn (.slice (some ⟨b, 0, none⟩) (madeL g X Y Wn (Hn * Wn)).length c)) (hp : Blk W pe (edC e) 68) (hr : SRow W (some ⟨b, 0, none⟩) (madeL g X Y Wn (Hn * Wn))) =>
    make_any 154 #[.pointer (some ⟨pf, 0, none⟩), .pointer (some ⟨pe, 0, none⟩)] (edV e g) (edL e g X Y Wn Hn).X (edL e g X Y Wn Hn).Y (edL e g X Y Wn Hn).W (edL e g X Y Wn Hn).H W
      (by show 1 ≤ Wn - 2 * softB e; omega) (by show Wn - 2 * softB e ≤ 512; omega) (by show 1 ≤ Hn - 2 * softB e; omega) (by show Hn - 2 * softB e ≤ 512; omega)
      (by show -8388608 ≤ X + (softB e : Int); omega) (by show X + (softB e : Int) ≤ 8388608; omega) (by show -8388608 ≤ Y + (softB e : Int); omega) (by show Y + (softB e : Int) ≤ 8388608; omega)
      (enters_of Try.func154 (by kernel_rfl) rfl) (fun x y _ _ _ _ => hgl x y)
      (fun x y hx hx2 hy hy2 W' hb' => by
        change X + (softB e : Int) ≤ x at hx
        change x < X + (softB e : Int) + ((Wn - 2 * softB e : Nat) : Int) at hx2
        change Y + (softB e : Int) ≤ y at hy
        change y < Y + (softB e : Int) + ((Hn - 2 * softB e : Nat) : Int) at hy2
        exact editfn_any e he hh g X Y Wn Hn b c pf pe K x y W' (hf.below hb' hf.lt) (hp.below hb' hp.lt) (hr.below hb') h1 h2 h3 h4 hX hX2 hY hY2 (by omega) (by omega) (by omega) (by omega) (fun h => by have := s1.2.2 h; omega) hg hK hK2))
  change Hid (∀ (W : World) (pf pe : Nat) (hf : Fld W pf X Y Wn Hn (.slice (some ⟨b, 0, none⟩) (madeL g X Y Wn (Hn * Wn)).length c)) (hp : Blk W pe (edC e) 68) (hr : SRow W (some ⟨b, 0, none⟩) (madeL g X Y Wn (Hn * Wn))), Calls Try.prog 144 #[reg (edL e g X Y Wn Hn).X (edL e g X Y Wn Hn).Y (edL e g X Y Wn Hn).W (edL e g X Y Wn Hn).H, .func (.func 154) #[] #[.pointer (some ⟨pf, 0, none⟩), .pointer (some ⟨pe, 0, none⟩)]] W fun e' w' => MakeP (edL e g X Y Wn Hn).X (edL e g X Y Wn Hn).Y (edL e g X Y Wn Hn).W (edL e g X Y Wn Hn).H (edL e g X Y Wn Hn).l W e' w') at KM
  have HL := Lib.hid hl
  have u1 : (edL e g X Y Wn Hn).X = X + softB e := rfl
  have u2 : (edL e g X Y Wn Hn).Y = Y + softB e := rfl
  have u3 : (((edL e g X Y Wn Hn).W : Nat) : Int) = ((Wn - 2 * softB e : Nat) : Int) := rfl
  have u4 : (((edL e g X Y Wn Hn).H : Nat) : Int) = ((Hn - 2 * softB e : Nat) : Int) := rfl
  clear hl hg hgl he hh
  unfold LvP
  generalize (edL e g X Y Wn Hn).X = X' at *
  generalize (edL e g X Y Wn Hn).Y = Y' at *
  generalize (edL e g X Y Wn Hn).W = W' at *
  generalize (edL e g X Y Wn Hn).H = H' at *
  generalize (edL e g X Y Wn Hn).l = l' at *
  generalize madeL g X Y Wn (Hn * Wn) = l at *
  by_cases h3' : e.kd = 3
  · have sb := s1.2.2 h3'
    rw [sb] at u1 u2 u3 u4
    obtain ⟨q1, q2⟩ := hs h3'
    have t1 : X + 1 = X' := by omega
    have t2 : Y + 1 = Y' := by omega
    have t3 : (Wn : Int) - 2 = (W' : Int) := by omega
    have t4 : (Hn : Int) - 2 = (H' : Int) := by omega
    clear u1 u2 u3 u4 hs s1 sb
    obtain ⟨kd, bk, BX, BY, R, h, t⟩ := e
    simp only at h3'
    subst h3'
    unfold edA
    unfold edC at *
    simp only at *
    go_enter Try.func85, Try.ntmps85
    go_upto_region 2 with fail
    generalize hW0 : (((w.alloc (.cells #[.int .i64 X, .int .i64 Y, .int .i64 Wn, .int .i64 Hn, .slice (some ⟨b, 0, none⟩) l.length c] 26)).alloc (.cells #[.int .i64 3, .int .i64 bk, .int .i64 BX, .int .i64 BY, .int .i64 R, .float .f32 h, .float .f32 t] 68)).alloc (.cells #[.int .i64 0, .int .i64 0, .int .i64 0, .int .i64 0, .slice none 0 0] 26)).alloc (.cells #[.int .i64 X, .int .i64 Y, .int .i64 Wn, .int .i64 Hn] 23) = W0 at *
    obtain ⟨E0, P0, Z0, R0, B0⟩ := ed_world w X Y Wn Hn (.slice (some ⟨b, 0, none⟩) l.length c) #[.int .i64 3, .int .i64 bk, .int .i64 BX, .int .i64 BY, .int .i64 R, .float .f32 h, .float .f32 t] 68 X Y Wn Hn W0 hW0.symm
    clear hW0
    have p0 : W0.cell? ⟨w.heap.size + 1, 0, none⟩ = some (.int .i64 3) := P0.cell 0
    obtain ⟨r0, r1, r2, r3⟩ := R0.cells
    have rf0 := frozen_of_row W0 _ 0 _ _ R0
    have rf1 := frozen_of_row W0 _ 1 _ _ R0
    have rf2 := frozen_of_row W0 _ 2 _ _ R0
    have rf3 := frozen_of_row W0 _ 3 _ _ R0
    have lr := R0.lt
    have HX := Lib.hid (And.intro E0 (And.intro P0 Z0))
    have HR0 := Lib.hid R0
    have HB00 := Lib.hid B0
    clear E0 P0 Z0 R0 B0
    have t1' : wrap64 X' = X' := by unfold wrap64; omega
    have t2' : wrap64 Y' = Y' := by unfold wrap64; omega
    have t3' : wrap64 (W' : Int) = (W' : Int) := by unfold wrap64; omega
    have t4' : wrap64 (H' : Int) = (H' : Int) := by unfold wrap64; omega
    clear h1 h2 h3 h4 hX hX2 hY hY2 q1 q2
    go_upto_region 4 with fail
    generalize hW1 : (((W0.setCell ⟨w.heap.size + 1 + 1 + 1, 0, none⟩ (.int .i64 X')).setCell ⟨w.heap.size + 1 + 1 + 1, 1, none⟩ (.int .i64 Y')).setCell ⟨w.heap.size + 1 + 1 + 1, 2, none⟩ (.int .i64 (W' : Int))).setCell ⟨w.heap.size + 1 + 1 + 1, 3, none⟩ (.int .i64 (H' : Int)) = W1 at *
    have R1 : Reg W1 (w.heap.size + 1 + 1 + 1) X' Y' W' H' := by subst hW1; exact reg_stored4 HR0.out
    have bb1 : Below (w.heap.size + 1 + 1 + 1) W0 W1 := by subst hW1; exact (by repeat (first | with_reducible exact Below.refl _ _ | with_reducible apply Below.drew | with_reducible refine below_drewN ?_ _ | (with_reducible refine Below.setCell ?_ ?_ _; rotate_left; focus (first | omega | (simp <;> omega))) | (with_reducible refine Below.alloc ?_ ?_ _; rotate_left; focus (first | omega | (simp <;> omega)))))
    obtain ⟨E1, P1, Z1⟩ := ed_under HX.out bb1 (by omega) (by omega) (by omega)
    have HB0 := Lib.hid (HB00.out.trans (bb1.mono (by omega)))
    have C0 := Lib.hid (KM.out _ _ _ E1 P1 (HL.out.below HB0.out))
    have HZ0 := Lib.hid Z1
    clear KM HL hW1 E1 P1 Z1 bb1 HX HR0 HB00 r0 r1 r2 r3 p0 rf0 rf1 rf2 rf3 t1' t2' t3' t4' t1 t2 t3 t4 lr
    obtain ⟨r0, r1, r2, r3⟩ := R1.cells
    have lr := R1.lt
    clear R1
    go_wp2_with fail
    refine C0.out.mono ?_
    rintro en w1 ⟨⟨gg, cap, rfl, ho⟩, b1⟩
    have HZ1 := Lib.hid (HZ0.out.below b1 HZ0.out.lt)
    have HB1 := Lib.hid (HB0.out.trans (b1.mono HB0.out.size))
    have HO1 := Lib.hid (ho.base HB0.out.size)
    have HG1 : Hid (w.heap.size + 1 + 1 < gg) := by have := ho.lt.1; have := HZ0.out.lt; unfold Hid; omega
    clear ho b1 C0 HZ0 r0 r1 r2 r3 lr
    obtain ⟨d0, d1, d2, d3, d4⟩ := HZ1.out.cells
    have qf0 := HZ1.out.frozen 0
    have qf1 := HZ1.out.frozen 1
    have qf2 := HZ1.out.frozen 2
    have qf3 := HZ1.out.frozen 3
    have qf4 := HZ1.out.frozen 4
    have lz := HZ1.out.lt
    go_wp2_with fail
    generalize hW5 : ((((w1.setCell ⟨w.heap.size + 1 + 1, 0, none⟩ (.int .i64 X')).setCell ⟨w.heap.size + 1 + 1, 1, none⟩ (.int .i64 Y')).setCell ⟨w.heap.size + 1 + 1, 2, none⟩ (.int .i64 W')).setCell ⟨w.heap.size + 1 + 1, 3, none⟩ (.int .i64 H')).setCell ⟨w.heap.size + 1 + 1, 4, none⟩ (.slice (some ⟨gg, 0, none⟩) l'.length cap) = W5 at *
    obtain ⟨h5, bb5, oo5, _, zz5⟩ := fld_store w1 (w.heap.size + 1 + 1) 0 0 0 0 _ X' Y' W' H' (.slice (some ⟨gg, 0, none⟩) l'.length cap) HZ1.out W5 hW5.symm
    have hO5 := oo5 _ _ _ _ HO1.out (by have := HG1.out; omega)
    have hB5 := HB1.out.trans (bb5.mono (by omega))
    clear d0 d1 d2 d3 d4 qf0 qf1 qf2 qf3 qf4 hW5 oo5
    obtain ⟨d0, d1, d2, d3, d4⟩ := h5.cells
    exact bodyPost_ret (v := fldV X' Y' W' H' (some ⟨gg, 0, none⟩) l'.length cap) (by simp [results, Try.results85, go_sem, *]) rfl ⟨⟨gg, cap, rfl, hO5⟩, hB5⟩
  · have sb : softB e = 0 := by have := s1.2; omega
    rw [sb] at u1 u2 u3 u4
    have t1 : X = X' := by omega
    have t2 : Y = Y' := by omega
    have t3 : (Wn : Int) = (W' : Int) := by omega
    have t4 : (Hn : Int) = (H' : Int) := by omega
    clear u1 u2 u3 u4 hs s1 sb h1 h2 h3 h4 hX hX2 hY hY2
    obtain ⟨kd, bk, BX, BY, R, h, t⟩ := e
    simp only at h3'
    have hb3 : (kd == 3) = false := by simpa using h3'
    unfold edA
    unfold edC at *
    simp only at *
    have t1 := t1.symm
    have t2 := t2.symm
    subst t1 t2
    rw [t3, t4] at *
    clear t3 t4
    go_enter Try.func85, Try.ntmps85
    go_upto_region 2 with fail
    generalize hW0 : (((w.alloc (.cells #[.int .i64 X', .int .i64 Y', .int .i64 (W' : Int), .int .i64 (H' : Int), .slice (some ⟨b, 0, none⟩) l.length c] 26)).alloc (.cells #[.int .i64 kd, .int .i64 bk, .int .i64 BX, .int .i64 BY, .int .i64 R, .float .f32 h, .float .f32 t] 68)).alloc (.cells #[.int .i64 0, .int .i64 0, .int .i64 0, .int .i64 0, .slice none 0 0] 26)).alloc (.cells #[.int .i64 X', .int .i64 Y', .int .i64 (W' : Int), .int .i64 (H' : Int)] 23) = W0 at *
    obtain ⟨E0, P0, Z0, R0, B0⟩ := ed_world w X' Y' (W' : Int) (H' : Int) (.slice (some ⟨b, 0, none⟩) l.length c) #[.int .i64 kd, .int .i64 bk, .int .i64 BX, .int .i64 BY, .int .i64 R, .float .f32 h, .float .f32 t] 68 X' Y' (W' : Int) (H' : Int) W0 hW0.symm
    clear hW0
    have p0 : W0.cell? ⟨w.heap.size + 1, 0, none⟩ = some (.int .i64 kd) := P0.cell 0
    obtain ⟨r0, r1, r2, r3⟩ := R0.cells
    have lr := R0.lt
    have HB0 := Lib.hid B0
    have C0 := Lib.hid (KM.out _ _ _ E0 P0 (HL.out.below HB0.out))
    have HZ0 := Lib.hid Z0
    clear KM HL E0 P0 Z0 R0 B0
    go_wp2_with fail
    refine C0.out.mono ?_
    rintro en w1 ⟨⟨gg, cap, rfl, ho⟩, b1⟩
    have HZ1 := Lib.hid (HZ0.out.below b1 HZ0.out.lt)
    have HB1 := Lib.hid (HB0.out.trans (b1.mono HB0.out.size))
    have HO1 := Lib.hid (ho.base HB0.out.size)
    have HG1 : Hid (w.heap.size + 1 + 1 < gg) := by have := ho.lt.1; have := HZ0.out.lt; unfold Hid; omega
    clear ho b1 C0 HZ0 r0 r1 r2 r3 lr
    obtain ⟨d0, d1, d2, d3, d4⟩ := HZ1.out.cells
    have qf0 := HZ1.out.frozen 0
    have qf1 := HZ1.out.frozen 1
    have qf2 := HZ1.out.frozen 2
    have qf3 := HZ1.out.frozen 3
    have qf4 := HZ1.out.frozen 4
    have lz := HZ1.out.lt
    go_wp2_with fail
    generalize hW5 : ((((w1.setCell ⟨w.heap.size + 1 + 1, 0, none⟩ (.int .i64 X')).setCell ⟨w.heap.size + 1 + 1, 1, none⟩ (.int .i64 Y')).setCell ⟨w.heap.size + 1 + 1, 2, none⟩ (.int .i64 W')).setCell ⟨w.heap.size + 1 + 1, 3, none⟩ (.int .i64 H')).setCell ⟨w.heap.size + 1 + 1, 4, none⟩ (.slice (some ⟨gg, 0, none⟩) l'.length cap) = W5 at *
    obtain ⟨h5, bb5, oo5, _, zz5⟩ := fld_store w1 (w.heap.size + 1 + 1) 0 0 0 0 _ X' Y' W' H' (.slice (some ⟨gg, 0, none⟩) l'.length cap) HZ1.out W5 hW5.symm
    have hO5 := oo5 _ _ _ _ HO1.out (by have := HG1.out; omega)
    have hB5 := HB1.out.trans (bb5.mono (by omega))
    clear d0 d1 d2 d3 d4 qf0 qf1 qf2 qf3 qf4 hW5 oo5
    obtain ⟨d0, d1, d2, d3, d4⟩ := h5.cells
    exact bodyPost_ret (v := fldV X' Y' W' H' (some ⟨gg, 0, none⟩) l'.length cap) (by simp [results, Try.results85, go_sem, *]) rfl ⟨⟨gg, cap, rfl, hO5⟩, hB5⟩
end Go.Proofs.Ytfmbekdfigbfiaa

namespace Go.Proofs.Ytfmbekdfigbfiaa
open Go.ChangeShapes Go.WideShapes Go.ChangeAt Go.RowKit
open Ieee.Format (fin finE htE allFin allHt all_true all_false mulF subF addF Ht Bd divF rootF floorF easeF mixF)
set_option linter.unusedVariables false
open Ieee.Format (mixF mix_bd const_quarter)

set_option maxRecDepth 100000 in
set_option maxHeartbeats 2000000 in
/-- the reference's cell of an edit -/
theorem refedited_any (e : Ed) (he : e.ok) (g : Int → Int → Nat) (X Y : Int) (Wn Hn b c K : Nat) (x y : Int) (w : World) (hl : SRow w (some ⟨b, 0, none⟩) (madeL g X Y Wn (Hn * Wn)))
    (h1 : 1 ≤ Wn) (h2 : Wn ≤ 512) (h3 : 1 ≤ Hn) (h4 : Hn ≤ 512) (hX : -4194304 ≤ X) (hX2 : X ≤ 4194304 - Wn) (hY : -4194304 ≤ Y) (hY2 : Y ≤ 4194304 - Hn)
    (hx : X ≤ x) (hx2 : x < X + Wn) (hy : Y ≤ y) (hy2 : y < Y + Hn) (hs : e.kd = 3 → X + 1 ≤ x ∧ x < X + Wn - 1 ∧ Y + 1 ≤ y ∧ y < Y + Hn - 1) (hg : ∀ x y, Bd K (g x y)) (hK : 20 ≤ K) (hK2 : K ≤ 80) :
    Calls Try.prog 91 #[fldV X Y Wn Hn (some ⟨b, 0, none⟩) (madeL g X Y Wn (Hn * Wn)).length c, edA e, .int .i64 x, .int .i64 y] w fun en w' => en = .returned (.float .f32 (edV e g x y)) ∧ Below w.heap.size w w' := by
  obtain ⟨k, hk, hkl, hv⟩ := made_cell g X Y Wn Hn hx hx2 hy hy2
  obtain ⟨_, _, bp, r1, r2, _⟩ := brush_zero he.b
  have hwt := he.wts x y
  have KW := Lib.hid (fun w => refweight_any e.bk e.X e.Y e.R x y e.h w ⟨bp, by omega, r1, r2⟩)
  have KA := Lib.hid (fun w (hl : SRow w (some ⟨b, 0, none⟩) (madeL g X Y Wn (Hn * Wn))) => show Calls Try.prog 23 #[fldV X Y Wn Hn (some ⟨b, 0, none⟩) (madeL g X Y Wn (Hn * Wn)).length c, .int .i64 x, .int .i64 y] w fun en w' => en = .returned (.float .f32 (g x y)) ∧ Below w.heap.size w w' from by
    have := refat_any X Y Wn Hn x y b 0 c (madeL g X Y Wn (Hn * Wn)) w hl (by rw [madeL_len, Int.natCast_mul, Int.mul_comm]) (by omega) (by omega) (by omega) (by omega) (by omega) (by omega) (by omega) (by omega) hx hx2 hy hy2
    rw [hk, Int.toNat_natCast, hv] at this
    exact this)
  have KN := Lib.hid (fun (h3' : e.kd = 3) w (hl : SRow w (some ⟨b, 0, none⟩) (madeL g X Y Wn (Hn * Wn))) => show Calls Try.prog 162 #[fldV X Y Wn Hn (some ⟨b, 0, none⟩) (madeL g X Y Wn (Hn * Wn)).length c, .int .i64 x, .int .i64 y] w fun en w' => en = .returned (.tuple #[.float .f32 (g x y), .float .f32 (g x (y - 1)), .float .f32 (g x (y + 1)), .float .f32 (g (x + 1) y), .float .f32 (g (x - 1) y)]) ∧ Below w.heap.size w w' from by
    obtain ⟨s1, s2, s3, s4⟩ := hs h3'
    obtain ⟨q1, q2, q3, q4, q5, q6, q7, q8⟩ := made_nbrs g X Y Wn Hn s1 s2 s3 s4 k hk
    have := refaround_any X Y Wn Hn x y b 0 c k (madeL g X Y Wn (Hn * Wn)) w hl (madeL_len _ _ _ _ _) h1 h2 h3 h4 (by omega) (by omega) (by omega) (by omega) s1 s2 s3 s4 hk
    rw [q5, q6, q7, q8, hv] at this
    exact this)
  have hg0 := hg x y
  obtain ⟨n1, n2, n3, n4⟩ := avg_bd (hg x (y - 1)) (hg x (y + 1)) (hg (x + 1) y) (hg (x - 1) y) hK2
  have A1 := Lib.hid (fun w' => ref_add_ok (g x (y - 1)) (g (x - 1) y) w' (hg _ _).1 (hg _ _).1 n1.1)
  have A2 := Lib.hid (fun w' => ref_add_ok (g (x + 1) y) (g x (y + 1)) w' (hg _ _).1 (hg _ _).1 n2.1)
  have A3 := Lib.hid (fun w' => ref_add_ok (addF (g x (y - 1)) (g (x - 1) y)) (addF (g (x + 1) y) (g x (y + 1))) w' n1.1 n2.1 n3.1)
  have A4 := Lib.hid (fun w' => ref_mul_ok (sumF4 (g x (y - 1)) (g x (y + 1)) (g (x + 1) y) (g (x - 1) y)) 1048576000 w' n3.1 const_quarter.1 n4.1)
  have m1 := h3
  have mh := he.hh.mul hwt.bd (show 20 + 0 ≤ 100 by omega)
  have mr := hg0.add (mh.mono (show 20 + 0 ≤ K by omega)) (by omega)
  have ml := mix_bd hg0 (he.t.bd.mono hK) hwt.bd hK2
  have ms := mix_bd hg0 n4 hwt.bd hK2
  have B1 := Lib.hid (fun w' => ref_mul_ok e.h (e.wt x y) w' he.hh.1 hwt.1 mh.1)
  have B2 := Lib.hid (fun w' => ref_add_ok (g x y) (mulF e.h (e.wt x y)) w' hg0.1 mh.1 mr.1)
  have B3 := Lib.hid (fun w' => ref_sub_ok e.t (g x y) w' he.t.bd.1 hg0.1 ml.1.1)
  have B4 := Lib.hid (fun w' => ref_mul_ok (subF e.t (g x y)) (e.wt x y) w' ml.1.1 hwt.1 ml.2.1.1)
  have B5 := Lib.hid (fun w' => show Calls Try.prog 160 #[.float .f32 (g x y), .float .f32 (mulF (subF e.t (g x y)) (e.wt x y))] w' fun en w2 => en = .returned (.float .f32 (mixF (g x y) e.t (e.wt x y))) ∧ w' = w2 from ref_add_ok (g x y) (mulF (subF e.t (g x y)) (e.wt x y)) w' hg0.1 ml.2.1.1 ml.2.2.1)
  have C3 := Lib.hid (fun w' => ref_sub_ok (avgAt g x y) (g x y) w' n4.1 hg0.1 ms.1.1)
  have C4 := Lib.hid (fun w' => ref_mul_ok (subF (avgAt g x y) (g x y)) (e.wt x y) w' ms.1.1 hwt.1 ms.2.1.1)
  have C5 := Lib.hid (fun w' => show Calls Try.prog 160 #[.float .f32 (g x y), .float .f32 (mulF (subF (avgAt g x y) (g x y)) (e.wt x y))] w' fun en w2 => en = .returned (.float .f32 (mixF (g x y) (avgAt g x y) (e.wt x y))) ∧ w' = w2 from ref_add_ok (g x y) (mulF (subF (avgAt g x y) (g x y)) (e.wt x y)) w' hg0.1 ms.2.1.1 ms.2.2.1)
  have A3' : Hid (∀ w', Calls Try.prog 160 #[.float .f32 (addF (g x (y - 1)) (g (x - 1) y)), .float .f32 (addF (g (x + 1) y) (g x (y + 1)))] w' fun en w2 => en = .returned (.float .f32 (sumF4 (g x (y - 1)) (g x (y + 1)) (g (x + 1) y) (g (x - 1) y))) ∧ w' = w2) := A3
  have A4' : Hid (∀ w', Calls Try.prog 161 #[.float .f32 (sumF4 (g x (y - 1)) (g x (y + 1)) (g (x + 1) y) (g (x - 1) y)), .float .f32 1048576000] w' fun en w2 => en = .returned (.float .f32 (avgAt g x y)) ∧ w' = w2) := A4
  have hkk : 1 ≤ e.kd ∧ e.kd ≤ 4 := ⟨he.k1, he.k4⟩
  have hres : ∀ z, chgF e (e.wt x y) (g x y) (avgAt g x y) = z → edV e g x y = z := fun z h => h
  clear A3 A4
  have HL := Lib.hid hl
  have hll : ((madeL g X Y Wn (Hn * Wn)).length : Int) ≤ 1099511627776 := by have := hl.1.1; omega
  clear hl hs hg hv hk he hwt bp r1 r2 hg0 n1 n2 n3 n4 m1 mh mr ml ms hkl k
  unfold chgF at hres
  unfold Ed.wt at *
  generalize edV e g x y = z at *
  generalize mixF (g x y) (avgAt g x y) (weightF e.bk (sqD x y e.X e.Y) e.R) = z5 at *
  generalize mulF (subF (avgAt g x y) (g x y)) (weightF e.bk (sqD x y e.X e.Y) e.R) = z4 at *
  generalize subF (avgAt g x y) (g x y) = z3 at *
  generalize avgAt g x y = av at *
  generalize mixF (g x y) e.t (weightF e.bk (sqD x y e.X e.Y) e.R) = y5 at *
  generalize mulF (subF e.t (g x y)) (weightF e.bk (sqD x y e.X e.Y) e.R) = y4 at *
  generalize subF e.t (g x y) = y3 at *
  generalize hz2 : addF (g x y) (mulF e.h (weightF e.bk (sqD x y e.X e.Y) e.R)) = y2 at *
  clear hz2
  generalize mulF e.h (weightF e.bk (sqD x y e.X e.Y) e.R) = y1 at *
  generalize weightF e.bk (sqD x y e.X e.Y) e.R = wt at *
  generalize sumF4 (g x (y - 1)) (g x (y + 1)) (g (x + 1) y) (g (x - 1) y) = s4 at *
  generalize addF (g x (y - 1)) (g (x - 1) y) = s1 at *
  generalize addF (g (x + 1) y) (g x (y + 1)) = s2 at *
  generalize g x (y - 1) = vn at *
  generalize g (x - 1) y = vw at *
  generalize g (x + 1) y = ve at *
  generalize g x (y + 1) = vs at *
  generalize g x y = v at *
  generalize madeL g X Y Wn (Hn * Wn) = l at *
  obtain ⟨kd, bk, BX, BY, R, h, t⟩ := e
  unfold edA
  unfold edC at *
  simp only at *
  have BA : Below w.heap.size w ((w.alloc (.cells #[.int .i64 X, .int .i64 Y, .int .i64 (Wn : Int), .int .i64 (Hn : Int), .slice (some ⟨b, 0, none⟩) l.length c] 26)).alloc (.cells #[.int .i64 kd, .int .i64 bk, .int .i64 BX, .int .i64 BY, .int .i64 R, .float .f32 h, .float .f32 t] 68)) := (by repeat (first | with_reducible exact Below.refl _ _ | with_reducible apply Below.drew | with_reducible refine below_drewN ?_ _ | (with_reducible refine Below.setCell ?_ ?_ _; rotate_left; focus (first | omega | (simp <;> omega))) | (with_reducible refine Below.alloc ?_ ?_ _; rotate_left; focus (first | omega | (simp <;> omega)))))
  have F0 := (Fld.new w X Y Wn Hn (.slice (some ⟨b, 0, none⟩) l.length c)).alloc (.cells #[.int .i64 kd, .int .i64 bk, .int .i64 BX, .int .i64 BY, .int .i64 R, .float .f32 h, .float .f32 t] 68)
  have P0 := Blk.new (w.alloc (.cells #[.int .i64 X, .int .i64 Y, .int .i64 (Wn : Int), .int .i64 (Hn : Int), .slice (some ⟨b, 0, none⟩) l.length c] 26)) #[.int .i64 kd, .int .i64 bk, .int .i64 BX, .int .i64 BY, .int .i64 R, .float .f32 h, .float .f32 t] 68
  have P0 : Blk ((w.alloc (.cells #[.int .i64 X, .int .i64 Y, .int .i64 (Wn : Int), .int .i64 (Hn : Int), .slice (some ⟨b, 0, none⟩) l.length c] 26)).alloc (.cells #[.int .i64 kd, .int .i64 bk, .int .i64 BX, .int .i64 BY, .int .i64 R, .float .f32 h, .float .f32 t] 68)) (w.heap.size + 1) #[.int .i64 kd, .int .i64 bk, .int .i64 BX, .int .i64 BY, .int .i64 R, .float .f32 h, .float .f32 t] 68 := by simpa using P0
  go_enter Try.func91, Try.ntmps91
  go_upto_region 1 with fail
  generalize (w.alloc (.cells #[.int .i64 X, .int .i64 Y, .int .i64 (Wn : Int), .int .i64 (Hn : Int), .slice (some ⟨b, 0, none⟩) l.length c] 26)).alloc (.cells #[.int .i64 kd, .int .i64 bk, .int .i64 BX, .int .i64 BY, .int .i64 R, .float .f32 h, .float .f32 t] 68) = W0 at *
  have HP1 := Lib.hid P0
  have HF1 := Lib.hid F0
  have p0 : W0.cell? ⟨w.heap.size + 1, 0, none⟩ = some (.int .i64 kd) := HP1.out.cell 0
  have p1 : W0.cell? ⟨w.heap.size + 1, 1, none⟩ = some (.int .i64 bk) := HP1.out.cell 1
  have p2 : W0.cell? ⟨w.heap.size + 1, 2, none⟩ = some (.int .i64 BX) := HP1.out.cell 2
  have p3 : W0.cell? ⟨w.heap.size + 1, 3, none⟩ = some (.int .i64 BY) := HP1.out.cell 3
  have p4 : W0.cell? ⟨w.heap.size + 1, 4, none⟩ = some (.int .i64 R) := HP1.out.cell 4
  have p5 : W0.cell? ⟨w.heap.size + 1, 5, none⟩ = some (.float .f32 h) := HP1.out.cell 5
  have p6 : W0.cell? ⟨w.heap.size + 1, 6, none⟩ = some (.float .f32 t) := HP1.out.cell 6
  have lpe := HP1.out.lt
  clear P0 F0
  go_wp2_with fail
  refine (KW.out _).mono ?_
  rintro en w1 ⟨rfl, b1⟩
  have HF2 := Lib.hid (HF1.out.below b1 HF1.out.lt)
  have HP2 := Lib.hid (HP1.out.below b1 HP1.out.lt)
  have HB1 := Lib.hid (BA.trans (b1.mono BA.size))
  clear p0 p1 p2 p3 p4 p5 p6 lpe b1 BA HF1 HP1
  obtain ⟨c0, c1, c2, c3, c4⟩ := HF2.out.cells
  go_wp2_with fail
  refine (KA.out _ (HL.out.below HB1.out)).mono ?_
  rintro en w2 ⟨rfl, b2⟩
  have HF3 := Lib.hid (HF2.out.below b2 HF2.out.lt)
  have HP1 := Lib.hid (HP2.out.below b2 HP2.out.lt)
  have HB2 := Lib.hid (HB1.out.trans (b2.mono HB1.out.size))
  clear c0 c1 c2 c3 c4 b2 HF2 HP2 HB1
  obtain ⟨c0, c1, c2, c3, c4⟩ := HF3.out.cells
  have p0 : w2.cell? ⟨w.heap.size + 1, 0, none⟩ = some (.int .i64 kd) := HP1.out.cell 0
  have p1 : w2.cell? ⟨w.heap.size + 1, 1, none⟩ = some (.int .i64 bk) := HP1.out.cell 1
  have p2 : w2.cell? ⟨w.heap.size + 1, 2, none⟩ = some (.int .i64 BX) := HP1.out.cell 2
  have p3 : w2.cell? ⟨w.heap.size + 1, 3, none⟩ = some (.int .i64 BY) := HP1.out.cell 3
  have p4 : w2.cell? ⟨w.heap.size + 1, 4, none⟩ = some (.int .i64 R) := HP1.out.cell 4
  have p5 : w2.cell? ⟨w.heap.size + 1, 5, none⟩ = some (.float .f32 h) := HP1.out.cell 5
  have p6 : w2.cell? ⟨w.heap.size + 1, 6, none⟩ = some (.float .f32 t) := HP1.out.cell 6
  have lpe := HP1.out.lt
  go_upto_region 3 with fail
  by_cases hz : isZ wt = true
  · have e1 := hres v (by rw [if_pos hz])
    subst e1
    unfold isZ at hz
    go_wp2_with fail
    go_ret
    exact ⟨rfl, HB2.out⟩
  · have hz' : isZ wt = false := by simpa using hz
    have hkd : kd = 1 ∨ kd = 2 ∨ kd = 3 ∨ kd = 4 := by omega
    simp only [hz', Bool.false_eq_true, if_false] at hres
    unfold isZ at hz'
    clear hz hkk
    rcases hkd with rfl | rfl | rfl | rfl
    · have e1 := hres _ (by rw [if_pos rfl])
      subst e1
      clear hres
      go_wp2_with fail
      refine (B1.out _).mono ?_
      rintro en wz ⟨rfl, rfl⟩
      go_wp2_with fail
      refine (B2.out _).mono ?_
      rintro en wz ⟨rfl, rfl⟩
      go_wp2_with fail
      go_ret
      exact ⟨rfl, HB2.out⟩
    · have e1 := hres _ (by rw [if_neg (by decide), if_pos rfl])
      subst e1
      clear hres
      go_wp2_with fail
      refine (B3.out _).mono ?_
      rintro en wz ⟨rfl, rfl⟩
      go_wp2_with fail
      refine (B4.out _).mono ?_
      rintro en wz ⟨rfl, rfl⟩
      go_wp2_with fail
      refine (B5.out _).mono ?_
      rintro en wz ⟨rfl, rfl⟩
      go_wp2_with fail
      go_ret
      exact ⟨rfl, HB2.out⟩
    · have e1 := hres _ (by rw [if_neg (by decide), if_neg (by decide), if_pos rfl])
      subst e1
      clear hres
      go_wp2_with fail
      refine (KN.out (by first | exact rfl | exact trivial) _ (HL.out.below HB2.out)).mono ?_
      rintro en w3 ⟨rfl, b3⟩
      have HB3 := Lib.hid (HB2.out.trans (b3.mono HB2.out.size))
      clear b3
      go_wp2_with fail
      refine (A1.out _).mono ?_
      rintro en wz ⟨rfl, rfl⟩
      go_wp2_with fail
      refine (A2.out _).mono ?_
      rintro en wz ⟨rfl, rfl⟩
      go_wp2_with fail
      refine (A3'.out _).mono ?_
      rintro en wz ⟨rfl, rfl⟩
      go_wp2_with fail
      refine (A4'.out _).mono ?_
      rintro en wz ⟨rfl, rfl⟩
      go_wp2_with fail
      refine (C3.out _).mono ?_
      rintro en wz ⟨rfl, rfl⟩
      go_wp2_with fail
      refine (C4.out _).mono ?_
      rintro en wz ⟨rfl, rfl⟩
      go_wp2_with fail
      refine (C5.out _).mono ?_
      rintro en wz ⟨rfl, rfl⟩
      go_wp2_with fail
      go_ret
      exact ⟨rfl, HB3.out⟩
    · have e1 := hres _ (by rw [if_neg (by decide), if_neg (by decide), if_neg (by decide)])
      subst e1
      clear hres
      go_wp2_with fail
      go_ret
      exact ⟨rfl, HB2.out⟩
end Go.Proofs.Ytfmbekdfigbfiaa
