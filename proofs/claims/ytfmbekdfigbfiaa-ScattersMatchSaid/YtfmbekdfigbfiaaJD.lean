import Derived.Test.YtfmbekdfigbfiaaJC
import Derived.Test.YtfmbekdfigbfiaaM8
import Derived.Deep.RegionHeld3
import Derived.WalkLawsBesides
import Derived.Test.YtfmbekdfigbfiaaEase
import Derived.Test.YtfmbekdfigbfiaaM6
import Derived.BigQuiet
import Derived.Deep.QuietTactic
namespace Go.Proofs.Ytfmbekdfigbfiaa
open Go.ChangeShapes Go.WideShapes Go.ChangeAt Go.RowKit
open Ieee.Format (fin finE htE allFin allHt all_true all_false mulF subF addF Ht Bd divF rootF floorF easeF mixF)
set_option linter.unusedVariables false
open Ieee.Format (floor_spec whole_int frac_bd frac_zero const_40)

theorem const_n40 : fin Ieee.single 3548381184 ∧ Ieee.single.V 3548381184 = -Ieee.P2 40 := by
  refine ⟨by decide, ?_⟩
  rw [← const_40.2.1]
  exact Ieee.Format.V_neg_word (by decide) const_40.2.2 (by decide)
theorem const_23 : fin Ieee.single 1258291200 ∧ Ieee.single.V 1258291200 = Ieee.P2 23 ∧ Ieee.single.sgn 1258291200 = false := by
  have := Ieee.Format.V_const false 149 8388608 (.inr (by decide)) (by decide) (by decide)
  rw [show Ieee.single.word false (149 * 8388608 + 8388608) = 1258291200 from by decide] at this
  refine ⟨this.1, ?_, this.2.2⟩
  rw [this.2.1, show ((149 : Nat) : Int) - 149 = 0 from rfl, Ieee.P2_zero]
  have e : Ieee.P2 23 = ((8388608 : Nat) : Rat) := Ieee.P2_nat 23
  rw [e]; simp [Ieee.sg]

def floorZ (x : Nat) : Int := (floatToIntVal .f32 (floorF x) .i64).getD 0
theorem floorZ_spec {x : Nat} (hx : fin Ieee.single x) (hl : x < 4294967296) (h1 : -Ieee.P2 40 ≤ Ieee.single.V x) (h2 : Ieee.single.V x ≤ Ieee.P2 40) :
    floatToIntVal .f32 (floorF x) .i64 = some (floorZ x) ∧ Ieee.single.V (floorF x) = (floorZ x : Rat) ∧ (floorZ x : Rat) ≤ Ieee.single.V x ∧ Ieee.single.V x < (floorZ x : Rat) + 1 ∧ -1099511627776 ≤ floorZ x ∧ floorZ x ≤ 1099511627776 := by
  obtain ⟨X, s, m, i, _, _, _, hf, _, z, g1, g2, g3⟩ := floor_spec hx hl
  have e40 : Ieee.P2 40 = ((1099511627776 : Int) : Rat) := Ieee.P2_nat 40
  have b1 : z ≤ 1099511627776 := by
    have : (z : Rat) ≤ ((1099511627776 : Int) : Rat) := by rw [← e40]; grind
    exact Rat.intCast_le_intCast.1 this
  have b2 : -1099511627776 < z + 1 := by
    have : ((-1099511627776 : Int) : Rat) < ((z + 1 : Int) : Rat) := by
      rw [Rat.intCast_add, show (-1099511627776 : Int) = -(1099511627776 : Int) from rfl, Rat.intCast_neg, ← e40]
      have : ((1 : Int) : Rat) = 1 := rfl
      grind
    exact Rat.intCast_lt_intCast.1 this
  have hw := whole_int hf g1 (by omega) (by omega)
  have e : floorZ x = z := by unfold floorZ; rw [hw]; rfl
  rw [e]
  exact ⟨hw, g1, g2, g3, by omega, b1⟩

def wholeF (x : Nat) : Int := if lss x 3548381184 = true then -1099511627776 else if gtr x 1400897536 = true then 1099511627776 else floorZ x
theorem wholeF_bd {x : Nat} (hx : fin Ieee.single x) (hl : x < 4294967296) : -1099511627776 ≤ wholeF x ∧ wholeF x ≤ 1099511627776 := by
  unfold wholeF
  split
  · omega
  · split
    · omega
    · rename_i h1 h2
      rw [lss_V hx const_n40.1, const_n40.2] at h1
      rw [gtr_V hx const_40.1, const_40.2.1] at h2
      simp only [decide_eq_true_eq] at h1 h2
      have := floorZ_spec hx hl (by grind) (by grind)
      omega

/-- the value between the cells -/
def betR (X Y : Int) (Wn Hn : Nat) (l : List Nat) (x y : Nat) : Option Nat := bilV X Y Wn Hn l (wholeF x) (wholeF y) (subF x (floorF x)) (subF y (floorF y))

end Go.Proofs.Ytfmbekdfigbfiaa

namespace Go.Proofs.Ytfmbekdfigbfiaa
open Go.ChangeShapes Go.WideShapes Go.ChangeAt Go.RowKit
open Ieee.Format (fin finE htE allFin allHt all_true all_false mulF subF addF Ht Bd divF rootF floorF easeF mixF)
set_option linter.unusedVariables false
open Ieee.Format (const_0 const_1 const_m24 frac_bd floor_spec add_nonneg sub_nonneg div_bound div_nonneg)

def sel2 (soft d : Nat) : Nat := if lss d soft = true then subF 1065353216 (easeF (divF d soft)) else 0
def selF (lo hi soft v : Nat) : Nat := if lss v lo = true then sel2 soft (subF lo v) else if gtr v hi = true then sel2 soft (subF v hi) else 1065353216

/-- what the walk of a selection needs -/
structure SelOk (soft D : Nat) : Prop where
  d : fin Ieee.single D
  s : fin Ieee.single soft
  pos : lss D soft = true → 0 < Ieee.single.V soft
  sh : lss D soft = true → Share (divF D soft)
  e : lss D soft = true → fin Ieee.single (easeF (divF D soft))
  r : lss D soft = true → fin Ieee.single (subF 1065353216 (easeF (divF D soft)))
  ht : Ht (sel2 soft D)
theorem sel_ok {soft d : Nat} (hd : fin Ieee.single d) (d0 : 0 ≤ Ieee.single.V d) (hs : fin Ieee.single soft) : SelOk soft d := by
  have key : lss d soft = true → 0 < Ieee.single.V soft ∧ Share (divF d soft) ∧ fin Ieee.single (easeF (divF d soft)) ∧ fin Ieee.single (subF 1065353216 (easeF (divF d soft))) ∧ Ht (subF 1065353216 (easeF (divF d soft))) := by
    intro h
    rw [lss_V hd hs] at h
    have h := of_decide_eq_true h
    have p : 0 < Ieee.single.V soft := by grind
    have m1 : Ieee.single.V 1065353216 * Ieee.single.V soft = Ieee.single.V soft := by rw [const_1.2.1, Rat.one_mul]
    obtain ⟨q1, q2, q3⟩ := div_bound hd hs p const_1.1 const_1.2.2 (by rw [m1]; grind) (by rw [m1]; grind)
    have q4 := div_nonneg hd hs p q1 d0
    rw [const_1.2.1] at q2
    obtain ⟨_, _, _, e1, e2, e3⟩ := Ieee.Format.ease_ok q1 q4 q2
    have hr := (Ieee.Format.subF_spec const_1.1 e1).2
    have b := hr.bd (k := 0) (by omega) (by rw [const_1.2.1]; show _ ≤ Ieee.P2 0; rw [Ieee.P2_zero]; grind) (by rw [const_1.2.1]; show -Ieee.P2 0 ≤ _; rw [Ieee.P2_zero]; grind)
    have hm := Ieee.P2_mono (show (0 : Int) ≤ 20 by omega)
    have b2 := b.2
    exact ⟨p, ⟨q1, q4, q2⟩, e1, b.1, Ieee.Format.Ht.of ⟨by have := b2.1; simp only [Int.cast_ofNat_Int] at this; grind, by have := b2.2; simp only [Int.cast_ofNat_Int] at this; grind⟩⟩
  refine ⟨hd, hs, fun h => (key h).1, fun h => (key h).2.1, fun h => (key h).2.2.1, fun h => (key h).2.2.2.1, ?_⟩
  unfold sel2
  split
  · rename_i h; exact (key h).2.2.2.2
  · decide
theorem sel_lo {lo hi v : Nat} (soft : Nat) (hlo : Ht lo) (hv : Ht v) (hs : Ht soft) (h : lss v lo = true) : SelOk soft (subF lo v) := by
  have b := (Ieee.Format.Ht.bd hlo).sub (Ieee.Format.Ht.bd hv) (by omega)
  rw [lss_V hv.fin hlo.fin] at h
  have h := of_decide_eq_true h
  exact sel_ok b.1 (sub_nonneg hlo.fin hv.fin b.1 (by grind)) hs.fin
theorem sel_hi {lo hi v : Nat} (soft : Nat) (hhi : Ht hi) (hv : Ht v) (hs : Ht soft) (h : gtr v hi = true) : SelOk soft (subF v hi) := by
  have b := (Ieee.Format.Ht.bd hv).sub (Ieee.Format.Ht.bd hhi) (by omega)
  rw [gtr_V hv.fin hhi.fin] at h
  have h := of_decide_eq_true h
  exact sel_ok b.1 (sub_nonneg hv.fin hhi.fin b.1 (by grind)) hs.fin
theorem selF_ht {lo hi soft v : Nat} (hlo : Ht lo) (hhi : Ht hi) (hs : Ht soft) (hv : Ht v) : Ht (selF lo hi soft v) := by
  unfold selF
  split
  · rename_i h; exact (sel_lo (hi := hi) soft hlo hv hs h).ht
  · split
    · rename_i h; exact (sel_hi (lo := lo) soft hhi hv hs h).ht
    · decide
theorem selF_lt (lo hi soft v : Nat) : selF lo hi soft v < 4294967296 := by
  have h : ∀ d, sel2 soft d < 4294967296 := by
    intro d; unfold sel2; split
    · exact Ieee.Format.subF_lt _ _
    · decide
  unfold selF
  split
  · exact h _
  · split
    · exact h _
    · decide

/-- terraces -/
def ter1 (step v : Nat) : Nat := divF v step
def ter2 (step v : Nat) : Nat := floorF (ter1 step v)
def ter3 (step v : Nat) : Nat := subF (ter1 step v) (ter2 step v)
def ter4 (step sharp v : Nat) : Nat := divF (subF (ter3 step v) sharp) (subF 1065353216 sharp)
def terF (step sharp v : Nat) : Nat := if lss (ter3 step v) sharp = true then mulF (ter2 step v) step else mulF (addF (ter2 step v) (ter4 step sharp v)) step
structure TerOk (step sharp : Nat) : Prop where
  st : Bd 10 step
  st1 : Ieee.P2 (-10) ≤ Ieee.single.V step
  sh : fin Ieee.single sharp
  sh0 : 0 ≤ Ieee.single.V sharp
  sh1 : Ieee.single.V sharp < 1
theorem sharp_gap {s : Nat} (hs : fin Ieee.single s) (h0 : 0 ≤ Ieee.single.V s) (h1 : Ieee.single.V s < 1) : Ieee.single.V s ≤ 1 - Ieee.P2 (-24) := by
  have e : Ieee.single.V s = Ieee.single.rv (Ieee.single.rung s) ∨ Ieee.single.V s = 0 := by
    unfold Ieee.Format.V at *
    have n := Ieee.single.rv_nonneg (Ieee.single.rung s)
    cases hh : Ieee.single.sgn s
    · left; simp [Ieee.sg]
    · right; rw [hh] at h0; simp only [Ieee.sg, if_true] at h0 ⊢; grind
  have p := Ieee.P2_lt (show (-24 : Int) < 0 by omega)
  rw [Ieee.P2_zero] at p
  rcases e with e | e
  · have c1 : Ieee.single.rv 1065353216 = 1 := by
      have := const_1.2.1
      rw [Ieee.Format.V_pos_word const_1.2.2] at this
      exact this
    rw [e, ← c1] at h1
    have hr := Ieee.single.rv_lt_iff.1 h1
    have hm := Ieee.single.rv_mono (show Ieee.single.rung s ≤ 1065353215 by omega)
    have c2 := Ieee.single.rv_succ 1065353215
    rw [show 1065353215 + 1 = 1065353216 from rfl, c1, show Ieee.single.rplace 1065353215 = -24 from by decide] at c2
    rw [e]; grind
  · rw [e]; grind
theorem ter_bd {step sharp v : Nat} (h : TerOk step sharp) (hv : Bd 20 v) :
    Bd 30 (ter1 step v) ∧ Bd 31 (ter2 step v) ∧ Bd 0 (ter3 step v) ∧ Bd 41 (mulF (ter2 step v) step) ∧ Bd 1 (subF (ter3 step v) sharp) ∧ fin Ieee.single (subF 1065353216 sharp) ∧ Ieee.single.V (subF 1065353216 sharp) ≠ 0 ∧ Bd 25 (ter4 step sharp v) ∧ Bd 32 (addF (ter2 step v) (ter4 step sharp v)) ∧ Bd 42 (mulF (addF (ter2 step v) (ter4 step sharp v)) step) ∧ ter1 step v < 4294967296 := by
  have a1 : Bd 30 (ter1 step v) := Ieee.Format.Bd.div (j := 10) hv h.st.1 h.st1 (by omega)
  have l1 : ter1 step v < 4294967296 := Ieee.Format.divF_lt _ _
  have a2 : Bd 31 (ter2 step v) := by
    obtain ⟨X, s, m, i, _, _, _, hf, _, z, g1, g2, g3⟩ := floor_spec a1.1 l1
    refine ⟨hf, ?_⟩
    rw [show ter2 step v = floorF (ter1 step v) from rfl, g1]
    have b := a1.2
    have p30 := Ieee.P2_succ 30
    have p0 := Ieee.P2_mono (show (0 : Int) ≤ 30 by omega)
    rw [Ieee.P2_zero] at p0
    simp only [Int.cast_ofNat_Int] at b ⊢
    rw [show (31 : Int) = 30 + 1 from rfl, p30]
    constructor <;> grind
  obtain ⟨a3, _⟩ := frac_bd a1.1 l1
  have a4 := a2.mul h.st (by omega)
  have p0 : Bd 0 sharp := ⟨h.sh, by
    have := h.sh0; have := h.sh1
    show -Ieee.P2 0 ≤ _ ∧ _ ≤ Ieee.P2 0
    rw [Ieee.P2_zero]; constructor <;> grind⟩
  have a5 := Ieee.Format.Bd.sub (k := 0) a3 p0 (by omega)
  have o0 : Bd 0 1065353216 := Ieee.Format.one_Bd 0
  have a6 := o0.sub p0 (by omega)
  have gap := sharp_gap h.sh h.sh0 h.sh1
  have pp := Ieee.P2_pos (-24)
  have a7 : Ieee.P2 (-24) ≤ Ieee.single.V (subF 1065353216 sharp) := by
    have := (Ieee.Format.subF_spec const_1.1 h.sh).2.ge_const (c := 864026624) a6.1 const_m24.2.2 (by rw [const_m24.2.1]; exact pp) (by rw [const_m24.2.1, const_1.2.1]; grind)
    rw [const_m24.2.1] at this; exact this
  have a8 : Bd 25 (ter4 step sharp v) := Ieee.Format.Bd.div (j := 24) a5 a6.1 a7 (by omega)
  have a9 := a2.add (a8.mono (show 25 ≤ 31 by omega)) (by omega)
  exact ⟨a1, a2, a3, a4, a5, a6.1, by intro e; rw [e] at a7; grind, a8, a9, a9.mul h.st (by omega), l1⟩
theorem terF_lt (step sharp v : Nat) : terF step sharp v < 4294967296 := by
  unfold terF; split <;> exact Ieee.Format.mulF_lt _ _
end Go.Proofs.Ytfmbekdfigbfiaa

namespace Go.Proofs.Ytfmbekdfigbfiaa
open Go.ChangeShapes Go.WideShapes Go.ChangeAt Go.RowKit
open Ieee.Format (fin finE htE allFin allHt all_true all_false mulF subF addF Ht Bd divF rootF floorF easeF mixF)
set_option linter.unusedVariables false

/-! ### a function that counts its calls -/
theorem But.setq {B : Nat} {q : Nat → Prop} {w : World} {p : Addr} (u : Value) (h : q p.block) : But B q w (w.setCell p u) := by
  refine ⟨(Below.setCell (Below.refl 0 w) (Nat.zero_le _) u).os, (Below.setCell (Below.refl 0 w) (Nat.zero_le _) u).tape, (Below.setCell (Below.refl 0 w) (Nat.zero_le _) u).output, (Below.setCell (Below.refl 0 w) (Nat.zero_le _) u).size, ?_⟩
  intro k _ hk
  exact Below.heap_setCell w p u k (fun e => hk (e ▸ h))
theorem But.lowp {B p : Nat} {w w' : World} (h : But B (fun k => k = p) w w') (hp : p ≤ B) : Below p w w' := by
  refine ⟨h.os, h.tape, h.output, h.size, fun k hk => ?_⟩
  exact h.block k (by omega) (by omega)
theorem Blk.but {w w' : World} {B p k : Nat} {cs : Array Value} {t : TypeId} (h : Blk w k cs t) (hb : But B (fun j => j = p) w w') (hk : k < B) (hp : k ≠ p) : Blk w' k cs t := (hb.block k hk hp).trans h
theorem Fld.but {w w' : World} {B p k : Nat} {X Y W H : Int} {v : Value} (h : Fld w k X Y W H v) (hb : But B (fun j => j = p) w w') (hk : k < B) (hp : k ≠ p) : Fld w' k X Y W H v := (hb.block k hk hp).trans h
theorem SRow.but {w w' : World} {B p b o : Nat} {l : List Nat} (h : SRow w (some ⟨b, o, none⟩) l) (hb : But B (fun j => j = p) w w') (hk : b < B) (hp : b ≠ p) : SRow w' (some ⟨b, o, none⟩) l := by
  refine ⟨h.1, ?_⟩
  rcases h.2 with h0 | ⟨b', o', e, h1⟩
  · exact .inl h0
  · simp only [Option.some.injEq, Addr.mk.injEq] at e
    obtain ⟨rfl, rfl, _⟩ := e
    exact .inr ⟨b, o, rfl, fun i hi => by rw [hb.cell hk hp]; exact h1 i hi⟩

abbrev CntAt (w : World) (p : Nat) (c : Int) : Prop := Blk w p #[.int .i64 c] 3
/-- what Make gives whose function counts -/
def MakeCP (p : Nat) (X Y W H : Int) (m : List Nat) (w : World) (e : Ending) (w' : World) : Prop :=
  (∃ g cap, e = .returned (fldV X Y W H (some ⟨g, 0, none⟩) m.length cap) ∧ OwnF w' w.heap.size g cap m) ∧ Below p w w'
theorem make_cnt (gn : Nat) (caps : Array Value) (p : Nat) (ψ : Int → Int → Nat) (X Y : Int) (Wn Hn : Nat) (w : World) (h1 : 1 ≤ Wn) (h2 : Wn ≤ 512) (h3 : 1 ≤ Hn) (h4 : Hn ≤ 512)
    (h5 : -8388608 ≤ X) (h6 : X ≤ 8388608) (h7 : -8388608 ≤ Y) (h8 : Y ≤ 8388608)
    (eg : ∀ args w, (callFunc gn args).run Try.prog w = .ok (.enter gn args) w) (hp : CntAt w p (-1))
    (hψ : ∀ x y, ψ x y < 4294967296)
    (hf : ∀ i j k : Nat, i < Wn → j < Hn → k = j * Wn + i → ∀ W', But w.heap.size (fun k => k = p) w W' → CntAt W' p ((k : Int) - 1) → Calls Try.prog gn (#[.int .i64 (X + (i : Int)), .int .i64 (Y + (j : Int))] ++ caps) W' fun e w' => e = .returned (.float .f32 (ψ (X + (i : Int)) (Y + (j : Int)))) ∧ But W'.heap.size (fun k => k = p) W' w' ∧ CntAt w' p (k : Int)) :
    Calls Try.prog 144 #[reg X Y Wn Hn, .func (.func gn) #[] caps] w fun e w' => MakeCP p X Y Wn Hn (madeL ψ X Y Wn (Hn * Wn)) w e w' := by
  have hpl := hp.lt
  refine (make_st gn caps (fun k => k = p) (fun n W => CntAt W p ((n : Int) - 1)) ψ X Y Wn Hn w h1 h2 h3 h4 h5 h6 h7 h8 eg (fun k hk => by omega) (by show CntAt w p (((0 : Nat) : Int) - 1); rw [show (((0 : Nat) : Int) - 1) = -1 by decide]; exact hp) (fun n W W' hs h hb => h.below hb hpl) (fun x y _ _ _ _ => hψ x y) ?_).mono ?_
  · intro i j hi hj W' hb hJ
    refine (hf i j _ hi hj rfl W' hb hJ).mono ?_
    rintro e w' ⟨he, h9, h10⟩
    refine ⟨he, h9, ?_⟩
    rw [show ((j * Wn + i + 1 : Nat) : Int) - 1 = ((j * Wn + i : Nat) : Int) by omega]
    exact h10
  · rintro e w' ⟨h9, h10, _⟩
    exact ⟨h9, h10.lowp (by omega)⟩

/-- the number of a cell by its row and column -/
theorem cell_ij {X Y : Int} {Wn : Nat} {i j k : Nat} (h : k = j * Wn + i) : (cellNo X Y Wn (X + (i : Int)) (Y + (j : Int))).toNat = k := by
  unfold cellNo
  rw [show Y + (j : Int) - Y = (j : Int) by omega, ← Int.natCast_mul]
  omega
theorem cell_lt {Wn Hn i j k : Nat} (hi : i < Wn) (hj : j < Hn) (h : k = j * Wn + i) : k < Hn * Wn := by
  have := Nat.mul_le_mul_right Wn (show j + 1 ≤ Hn from hj)
  rw [Nat.add_mul, Nat.one_mul] at this
  omega

/-! ### Ease of a share -/
theorem shareE_of {t : Nat} (h : Share t) : shareE t = 0 := by
  refine shareE_ok h.1 ?_
  have a : lss t 0 = false := by
    have : lss t 0 = decide (Ieee.single.V t < Ieee.single.V 0) := Ieee.single.order_lt h.1 Ieee.Format.const_0.1
    rw [this, Ieee.Format.const_0.2.1]; have := h.2.1; simp; grind
  have b : gtr t 1065353216 = false := by
    have : gtr t 1065353216 = decide (Ieee.single.V 1065353216 < Ieee.single.V t) := Ieee.single.order_gt h.1 Ieee.Format.const_1.1
    rw [this, Ieee.Format.const_1.2.1]; have := h.2.2; simp; grind
  rw [a, b]; rfl
end Go.Proofs.Ytfmbekdfigbfiaa

namespace Go.Proofs.Ytfmbekdfigbfiaa
open Go.ChangeShapes Go.WideShapes Go.ChangeAt Go.RowKit
open Ieee.Format (fin finE htE allFin allHt all_true all_false mulF subF addF Ht Bd divF rootF floorF easeF mixF)
set_option linter.unusedVariables false

end Go.Proofs.Ytfmbekdfigbfiaa

namespace Go.Proofs.Ytfmbekdfigbfiaa
open Go.ChangeShapes Go.WideShapes Go.ChangeAt Go.RowKit
open Ieee.Format (fin finE htE allFin allHt all_true all_false mulF subF addF Ht Bd divF rootF floorF easeF mixF)
set_option linter.unusedVariables false
open Ieee.Format (negF gradF nxF nyF nzF grad_bd normal_bd shade1 shade2 shade_bd)

theorem refgreater_any (x y : Nat) (w : World) : Calls Try.prog 71 #[.float .f32 x, .float .f32 y] w fun e w' => e = .returned (.float .f32 (if gtr y x = true then y else x)) ∧ w = w' := by
  cases h : gtr y x with
  | true =>
    change (FloatKind.f32.format.order y x == some .gt) = true at h
    rw [if_pos rfl]
    go_enter Try.func71, Try.ntmps71
    go_wp2
    go_ret
    exact ⟨rfl, rfl⟩
  | false =>
    change (FloatKind.f32.format.order y x == some .gt) = false at h
    rw [if_neg (by decide)]
    go_enter Try.func71, Try.ntmps71
    go_wp2
    go_ret
    exact ⟨rfl, rfl⟩

end Go.Proofs.Ytfmbekdfigbfiaa

namespace Go.Proofs.Ytfmbekdfigbfiaa
open Go.ChangeShapes Go.WideShapes Go.ChangeAt Go.RowKit
open Ieee.Format (fin finE htE allFin allHt all_true all_false mulF subF addF Ht Bd divF rootF floorF easeF mixF)
set_option linter.unusedVariables false
open Ieee.Format (const_0 const_1)

end Go.Proofs.Ytfmbekdfigbfiaa

namespace Go.Proofs.Ytfmbekdfigbfiaa
open Go.ChangeShapes Go.WideShapes Go.ChangeAt Go.RowKit
open Ieee.Format (fin finE htE allFin allHt all_true all_false mulF subF addF Ht Bd divF rootF floorF easeF mixF)
set_option linter.unusedVariables false
open Ieee.Format (const_40 frac_bd frac_zero conv_exact)

theorem finites_two (W : World) (g x y : Nat) (hx : x < 4294967296) (hy : y < 4294967296) (h0 : W.cell? ⟨g, 0, none⟩ = some (.float .f32 x)) (h1 : W.cell? ⟨g, 1, none⟩ = some (.float .f32 y)) :
    Calls Try.prog 142 #[.slice (some ⟨g, 0, none⟩) 2 2] W fun e w' => e = .returned (.int .i64 (finE [x, y])) ∧ W = w' := finites_any (some ⟨g, 0, none⟩) 2 [x, y] W (row_two_at W g x y hx hy h0 h1)
theorem finE_two {x y : Nat} (h : finE [x, y] = 0) : fin Ieee.single x ∧ fin Ieee.single y := by
  cases ha : allFin [x, y] with
  | true =>
    unfold allFin at ha
    simpa using ha
  | false => have := Ieee.Format.finE_bad ha; omega
theorem finE_two_bad {x y : Nat} (h : finE [x, y] ≠ 0) : finE [x, y] = 2 ∧ (¬ fin Ieee.single x ∨ ¬ fin Ieee.single y) := by
  cases ha : allFin [x, y] with
  | true => exact absurd (Ieee.Format.finE_ok ha) h
  | false =>
    refine ⟨Ieee.Format.finE_bad ha, ?_⟩
    apply Classical.byContradiction
    intro hn
    have h1 : fin Ieee.single x ∧ fin Ieee.single y := ⟨Classical.byContradiction fun c => hn (.inl c), Classical.byContradiction fun c => hn (.inr c)⟩
    have : allFin [x, y] = true := by unfold allFin; simpa using h1
    rw [this] at ha; cases ha

theorem Right.bd' {X Y : Int} {Wn Hn : Nat} {l : List Nat} (h : Right X Y Wn Hn l) (i : Nat) : Bd 20 (l.getD i 0) := Ieee.Format.Ht.bd (h.getD i)
def bilCode (x y : Nat) (R : Option Nat) : Int := if finE [x, y] ≠ 0 then finE [x, y] else bilC R
def bilVal (c : Int) (R : Option Nat) : Nat := if c = 0 then R.getD 0 else 0
theorem bilC_ne {v : Nat} (h : ¬ Ht v) (hf : fin Ieee.single v) : bilC (some v) = 3 := by
  show outE [v] = 3
  unfold outE
  have : htE [v] = 3 := Ieee.Format.htE_far (by unfold allFin; simp [hf]) (by cases hh : allHt [v]; rfl; exact absurd (Ieee.Format.allHt_iff.1 hh v (by simp)) h)
  rw [this]; rfl
theorem bilC_ok {v : Nat} (h : Ht v) : bilC (some v) = 0 := by
  show outE [v] = 0
  unfold outE
  rw [Ieee.Format.htE_of_ht (Ieee.Format.allHt_iff.2 (by simpa using h))]; rfl

end Go.Proofs.Ytfmbekdfigbfiaa

namespace Go.Proofs.Ytfmbekdfigbfiaa
open Go.ChangeShapes Go.WideShapes Go.ChangeAt Go.RowKit
open Ieee.Format (fin finE htE allFin allHt all_true all_false mulF subF addF Ht Bd divF rootF floorF easeF mixF)
set_option linter.unusedVariables false
open Ieee.Format (const_40 frac_bd frac_zero conv_exact)

abbrev mag (x : Nat) : Nat := x % 2147483648
theorem mag_parts (x : Nat) : Ieee.single.rung (mag x) = Ieee.single.rung x ∧ Ieee.single.sgn (mag x) = false := by
  constructor
  · rw [Ieee.Format.rung_lit, Ieee.Format.rung_lit]; show x % 2147483648 % 2147483648 = _; rw [Nat.mod_mod]
  · rw [Ieee.Format.sgn_lit]
    have : mag x / 2147483648 = 0 := Nat.div_eq_of_lt (Nat.mod_lt _ (by decide))
    rw [this]; rfl
theorem mag_fin {x : Nat} (h : fin Ieee.single x) : fin Ieee.single (mag x) := by unfold fin at *; rw [(mag_parts x).1]; exact h
theorem mag_V (x : Nat) : 0 ≤ Ieee.single.V (mag x) ∧ (Ieee.single.V (mag x) = Ieee.single.V x ∨ Ieee.single.V (mag x) = -Ieee.single.V x) := by
  have e := Ieee.Format.V_pos_word (mag_parts x).2
  rw [(mag_parts x).1] at e
  have n := Ieee.single.rv_nonneg (Ieee.single.rung x)
  refine ⟨by rw [e]; exact n, ?_⟩
  rw [e]
  unfold Ieee.Format.V
  cases Ieee.single.sgn x
  · left; simp [Ieee.sg]
  · right; simp only [Ieee.sg, if_true]; grind

theorem far_none {X Y : Int} {Wn Hn : Nat} {l : List Nat} {x y : Nat} (hr : Right X Y Wn Hn l) (hx : fin Ieee.single x) (hy : fin Ieee.single y) (lx : x < 4294967296) (ly : y < 4294967296) (h : gtr (mag x) 1258291200 = true ∨ gtr (mag y) 1258291200 = true) : betR X Y Wn Hn l x y = none := by
  have out : ∀ v, fin Ieee.single v → v < 4294967296 → gtr (mag v) 1258291200 = true → 8388608 ≤ wholeF v ∨ wholeF v < -8388608 := by
    intro v hv lv hg
    rw [gtr_V (mag_fin hv) const_23.1, const_23.2.1] at hg
    have hg := of_decide_eq_true hg
    have e23 : Ieee.P2 23 = ((8388608 : Int) : Rat) := Ieee.P2_nat 23
    unfold wholeF
    split
    · right; omega
    · split
      · left; omega
      · rename_i h1 h2
        rw [lss_V hv const_n40.1, const_n40.2] at h1
        rw [gtr_V hv const_40.1, const_40.2.1] at h2
        simp only [decide_eq_true_eq] at h1 h2
        obtain ⟨_, _, f1, f2, _, _⟩ := floorZ_spec hv lv (by grind) (by grind)
        rcases (mag_V v).2 with e | e
        · left
          rw [e, e23] at hg
          have : ((8388608 : Int) : Rat) < ((floorZ v + 1 : Int) : Rat) := by
            rw [Rat.intCast_add]; have : ((1 : Int) : Rat) = 1 := rfl; grind
          have := Rat.intCast_lt_intCast.1 this
          omega
        · right
          rw [e, e23] at hg
          have : (floorZ v : Rat) < ((-8388608 : Int) : Rat) := by
            rw [show (-8388608 : Int) = -(8388608 : Int) from rfl, Rat.intCast_neg]; grind
          exact Rat.intCast_lt_intCast.1 this
  have g1 := hr.x1; have g2 := hr.x2; have g3 := hr.y1; have g4 := hr.y2
  have hrow : rowV X Y Wn Hn l (wholeF x) (wholeF y) (subF x (floorF x)) = none := by
    unfold rowV
    rw [if_neg]
    unfold inR
    rcases h with h | h
    · have := out x hx lx h; omega
    · have := out y hy ly h; omega
  unfold betR bilV
  rw [hrow]

theorem near_whole {x : Nat} (hx : fin Ieee.single x) (lx : x < 4294967296) (h : gtr (mag x) 1258291200 = false) : wholeF x = floorZ x ∧ floatToIntVal .f32 (floorF x) .i64 = some (floorZ x) ∧ -16777216 ≤ floorZ x ∧ floorZ x ≤ 16777216 := by
  rw [gtr_V (mag_fin hx) const_23.1, const_23.2.1] at h
  have h := of_decide_eq_false h
  have m := (mag_V x).1
  have hb : -Ieee.P2 23 ≤ Ieee.single.V x ∧ Ieee.single.V x ≤ Ieee.P2 23 := by rcases (mag_V x).2 with e | e <;> rw [e] at h m <;> constructor <;> grind
  have p := Ieee.P2_lt (show (23 : Int) < 40 by omega)
  obtain ⟨f0, _, f1, f2, _, _⟩ := floorZ_spec hx lx (by grind) (by grind)
  have e23 : Ieee.P2 23 = ((8388608 : Int) : Rat) := Ieee.P2_nat 23
  refine ⟨?_, f0, ?_, ?_⟩
  · unfold wholeF
    rw [lss_V hx const_n40.1, const_n40.2, gtr_V hx const_40.1, const_40.2.1, if_neg (by simp; grind), if_neg (by simp; grind)]
  · have : ((-8388608 : Int) : Rat) < ((floorZ x + 1 : Int) : Rat) := by
      rw [Rat.intCast_add, show (-8388608 : Int) = -(8388608 : Int) from rfl, Rat.intCast_neg, ← e23]; have : ((1 : Int) : Rat) = 1 := rfl; grind
    have := Rat.intCast_lt_intCast.1 this
    omega
  · have : (floorZ x : Rat) ≤ ((8388608 : Int) : Rat) := by rw [← e23]; grind
    have := Rat.intCast_le_intCast.1 this
    omega

theorem htE_one_fin {x : Nat} (h : fin Ieee.single x) : (htE [x] == 2) = false := by
  have a : allFin [x] = true := by unfold allFin; simp [h]
  cases hh : allHt [x] with
  | true => rw [Ieee.Format.htE_ok a hh]; rfl
  | false => rw [Ieee.Format.htE_far a hh]; rfl
theorem htE_one_bad {x : Nat} (h : ¬ fin Ieee.single x) : htE [x] = 2 := Ieee.Format.htE_bad (by unfold allFin; simp [h])

end Go.Proofs.Ytfmbekdfigbfiaa


namespace Go.Proofs.Ytfmbekdfigbfiaa
open Go.ChangeShapes Go.WideShapes Go.ChangeAt Go.RowKit
open Ieee.Format (fin finE htE allFin allHt all_true all_false mulF subF addF Ht Bd divF rootF floorF easeF mixF)
set_option linter.unusedVariables false
open Ieee.Format (const_0 const_1)

theorem CntAt.setc {w : World} {p : Nat} {c : Int} (h : CntAt w p c) (d : Int) : CntAt (w.setCell ⟨p, 0, none⟩ (.int .i64 d)) p d := by
  exact one_setCell h
/-- what a counting closure sees -/
structure CntSt (W : World) (p q b o c : Nat) (X Y W1 H1 : Int) (l : List Nat) (k : Nat) : Prop where
  cnt : CntAt W p ((k : Int) - 1)
  fo : Fld W q X Y W1 H1 (.slice (some ⟨b, o, none⟩) l.length c)
  row : SRow W (some ⟨b, o, none⟩) l
  qp : q ≠ p
  bp : b ≠ p
  kl : k < l.length
  bl : b < W.heap.size

theorem blk_cell1 {w w' : World} {p k : Nat} {v : Value} {t : TypeId} (h : Blk w k #[v] t) (hb : But w.heap.size (fun j => j = p) w w') (hp : k ≠ p) : w'.cell? ⟨k, 0, none⟩ = some v := (h.but hb h.lt hp).cell 0

end Go.Proofs.Ytfmbekdfigbfiaa

namespace Go.Proofs.Ytfmbekdfigbfiaa
open Go.ChangeShapes Go.WideShapes Go.ChangeAt Go.RowKit
open Ieee.Format (fin finE htE allFin allHt all_true all_false mulF subF addF Ht Bd divF rootF floorF easeF mixF)
set_option linter.unusedVariables false

theorem box_f3z (w : World) (X Y W H : Int) (v : Value) (x y z : Int) : ∀ W0, W0 = ((((w.alloc (.cells #[.int .i64 X, .int .i64 Y, .int .i64 W, .int .i64 H, v] 26)).alloc (.cells #[.int .i64 x] 3)).alloc (.cells #[.int .i64 y] 3)).alloc (.cells #[.int .i64 z] 3)).alloc (.cells #[.int .i64 0, .int .i64 0, .int .i64 0, .int .i64 0, .slice none 0 0] 26) →
    Fld W0 w.heap.size X Y W H v ∧ Blk W0 (w.heap.size + 1) #[.int .i64 x] 3 ∧ Blk W0 (w.heap.size + 1 + 1) #[.int .i64 y] 3 ∧ Blk W0 (w.heap.size + 1 + 1 + 1) #[.int .i64 z] 3 ∧ Fld W0 (w.heap.size + 1 + 1 + 1 + 1) 0 0 0 0 (.slice none 0 0) ∧ Below w.heap.size w W0 := by
  rintro _ rfl
  refine ⟨((((Fld.new w X Y W H v).alloc _).alloc _).alloc _).alloc _, ?_, ?_, ?_, ?_, (by repeat (first | with_reducible exact Below.refl _ _ | with_reducible apply Below.drew | with_reducible refine below_drewN ?_ _ | (with_reducible refine Below.setCell ?_ ?_ _; rotate_left; focus (first | omega | (simp <;> omega))) | (with_reducible refine Below.alloc ?_ ?_ _; rotate_left; focus (first | omega | (simp <;> omega)))))⟩
  · have := (((Blk.new (w.alloc (.cells #[.int .i64 X, .int .i64 Y, .int .i64 W, .int .i64 H, v] 26)) #[.int .i64 x] 3).alloc (.cells #[.int .i64 y] 3)).alloc (.cells #[.int .i64 z] 3)).alloc (.cells #[.int .i64 0, .int .i64 0, .int .i64 0, .int .i64 0, .slice none 0 0] 26)
    simpa using this
  · have := ((Blk.new ((w.alloc (.cells #[.int .i64 X, .int .i64 Y, .int .i64 W, .int .i64 H, v] 26)).alloc (.cells #[.int .i64 x] 3)) #[.int .i64 y] 3).alloc (.cells #[.int .i64 z] 3)).alloc (.cells #[.int .i64 0, .int .i64 0, .int .i64 0, .int .i64 0, .slice none 0 0] 26)
    simpa using this
  · have := (Blk.new (((w.alloc (.cells #[.int .i64 X, .int .i64 Y, .int .i64 W, .int .i64 H, v] 26)).alloc (.cells #[.int .i64 x] 3)).alloc (.cells #[.int .i64 y] 3)) #[.int .i64 z] 3).alloc (.cells #[.int .i64 0, .int .i64 0, .int .i64 0, .int .i64 0, .slice none 0 0] 26)
    simpa using this
  · have := Fld.new ((((w.alloc (.cells #[.int .i64 X, .int .i64 Y, .int .i64 W, .int .i64 H, v] 26)).alloc (.cells #[.int .i64 x] 3)).alloc (.cells #[.int .i64 y] 3)).alloc (.cells #[.int .i64 z] 3)) 0 0 0 0 (.slice none 0 0)
    simpa using this

end Go.Proofs.Ytfmbekdfigbfiaa

namespace Go.Proofs.Ytfmbekdfigbfiaa
open Go.ChangeShapes Go.WideShapes Go.ChangeAt Go.RowKit
open Ieee.Format (fin finE htE allFin allHt all_true all_false mulF subF addF Ht Bd divF rootF floorF easeF mixF)
set_option linter.unusedVariables false

theorem row_three_at (W : World) (g x y z : Nat) (hx : x < 4294967296) (hy : y < 4294967296) (hz : z < 4294967296) (h0 : W.cell? ⟨g, 0, none⟩ = some (.float .f32 x)) (h1 : W.cell? ⟨g, 1, none⟩ = some (.float .f32 y)) (h2 : W.cell? ⟨g, 2, none⟩ = some (.float .f32 z)) : SRow W (some ⟨g, 0, none⟩) [x, y, z] := by
  refine ⟨⟨by simp, by simp; exact ⟨hx, hy, hz⟩⟩, .inr ⟨g, 0, rfl, ?_⟩⟩
  intro i hi
  match i, hi with
  | 0, _ => exact h0
  | 1, _ => exact h1
  | 2, _ => exact h2
theorem heights_three (W : World) (g x y z : Nat) (hx : x < 4294967296) (hy : y < 4294967296) (hz : z < 4294967296) (h0 : W.cell? ⟨g, 0, none⟩ = some (.float .f32 x)) (h1 : W.cell? ⟨g, 1, none⟩ = some (.float .f32 y)) (h2 : W.cell? ⟨g, 2, none⟩ = some (.float .f32 z)) :
    Calls Try.prog 131 #[.slice (some ⟨g, 0, none⟩) 3 3] W fun e w' => e = .returned (.int .i64 (htE [x, y, z])) ∧ W = w' := heights_any (some ⟨g, 0, none⟩) 3 [x, y, z] W (row_three_at W g x y z hx hy hz h0 h1 h2)
theorem refheight_three (W : World) (g x y z : Nat) (hx : x < 4294967296) (hy : y < 4294967296) (hz : z < 4294967296) (h0 : W.cell? ⟨g, 0, none⟩ = some (.float .f32 x)) (h1 : W.cell? ⟨g, 1, none⟩ = some (.float .f32 y)) (h2 : W.cell? ⟨g, 2, none⟩ = some (.float .f32 z)) :
    Calls Try.prog 62 #[.slice (some ⟨g, 0, none⟩) 3 3] W fun e w' => e = .returned (.int .i64 (htE [x, y, z])) ∧ W = w' := refheight_any (some ⟨g, 0, none⟩) 3 [x, y, z] W (row_three_at W g x y z hx hy hz h0 h1 h2)

theorem box_f3c (w : World) (X Y W H : Int) (v : Value) (c1 c2 c3 : Array Value) (t : TypeId) : ∀ W0, W0 = ((((w.alloc (.cells #[.int .i64 X, .int .i64 Y, .int .i64 W, .int .i64 H, v] 26)).alloc (.cells c1 t)).alloc (.cells c2 t)).alloc (.cells c3 t)).alloc (.cells #[.int .i64 0, .int .i64 0, .int .i64 0, .int .i64 0, .slice none 0 0] 26) →
    Fld W0 w.heap.size X Y W H v ∧ Blk W0 (w.heap.size + 1) c1 t ∧ Blk W0 (w.heap.size + 1 + 1) c2 t ∧ Blk W0 (w.heap.size + 1 + 1 + 1) c3 t ∧ Fld W0 (w.heap.size + 1 + 1 + 1 + 1) 0 0 0 0 (.slice none 0 0) ∧ Below w.heap.size w W0 := by
  rintro _ rfl
  refine ⟨((((Fld.new w X Y W H v).alloc _).alloc _).alloc _).alloc _, ?_, ?_, ?_, ?_, (by repeat (first | with_reducible exact Below.refl _ _ | with_reducible apply Below.drew | with_reducible refine below_drewN ?_ _ | (with_reducible refine Below.setCell ?_ ?_ _; rotate_left; focus (first | omega | (simp <;> omega))) | (with_reducible refine Below.alloc ?_ ?_ _; rotate_left; focus (first | omega | (simp <;> omega)))))⟩
  · have := (((Blk.new (w.alloc (.cells #[.int .i64 X, .int .i64 Y, .int .i64 W, .int .i64 H, v] 26)) c1 t).alloc (.cells c2 t)).alloc (.cells c3 t)).alloc (.cells #[.int .i64 0, .int .i64 0, .int .i64 0, .int .i64 0, .slice none 0 0] 26)
    simpa using this
  · have := ((Blk.new ((w.alloc (.cells #[.int .i64 X, .int .i64 Y, .int .i64 W, .int .i64 H, v] 26)).alloc (.cells c1 t)) c2 t).alloc (.cells c3 t)).alloc (.cells #[.int .i64 0, .int .i64 0, .int .i64 0, .int .i64 0, .slice none 0 0] 26)
    simpa using this
  · have := (Blk.new (((w.alloc (.cells #[.int .i64 X, .int .i64 Y, .int .i64 W, .int .i64 H, v] 26)).alloc (.cells c1 t)).alloc (.cells c2 t)) c3 t).alloc (.cells #[.int .i64 0, .int .i64 0, .int .i64 0, .int .i64 0, .slice none 0 0] 26)
    simpa using this
  · have := Fld.new ((((w.alloc (.cells #[.int .i64 X, .int .i64 Y, .int .i64 W, .int .i64 H, v] 26)).alloc (.cells c1 t)).alloc (.cells c2 t)).alloc (.cells c3 t)) 0 0 0 0 (.slice none 0 0)
    simpa using this

/-- the field's values, each given to a function: by a function that counts -/
theorem make_map (gn : Nat) (caps : Array Value) (p : Nat) (φ : Nat → Nat) (X Y : Int) (Wn Hn : Nat) (l : List Nat) (w : World) (hr : Right X Y Wn Hn l)
    (eg : ∀ args w, (callFunc gn args).run Try.prog w = .ok (.enter gn args) w) (hp : CntAt w p (-1)) (hφ : ∀ v, φ v < 4294967296)
    (hf : ∀ x y (k : Nat), k < l.length → ∀ W', But w.heap.size (fun k => k = p) w W' → CntAt W' p ((k : Int) - 1) → Calls Try.prog gn (#[.int .i64 x, .int .i64 y] ++ caps) W' fun e w' => e = .returned (.float .f32 (φ (l.getD k 0))) ∧ But W'.heap.size (fun k => k = p) W' w' ∧ CntAt w' p (k : Int)) :
    Calls Try.prog 144 #[reg X Y Wn Hn, .func (.func gn) #[] caps] w fun e w' => MakeCP p X Y Wn Hn (l.map φ) w e w' := by
  have g1 := hr.w1; have g2 := hr.w2; have g3 := hr.h1; have g4 := hr.h2; have g5 := hr.x1; have g6 := hr.x2; have g7 := hr.y1; have g8 := hr.y2
  have := make_cnt gn caps p (fun x y => φ (l.getD (cellNo X Y Wn x y).toNat 0)) X Y Wn Hn w (by omega) (by omega) (by omega) (by omega) (by omega) (by omega) (by omega) (by omega) eg hp (fun x y => hφ _) ?_
  · rw [madeL_map φ X Y Wn Hn l (by omega) hr.len] at this
    exact this
  · intro i j k hi hj hk W' hb hc
    rw [cell_ij hk]
    exact hf _ _ k (by rw [hr.len]; exact cell_lt hi hj hk) W' hb hc

def selC (lo hi soft : Nat) : Int := if htE [lo, hi, soft] ≠ 0 then htE [lo, hi, soft] else if gtr lo hi = true then 8 else if lss soft 0 = true then 3 else 0

end Go.Proofs.Ytfmbekdfigbfiaa

namespace Go.Proofs.Ytfmbekdfigbfiaa
open Go.ChangeShapes Go.WideShapes Go.ChangeAt Go.RowKit
open Ieee.Format (fin finE htE allFin allHt all_true all_false mulF subF addF Ht Bd divF rootF floorF easeF mixF)
set_option linter.unusedVariables false

theorem SRow.blt {w : World} {b o : Nat} {l : List Nat} (h : SRow w (some ⟨b, o, none⟩) l) (hn : 0 < l.length) : b < w.heap.size := by
  have := h.at_ hn
  rcases Nat.lt_or_ge b w.heap.size with hlt | hge
  · exact hlt
  · simp [World.cell?, Array.getElem?_eq_none hge] at this
theorem Right.pos {X Y : Int} {Wn Hn : Nat} {l : List Nat} (h : Right X Y Wn Hn l) : 0 < l.length := by
  have := Nat.mul_le_mul h.h1 h.w1
  rw [← h.len] at this; omega
theorem Right.small {X Y : Int} {Wn Hn : Nat} {l : List Nat} (h : Right X Y Wn Hn l) : l.length ≤ 1099511627776 := by
  have h1 := Nat.mul_le_mul h.h2 h.w2
  rw [← h.len] at h1; omega

theorem sel_zero {lo hi soft : Nat} (h : selC lo hi soft = 0) : htE [lo, hi, soft] = 0 ∧ gtr lo hi = false ∧ lss soft 0 = false := by
  unfold selC at h
  by_cases h1 : htE [lo, hi, soft] = 0
  · rw [if_neg (by omega)] at h
    cases h2 : gtr lo hi with
    | true => rw [h2, if_pos rfl] at h; omega
    | false =>
      rw [h2, if_neg (by decide)] at h
      cases h3 : lss soft 0 with
      | true => rw [h3, if_pos rfl] at h; omega
      | false => exact ⟨h1, rfl, rfl⟩
  · rw [if_pos h1] at h; exact absurd h h1
theorem sel_hts {lo hi soft : Nat} (h : htE [lo, hi, soft] = 0) : Ht lo ∧ Ht hi ∧ Ht soft := by
  have := Ieee.Format.allHt_iff.1 (Ieee.Format.htE_zero h)
  exact ⟨this _ (by simp), this _ (by simp), this _ (by simp)⟩
theorem map_ht {φ : Nat → Nat} {l : List Nat} (h : ∀ x ∈ l, Ht (φ x)) : resC (l.map φ) = 0 := by
  unfold resC
  rw [if_pos]
  exact Ieee.Format.allHt_iff.2 (fun x hx => by obtain ⟨y, hy, rfl⟩ := List.mem_map.1 hx; exact h y hy)

theorem cnt_world (w : World) (cs : Array Value) (t : TypeId) : ∀ W0, W0 = (w.alloc (.cells cs t)).alloc (.cells #[.int .i64 (-1)] 3) → CntAt W0 (w.heap.size + 1) (-1) ∧ Below w.heap.size w W0 ∧ W0.heap.size = w.heap.size + 2 := by
  rintro _ rfl
  refine ⟨?_, (by repeat (first | with_reducible exact Below.refl _ _ | with_reducible apply Below.drew | with_reducible refine below_drewN ?_ _ | (with_reducible refine Below.setCell ?_ ?_ _; rotate_left; focus (first | omega | (simp <;> omega))) | (with_reducible refine Below.alloc ?_ ?_ _; rotate_left; focus (first | omega | (simp <;> omega))))), by simp⟩
  have := Blk.new (w.alloc (.cells cs t)) #[.int .i64 (-1)] 3
  simpa using this

end Go.Proofs.Ytfmbekdfigbfiaa

namespace Go.Proofs.Ytfmbekdfigbfiaa
open Go.ChangeShapes Go.WideShapes Go.ChangeAt Go.RowKit
open Ieee.Format (fin finE htE allFin allHt all_true all_false mulF subF addF Ht Bd divF rootF floorF easeF mixF)
set_option linter.unusedVariables false

/-- the field's values, each given to a function: by the reference -/
theorem made_map (gn : Nat) (caps : Array Value) (φ : Nat → Nat) (X Y : Int) (Wn Hn : Nat) (l : List Nat) (w : World) (hr : Right X Y Wn Hn l)
    (eg : ∀ args w, (callFunc gn args).run Try.prog w = .ok (.enter gn args) w) (hφ : ∀ v, φ v < 4294967296)
    (hf : ∀ x y, X ≤ x → x < X + Wn → Y ≤ y → y < Y + Hn → ∀ W', Below w.heap.size w W' → Calls Try.prog gn (#[.int .i64 x, .int .i64 y] ++ caps) W' fun e w' => e = .returned (.float .f32 (φ (l.getD (cellNo X Y Wn x y).toNat 0))) ∧ Below W'.heap.size W' w') :
    Calls Try.prog 74 #[reg X Y Wn Hn, .func (.func gn) #[] caps] w fun e w' => OpP (resC (l.map φ)) X Y Wn Hn (l.map φ) w e w' := by
  have g1 := hr.w1; have g2 := hr.w2; have g3 := hr.h1; have g4 := hr.h2; have g5 := hr.x1; have g6 := hr.x2; have g7 := hr.y1; have g8 := hr.y2
  have := made_any gn caps (fun x y => φ (l.getD (cellNo X Y Wn x y).toNat 0)) X Y Wn Hn w (by omega) (by omega) (by omega) (by omega) (by omega) (by omega) (by omega) (by omega) eg (fun x y _ _ _ _ => hφ _) hf
  rw [madeL_map φ X Y Wn Hn l (by omega) hr.len] at this
  exact this.mono fun e w' h => h.res.op

end Go.Proofs.Ytfmbekdfigbfiaa

namespace Go.Proofs.Ytfmbekdfigbfiaa
open Go.ChangeShapes Go.WideShapes Go.ChangeAt Go.RowKit
open Ieee.Format (fin finE htE allFin allHt all_true all_false mulF subF addF Ht Bd divF rootF floorF easeF mixF)
set_option linter.unusedVariables false

def gee (x y : Nat) : Bool := FloatKind.f32.format.order x y == some .gt || FloatKind.f32.format.order x y == some .eq
theorem const_k10 : fin Ieee.single 1149239296 ∧ Ieee.single.V 1149239296 = Ieee.P2 10 := by
  have := Ieee.Format.V_const false 136 8388608 (.inr (by decide)) (by decide) (by decide)
  rw [show Ieee.single.word false (136 * 8388608 + 8388608) = 1149239296 from by decide] at this
  refine ⟨this.1, ?_⟩
  rw [this.2.1, show ((136 : Nat) : Int) - 149 = -13 from rfl, show ((8388608 : Nat) : Rat) = Ieee.P2 23 from (Ieee.P2_nat 23).symm, ← Ieee.P2_add]
  simp [Ieee.sg]
theorem const_m10 : fin Ieee.single 981467136 ∧ Ieee.single.V 981467136 = Ieee.P2 (-10) := by
  have := Ieee.Format.V_const false 116 8388608 (.inr (by decide)) (by decide) (by decide)
  rw [show Ieee.single.word false (116 * 8388608 + 8388608) = 981467136 from by decide] at this
  refine ⟨this.1, ?_⟩
  rw [this.2.1, show ((116 : Nat) : Int) - 149 = -33 from rfl, show ((8388608 : Nat) : Rat) = Ieee.P2 23 from (Ieee.P2_nat 23).symm, ← Ieee.P2_add]
  simp [Ieee.sg]

def stepC (s : Nat) : Int := if lss s 981467136 = true then 3 else if gtr s 1149239296 = true then 3 else 0
def terC (s h : Nat) : Int := if htE [s, h] ≠ 0 then htE [s, h] else if stepC s ≠ 0 then 3 else if lss h 0 = true then 3 else if gee h 1065353216 = true then 3 else 0
theorem ter_zero {s h : Nat} (hz : terC s h = 0) : htE [s, h] = 0 ∧ stepC s = 0 ∧ lss h 0 = false ∧ gee h 1065353216 = false ∧ TerOk s h := by
  unfold terC at hz
  by_cases h1 : htE [s, h] = 0
  · rw [if_neg (by omega)] at hz
    have ht := Ieee.Format.allHt_iff.1 (Ieee.Format.htE_zero h1)
    have hs := ht s (by simp)
    have hh := ht h (by simp)
    by_cases h2 : stepC s = 0
    · rw [if_neg (by omega)] at hz
      cases h3 : lss h 0 with
      | true => rw [h3, if_pos rfl] at hz; omega
      | false =>
        rw [h3, if_neg (by decide)] at hz
        cases h4 : gee h 1065353216 with
        | true => rw [h4, if_pos rfl] at hz; omega
        | false =>
          refine ⟨h1, h2, rfl, rfl, ?_⟩
          have h2' := h2
          unfold stepC at h2'
          cases a1 : lss s 981467136 with
          | true => rw [a1, if_pos rfl] at h2'; omega
          | false =>
            rw [a1, if_neg (by decide)] at h2'
            cases a2 : gtr s 1149239296 with
            | true => rw [a2, if_pos rfl] at h2'; omega
            | false =>
              rw [lss_V hs.fin const_m10.1, const_m10.2] at a1
              rw [gtr_V hs.fin const_k10.1, const_k10.2] at a2
              rw [lss_V hh.fin Ieee.Format.const_0.1, Ieee.Format.const_0.2.1] at h3
              have a1 := of_decide_eq_false a1
              have a2 := of_decide_eq_false a2
              have h3 := of_decide_eq_false h3
              unfold gee at h4
              rw [Bool.or_eq_false_iff] at h4
              have g1 : (Ieee.single.order h 1065353216 == some .gt) = decide (Ieee.single.V 1065353216 < Ieee.single.V h) := Ieee.single.order_gt hh.fin Ieee.Format.const_1.1
              have g2 : (Ieee.single.order h 1065353216 == some .eq) = decide (Ieee.single.V h = Ieee.single.V 1065353216) := Ieee.single.order_eq hh.fin Ieee.Format.const_1.1
              have e1 := g1.symm.trans h4.1
              have e2 := g2.symm.trans h4.2
              rw [Ieee.Format.const_1.2.1] at e1 e2
              have e1 := of_decide_eq_false e1
              have e2 := of_decide_eq_false e2
              have p := Ieee.P2_pos (-10)
              have p2 := Ieee.P2_pos 10
              exact ⟨⟨hs.fin, by show -Ieee.P2 10 ≤ _; grind, by show _ ≤ Ieee.P2 10; grind⟩, by grind, hh.fin, by grind, by grind⟩
    · rw [if_pos h2] at hz; omega
  · rw [if_pos h1] at hz; exact absurd hz h1

end Go.Proofs.Ytfmbekdfigbfiaa

namespace Go.Proofs.Ytfmbekdfigbfiaa
open Go.ChangeShapes Go.WideShapes Go.ChangeAt Go.RowKit
open Ieee.Format (fin finE htE allFin allHt all_true all_false mulF subF addF Ht Bd divF rootF floorF easeF mixF)
set_option linter.unusedVariables false

theorem box_f2c (w : World) (X Y W H : Int) (v : Value) (c1 c2 : Array Value) (t : TypeId) : ∀ W0, W0 = (((w.alloc (.cells #[.int .i64 X, .int .i64 Y, .int .i64 W, .int .i64 H, v] 26)).alloc (.cells c1 t)).alloc (.cells c2 t)).alloc (.cells #[.int .i64 0, .int .i64 0, .int .i64 0, .int .i64 0, .slice none 0 0] 26) →
    Fld W0 w.heap.size X Y W H v ∧ Blk W0 (w.heap.size + 1) c1 t ∧ Blk W0 (w.heap.size + 1 + 1) c2 t ∧ Fld W0 (w.heap.size + 1 + 1 + 1) 0 0 0 0 (.slice none 0 0) ∧ Below w.heap.size w W0 := by
  rintro _ rfl
  refine ⟨(((Fld.new w X Y W H v).alloc _).alloc _).alloc _, ?_, ?_, ?_, (by repeat (first | with_reducible exact Below.refl _ _ | with_reducible apply Below.drew | with_reducible refine below_drewN ?_ _ | (with_reducible refine Below.setCell ?_ ?_ _; rotate_left; focus (first | omega | (simp <;> omega))) | (with_reducible refine Below.alloc ?_ ?_ _; rotate_left; focus (first | omega | (simp <;> omega)))))⟩
  · have := ((Blk.new (w.alloc (.cells #[.int .i64 X, .int .i64 Y, .int .i64 W, .int .i64 H, v] 26)) c1 t).alloc (.cells c2 t)).alloc (.cells #[.int .i64 0, .int .i64 0, .int .i64 0, .int .i64 0, .slice none 0 0] 26)
    simpa using this
  · have := (Blk.new ((w.alloc (.cells #[.int .i64 X, .int .i64 Y, .int .i64 W, .int .i64 H, v] 26)).alloc (.cells c1 t)) c2 t).alloc (.cells #[.int .i64 0, .int .i64 0, .int .i64 0, .int .i64 0, .slice none 0 0] 26)
    simpa using this
  · have := Fld.new (((w.alloc (.cells #[.int .i64 X, .int .i64 Y, .int .i64 W, .int .i64 H, v] 26)).alloc (.cells c1 t)).alloc (.cells c2 t)) 0 0 0 0 (.slice none 0 0)
    simpa using this

theorem cnt_world1 (w : World) : ∀ W0, W0 = w.alloc (.cells #[.int .i64 (-1)] 3) → CntAt W0 w.heap.size (-1) ∧ Below w.heap.size w W0 ∧ W0.heap.size = w.heap.size + 1 := by
  rintro _ rfl
  exact ⟨Blk.new w _ _, (by repeat (first | with_reducible exact Below.refl _ _ | with_reducible apply Below.drew | with_reducible refine below_drewN ?_ _ | (with_reducible refine Below.setCell ?_ ?_ _; rotate_left; focus (first | omega | (simp <;> omega))) | (with_reducible refine Below.alloc ?_ ?_ _; rotate_left; focus (first | omega | (simp <;> omega))))), by simp⟩

end Go.Proofs.Ytfmbekdfigbfiaa

namespace Go.Proofs.Ytfmbekdfigbfiaa
open Go.ChangeShapes Go.WideShapes Go.ChangeAt Go.RowKit
open Ieee.Format (fin finE htE allFin allHt all_true all_false mulF subF addF Ht Bd divF rootF floorF easeF mixF)
set_option linter.unusedVariables false

end Go.Proofs.Ytfmbekdfigbfiaa

namespace Go.Proofs.Ytfmbekdfigbfiaa
open Go.ChangeShapes Go.WideShapes Go.ChangeAt Go.RowKit
open Ieee.Format (fin finE htE allFin allHt all_true all_false mulF subF addF Ht Bd divF rootF floorF easeF mixF)
set_option linter.unusedVariables false

theorem box_fm (w : World) (X Y W H : Int) (v : Value) (c1 : Array Value) (t : TypeId) : ∀ W0, W0 = ((w.alloc (.cells #[.int .i64 X, .int .i64 Y, .int .i64 W, .int .i64 H, v] 26)).alloc (.cells c1 t)).alloc (.cells #[.int .i64 0, .int .i64 0, .int .i64 0, .int .i64 0, .slice none 0 0] 26) →
    Fld W0 w.heap.size X Y W H v ∧ Blk W0 (w.heap.size + 1) c1 t ∧ Fld W0 (w.heap.size + 1 + 1) 0 0 0 0 (.slice none 0 0) ∧ Below w.heap.size w W0 := by
  rintro _ rfl
  refine ⟨((Fld.new w X Y W H v).alloc _).alloc _, ?_, ?_, (by repeat (first | with_reducible exact Below.refl _ _ | with_reducible apply Below.drew | with_reducible refine below_drewN ?_ _ | (with_reducible refine Below.setCell ?_ ?_ _; rotate_left; focus (first | omega | (simp <;> omega))) | (with_reducible refine Below.alloc ?_ ?_ _; rotate_left; focus (first | omega | (simp <;> omega)))))⟩
  · have := (Blk.new (w.alloc (.cells #[.int .i64 X, .int .i64 Y, .int .i64 W, .int .i64 H, v] 26)) c1 t).alloc (.cells #[.int .i64 0, .int .i64 0, .int .i64 0, .int .i64 0, .slice none 0 0] 26)
    simpa using this
  · have := Fld.new ((w.alloc (.cells #[.int .i64 X, .int .i64 Y, .int .i64 W, .int .i64 H, v] 26)).alloc (.cells c1 t)) 0 0 0 0 (.slice none 0 0)
    simpa using this

/-- the field's values, each given with its place to a function -/
def addL (φ : Int → Int → Nat → Nat) (X Y : Int) (Wn Hn : Nat) (l : List Nat) : List Nat := madeL (fun x y => φ x y (l.getD (cellNo X Y Wn x y).toNat 0)) X Y Wn (Hn * Wn)
theorem addL_small (φ : Int → Int → Nat → Nat) {X Y : Int} {Wn Hn : Nat} {l : List Nat} (hr : Right X Y Wn Hn l) : (addL φ X Y Wn Hn l).length ≤ 1099511627776 := by
  unfold addL
  rw [madeL_len]
  have := hr.small
  rw [hr.len] at this
  exact this

end Go.Proofs.Ytfmbekdfigbfiaa
