import Derived.Test.YtnfebeebjelgbaaFloatO
import Derived.Test.YtnfebeebjelgbaaM8
import Derived.Test.YtnfebeebjelgbaaThermOp
import Derived.Deep.RegionHeld3
import Derived.WalkLawsBesides
namespace Go.Proofs.Ytnfebeebjelgbaa
open Go.ChangeShapes Go.WideShapes Go.ChangeAt Go.RowKit
open Ieee.Format (fin finE htE allFin allHt all_true all_false mulF subF addF Ht Bd divF rootF floorF easeF mixF)
set_option linter.unusedVariables false
open Ieee.Format (floor_spec whole_int frac_bd frac_zero const_40)

theorem run_floor64 (X : Nat) (s : Bool) (m : Nat) (i : Int) (hd : FloatKind.decode .f64 X = .number s m i) (w : World) : (callFunc 223 #[.float .f64 X]).run Try.prog w = .ok (.value (.float .f64 (FloatKind.encode .f64 (Ieee.Datum.integral .down (.number s m i))))) w := by
  rw [run_callFunc_extern Try.func223 (by kernel_rfl) (by kernel_rfl) (by kernel_rfl) (show _ = some (Extern.MathFloor.toIntegral "math.archFloor" .down) by kernel_rfl)]
  have e : Extern.MathFloor.toIntegral "math.archFloor" .down #[.float .f64 X] = pure (.float .f64 (FloatKind.encode .f64 (Ieee.Datum.integral .down (.number s m i)))) := by
    change (match FloatKind.f64.decode X with | .nan s t => _ | d => (pure (.float .f64 (FloatKind.encode .f64 (Ieee.Datum.integral .down d))) : Sem Value)) = _
    rw [hd]
  rw [e]; rfl
theorem mathfloor_any (X : Nat) (s : Bool) (m : Nat) (i : Int) (hd : FloatKind.decode .f64 X = .number s m i) (w : World) : Calls Try.prog 209 #[.float .f64 X] w fun e w' => e = .returned (.float .f64 (FloatKind.encode .f64 (Ieee.Datum.integral .down (.number s m i)))) ∧ w = w' := by
  have K := run_floor64 X s m i hd
  clear hd
  generalize FloatKind.encode .f64 (Ieee.Datum.integral .down (.number s m i)) = Z at *
  go_enter Try.func209, Try.ntmps209
  go_wp2
  go_ret
  exact ⟨rfl, rfl⟩

theorem floor_any (x : Nat) (hx : fin Ieee.single x) (hl : x < 4294967296) (w : World) : Calls Try.prog 208 #[.float .f32 x] w fun e w' => e = .returned (.float .f32 (floorF x)) ∧ w = w' := by
  obtain ⟨X, s, m, i, a, b, c, _⟩ := floor_spec hx hl
  have ka := fun w => run_convert_float_float (P := Try.prog) w 37 114 .f32 .f64 x X (by kernel_rfl) Try.underlying114 a
  have kc := fun w => run_convert_float_float (P := Try.prog) w 114 37 .f64 .f32 _ (floorF x) (by kernel_rfl) Try.underlying37 c
  have KS := Lib.hid (fun w => mathfloor_any X s m i b w)
  generalize FloatKind.encode .f64 (Ieee.Datum.integral .down (.number s m i)) = Z at *
  generalize floorF x = r at *
  clear a b c hx hl
  go_enter Try.func208, Try.ntmps208
  go_wp2_with fail
  refine (KS.out _).mono ?_
  rintro e w' ⟨rfl, rfl⟩
  go_wp2_with fail
  go_ret
  exact ⟨rfl, rfl⟩
theorem reffloor_any (x : Nat) (hx : fin Ieee.single x) (hl : x < 4294967296) (w : World) : Calls Try.prog 142 #[.float .f32 x] w fun e w' => e = .returned (.float .f32 (floorF x)) ∧ w = w' := by
  obtain ⟨X, s, m, i, a, b, c, _⟩ := floor_spec hx hl
  have ka := fun w => run_convert_float_float (P := Try.prog) w 37 114 .f32 .f64 x X (by kernel_rfl) Try.underlying114 a
  have kc := fun w => run_convert_float_float (P := Try.prog) w 114 37 .f64 .f32 _ (floorF x) (by kernel_rfl) Try.underlying37 c
  have KS := Lib.hid (fun w => mathfloor_any X s m i b w)
  generalize FloatKind.encode .f64 (Ieee.Datum.integral .down (.number s m i)) = Z at *
  generalize floorF x = r at *
  clear a b c hx hl
  go_enter Try.func142, Try.ntmps142
  go_wp2_with fail
  refine (KS.out _).mono ?_
  rintro e w' ⟨rfl, rfl⟩
  go_wp2_with fail
  go_ret
  exact ⟨rfl, rfl⟩

theorem const_n40 : fin Ieee.single 3548381184 ∧ Ieee.single.V 3548381184 = -Ieee.P2 40 := by
  refine ⟨by decide, ?_⟩
  rw [← const_40.2.1]
  exact Ieee.Format.V_neg_word (by decide) const_40.2.2 (by decide)
theorem const_23 : fin Ieee.single 1258291200 ∧ Ieee.single.V 1258291200 = Ieee.P2 23 ∧ Ieee.single.sgn 1258291200 = false := by
  have := Ieee.Format.V_const false 149 8388608 (.inr (by decide)) (by decide) (by decide)
  rw [show Ieee.single.word false (149 * 8388608 + 8388608) = 1258291200 from by decide] at this
  refine ⟨this.1, ?_, this.2.2⟩
  rw [this.2.1, show ((149 : Nat) : Int) - 149 = 0 from rfl, Ieee.P2_zero]
  have e : Ieee.P2 23 = ((8388608 : Nat) : Rat) := Ieee.P2_nat 23
  rw [e]; simp [Ieee.sg]

def floorZ (x : Nat) : Int := (floatToIntVal .f32 (floorF x) .i64).getD 0
theorem floorZ_spec {x : Nat} (hx : fin Ieee.single x) (hl : x < 4294967296) (h1 : -Ieee.P2 40 ≤ Ieee.single.V x) (h2 : Ieee.single.V x ≤ Ieee.P2 40) :
    floatToIntVal .f32 (floorF x) .i64 = some (floorZ x) ∧ Ieee.single.V (floorF x) = (floorZ x : Rat) ∧ (floorZ x : Rat) ≤ Ieee.single.V x ∧ Ieee.single.V x < (floorZ x : Rat) + 1 ∧ -1099511627776 ≤ floorZ x ∧ floorZ x ≤ 1099511627776 := by
  obtain ⟨X, s, m, i, _, _, _, hf, _, z, g1, g2, g3⟩ := floor_spec hx hl
  have e40 : Ieee.P2 40 = ((1099511627776 : Int) : Rat) := Ieee.P2_nat 40
  have b1 : z ≤ 1099511627776 := by
    have : (z : Rat) ≤ ((1099511627776 : Int) : Rat) := by rw [← e40]; grind
    exact Rat.intCast_le_intCast.1 this
  have b2 : -1099511627776 < z + 1 := by
    have : ((-1099511627776 : Int) : Rat) < ((z + 1 : Int) : Rat) := by
      rw [Rat.intCast_add, show (-1099511627776 : Int) = -(1099511627776 : Int) from rfl, Rat.intCast_neg, ← e40]
      have : ((1 : Int) : Rat) = 1 := rfl
      grind
    exact Rat.intCast_lt_intCast.1 this
  have hw := whole_int hf g1 (by omega) (by omega)
  have e : floorZ x = z := by unfold floorZ; rw [hw]; rfl
  rw [e]
  exact ⟨hw, g1, g2, g3, by omega, b1⟩

def wholeF (x : Nat) : Int := if lss x 3548381184 = true then -1099511627776 else if gtr x 1400897536 = true then 1099511627776 else floorZ x
theorem whole_any (x : Nat) (hx : fin Ieee.single x) (hl : x < 4294967296) (w : World) : Calls Try.prog 207 #[.float .f32 x] w fun e w' => e = .returned (.int .i64 (wholeF x)) ∧ w = w' := by
  unfold wholeF
  cases h1 : lss x 3548381184 with
  | true =>
    rw [if_pos rfl]
    change (FloatKind.f32.format.order x 3548381184 == some .lt) = true at h1
    go_enter Try.func207, Try.ntmps207
    go_wp2
    go_ret
    exact ⟨rfl, rfl⟩
  | false =>
    rw [if_neg (by decide)]
    cases h2 : gtr x 1400897536 with
    | true =>
      rw [if_pos rfl]
      change (FloatKind.f32.format.order x 3548381184 == some .lt) = false at h1
      change (FloatKind.f32.format.order x 1400897536 == some .gt) = true at h2
      go_enter Try.func207, Try.ntmps207
      go_wp2
      go_ret
      exact ⟨rfl, rfl⟩
    | false =>
      rw [if_neg (by decide)]
      have h1' := h1
      have h2' := h2
      rw [lss_V hx const_n40.1, const_n40.2] at h1'
      rw [gtr_V hx const_40.1, const_40.2.1] at h2'
      have g1 := of_decide_eq_false h1'
      have g2 := of_decide_eq_false h2'
      have hs := (floorZ_spec hx hl (by grind) (by grind)).1
      have KF := Lib.hid (fun w => floor_any x hx hl w)
      have kc := fun w => run_convert_float_int (P := Try.prog) w 37 3 .f32 .i64 (floorF x) (floorZ x) (by kernel_rfl) Try.underlying3 hs
      change (FloatKind.f32.format.order x 3548381184 == some .lt) = false at h1
      change (FloatKind.f32.format.order x 1400897536 == some .gt) = false at h2
      clear hs h1' h2' g1 g2 hx hl
      generalize floorZ x = z at *
      generalize floorF x = r at *
      go_enter Try.func207, Try.ntmps207
      go_wp2_with fail
      refine (KF.out _).mono ?_
      rintro e w' ⟨rfl, rfl⟩
      go_wp2_with fail
      go_ret
      exact ⟨rfl, rfl⟩
theorem wholeF_bd {x : Nat} (hx : fin Ieee.single x) (hl : x < 4294967296) : -1099511627776 ≤ wholeF x ∧ wholeF x ≤ 1099511627776 := by
  unfold wholeF
  split
  · omega
  · split
    · omega
    · rename_i h1 h2
      rw [lss_V hx const_n40.1, const_n40.2] at h1
      rw [gtr_V hx const_40.1, const_40.2.1] at h2
      simp only [decide_eq_true_eq] at h1 h2
      have := floorZ_spec hx hl (by grind) (by grind)
      omega

/-- the value between the cells -/
def betR (X Y : Int) (Wn Hn : Nat) (l : List Nat) (x y : Nat) : Option Nat := bilV X Y Wn Hn l (wholeF x) (wholeF y) (subF x (floorF x)) (subF y (floorF y))

set_option maxRecDepth 100000 in
set_option maxHeartbeats 1000000 in
theorem Between_any (X Y : Int) (Wn Hn : Nat) (b o c : Nat) (l : List Nat) (x y : Nat) (w : World) (hl : SRow w (some ⟨b, o, none⟩) l) (hr : Right X Y Wn Hn l) (hx : fin Ieee.single x) (hy : fin Ieee.single y) (lx : x < 4294967296) (ly : y < 4294967296) :
    Calls Try.prog 141 #[fldV X Y Wn Hn (some ⟨b, o, none⟩) l.length c, .float .f32 x, .float .f32 y] w fun e w' => e = .returned (.tuple #[.float .f32 ((betR X Y Wn Hn l x y).getD 0), .bool (betR X Y Wn Hn l x y).isSome]) ∧ Below w.heap.size w w' := by
  have g1 := hr.w1; have g2 := hr.w2; have g3 := hr.h1; have g4 := hr.h2; have g5 := hr.x1; have g6 := hr.x2; have g7 := hr.y1; have g8 := hr.y2
  obtain ⟨s1, s2⟩ := frac_bd hx lx
  obtain ⟨t1, t2⟩ := frac_bd hy ly
  have wx := wholeF_bd hx lx
  have wy := wholeF_bd hy ly
  have KB := Lib.hid (fun w hl => between_any X Y Wn Hn b o c (wholeF x) (wholeF y) (subF x (floorF x)) (subF y (floorF y)) l w hl hr.len (fun j => Ieee.Format.Ht.bd (hr.getD j)) s1 t1 (by omega) (by omega) (by omega) (by omega) (by omega) (by omega) (by omega) (by omega) wx.1 wx.2 wy.1 wy.2)
  change Hid (∀ w (hl : SRow w (some ⟨b, o, none⟩) l), Calls Try.prog 206 #[fldV X Y Wn Hn (some ⟨b, o, none⟩) l.length c, .int .i64 (wholeF x), .int .i64 (wholeF y), .float .f32 (subF x (floorF x)), .float .f32 (subF y (floorF y))] w fun e w' => e = .returned (.tuple #[.float .f32 ((betR X Y Wn Hn l x y).getD 0), .bool (betR X Y Wn Hn l x y).isSome]) ∧ Below w.heap.size w w') at KB
  have k1 := fun w' => run_float_arith (P := Try.prog) w' .sub 37 .f32 x (floorF x) (subF x (floorF x)) (Ieee.Format.bits_sub hx s2)
  have k2 := fun w' => run_float_arith (P := Try.prog) w' .sub 37 .f32 y (floorF y) (subF y (floorF y)) (Ieee.Format.bits_sub hy t2)
  have KW1 := Lib.hid (fun w => whole_any x hx lx w)
  have KW2 := Lib.hid (fun w => whole_any y hy ly w)
  have KF1 := Lib.hid (fun w => floor_any x hx lx w)
  have KF2 := Lib.hid (fun w => floor_any y hy ly w)
  have HL := Lib.hid hl
  clear g1 g2 g3 g4 g5 g6 g7 g8 s1 s2 t1 t2 wx wy hx hy lx ly hl hr
  generalize betR X Y Wn Hn l x y = R at *
  generalize wholeF x = ix at *
  generalize wholeF y = iy at *
  generalize subF x (floorF x) = sx at *
  generalize subF y (floorF y) = sy at *
  generalize floorF x = fx at *
  generalize floorF y = fy at *
  have hF := (Fld.new w X Y Wn Hn (.slice (some ⟨b, o, none⟩) l.length c))
  have hB : Below w.heap.size w (w.alloc (.cells #[.int .i64 X, .int .i64 Y, .int .i64 Wn, .int .i64 Hn, .slice (some ⟨b, o, none⟩) l.length c] 36)) := (by repeat (first | with_reducible exact Below.refl _ _ | with_reducible apply Below.drew | with_reducible refine below_drewN ?_ _ | (with_reducible refine Below.setCell ?_ ?_ _; rotate_left; focus (first | omega | (simp <;> omega))) | (with_reducible refine Below.alloc ?_ ?_ _; rotate_left; focus (first | omega | (simp <;> omega)))))
  go_enter Try.func141, Try.ntmps141
  go_wp2_with fail
  generalize (w.alloc (.cells #[.int .i64 X, .int .i64 Y, .int .i64 Wn, .int .i64 Hn, .slice (some ⟨b, o, none⟩) l.length c] 36)) = W0 at *
  have hkl := hF.lt
  obtain ⟨c0, c1, c2, c3, c4⟩ := hF.cells
  have HL0 := Lib.hid (HL.out.below hB)
  have HB0 := Lib.hid hB
  clear hF HL hB
  go_region_held3 (fun w' => w'.cell? ⟨w.heap.size, 0, none⟩ = some (.int .i64 X) ∧ w'.cell? ⟨w.heap.size, 1, none⟩ = some (.int .i64 Y) ∧ w'.cell? ⟨w.heap.size, 2, none⟩ = some (.int .i64 Wn) ∧ w'.cell? ⟨w.heap.size, 3, none⟩ = some (.int .i64 Hn) ∧ w'.cell? ⟨w.heap.size, 4, none⟩ = some (.slice (some ⟨b, o, none⟩) l.length c) ∧ w.heap.size < w'.heap.size ∧ Below W0.heap.size W0 w')
    (first
      | exact ⟨c0, c1, c2, c3, c4, hkl, (Below.refl _ _).drew⟩
      | (go_split_ands
         have hs := hb.size
         have hs2 := (show Below W0.heap.size W0 _ by assumption).size
         refine ⟨?_, ?_, ?_, ?_, ?_, ?_, ?_⟩
         all_goals first
           | (rw [hb.cell (by simp; omega)]; assumption)
           | exact Below.trans (by assumption) (hb.mono (by omega))
           | omega)
      | (go_split_ands; refine ⟨?_, ?_, ?_, ?_, ?_, ?_, ?_⟩ <;> assumption))
    (first
      | (go_at_call 207; go_split_ands; first | ((with_reducible refine (KW1.out _).mono ?_); rintro e2 w2 ⟨rfl, rfl⟩) | ((with_reducible refine (KW2.out _).mono ?_); rintro e2 w2 ⟨rfl, rfl⟩))
      | (go_at_call 208; go_split_ands; first | ((with_reducible refine (KF1.out _).mono ?_); rintro e2 w2 ⟨rfl, rfl⟩) | ((with_reducible refine (KF2.out _).mono ?_); rintro e2 w2 ⟨rfl, rfl⟩))
      | (go_at_call 206; go_split_ands; refine (KB.out _ (HL0.out.below (by assumption))).mono ?_; rintro e2 w2 ⟨rfl, hb⟩))
  rename_i w2 hHeld
  obtain ⟨_, _, _, _, _, _, hB2⟩ := hHeld
  have HB2 := Lib.hid (HB0.out.trans (hB2.mono HB0.out.size))
  clear hB2
  go_wp2_with fail
  go_ret2
  exact ⟨rfl, HB2.out⟩
end Go.Proofs.Ytnfebeebjelgbaa
