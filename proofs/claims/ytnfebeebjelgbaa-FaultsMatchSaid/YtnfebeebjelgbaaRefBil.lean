import Derived.Test.YtnfebeebjelgbaaBilOp
import Derived.Deep.RegionHeld3
namespace Go.Proofs.Ytnfebeebjelgbaa
open Go.ChangeShapes Go.WideShapes Go.ChangeAt Go.RowKit
open Ieee.Format (fin finE htE allFin allHt all_true all_false mulF subF addF Ht Bd divF rootF floorF easeF mixF)
set_option linter.unusedVariables false
open Ieee.Format (const_40 frac_bd frac_zero conv_exact)

abbrev mag (x : Nat) : Nat := x % 2147483648
theorem mag_parts (x : Nat) : Ieee.single.rung (mag x) = Ieee.single.rung x ∧ Ieee.single.sgn (mag x) = false := by
  constructor
  · rw [Ieee.Format.rung_lit, Ieee.Format.rung_lit]; show x % 2147483648 % 2147483648 = _; rw [Nat.mod_mod]
  · rw [Ieee.Format.sgn_lit]
    have : mag x / 2147483648 = 0 := Nat.div_eq_of_lt (Nat.mod_lt _ (by decide))
    rw [this]; rfl
theorem mag_fin {x : Nat} (h : fin Ieee.single x) : fin Ieee.single (mag x) := by unfold fin at *; rw [(mag_parts x).1]; exact h
theorem mag_V (x : Nat) : 0 ≤ Ieee.single.V (mag x) ∧ (Ieee.single.V (mag x) = Ieee.single.V x ∨ Ieee.single.V (mag x) = -Ieee.single.V x) := by
  have e := Ieee.Format.V_pos_word (mag_parts x).2
  rw [(mag_parts x).1] at e
  have n := Ieee.single.rv_nonneg (Ieee.single.rung x)
  refine ⟨by rw [e]; exact n, ?_⟩
  rw [e]
  unfold Ieee.Format.V
  cases Ieee.single.sgn x
  · left; simp [Ieee.sg]
  · right; simp only [Ieee.sg, if_true]; grind

theorem far_none {X Y : Int} {Wn Hn : Nat} {l : List Nat} {x y : Nat} (hr : Right X Y Wn Hn l) (hx : fin Ieee.single x) (hy : fin Ieee.single y) (lx : x < 4294967296) (ly : y < 4294967296) (h : gtr (mag x) 1258291200 = true ∨ gtr (mag y) 1258291200 = true) : betR X Y Wn Hn l x y = none := by
  have out : ∀ v, fin Ieee.single v → v < 4294967296 → gtr (mag v) 1258291200 = true → 8388608 ≤ wholeF v ∨ wholeF v < -8388608 := by
    intro v hv lv hg
    rw [gtr_V (mag_fin hv) const_23.1, const_23.2.1] at hg
    have hg := of_decide_eq_true hg
    have e23 : Ieee.P2 23 = ((8388608 : Int) : Rat) := Ieee.P2_nat 23
    unfold wholeF
    split
    · right; omega
    · split
      · left; omega
      · rename_i h1 h2
        rw [lss_V hv const_n40.1, const_n40.2] at h1
        rw [gtr_V hv const_40.1, const_40.2.1] at h2
        simp only [decide_eq_true_eq] at h1 h2
        obtain ⟨_, _, f1, f2, _, _⟩ := floorZ_spec hv lv (by grind) (by grind)
        rcases (mag_V v).2 with e | e
        · left
          rw [e, e23] at hg
          have : ((8388608 : Int) : Rat) < ((floorZ v + 1 : Int) : Rat) := by
            rw [Rat.intCast_add]; have : ((1 : Int) : Rat) = 1 := rfl; grind
          have := Rat.intCast_lt_intCast.1 this
          omega
        · right
          rw [e, e23] at hg
          have : (floorZ v : Rat) < ((-8388608 : Int) : Rat) := by
            rw [show (-8388608 : Int) = -(8388608 : Int) from rfl, Rat.intCast_neg]; grind
          exact Rat.intCast_lt_intCast.1 this
  have g1 := hr.x1; have g2 := hr.x2; have g3 := hr.y1; have g4 := hr.y2
  have hrow : rowV X Y Wn Hn l (wholeF x) (wholeF y) (subF x (floorF x)) = none := by
    unfold rowV
    rw [if_neg]
    unfold inR
    rcases h with h | h
    · have := out x hx lx h; omega
    · have := out y hy ly h; omega
  unfold betR bilV
  rw [hrow]

theorem near_whole {x : Nat} (hx : fin Ieee.single x) (lx : x < 4294967296) (h : gtr (mag x) 1258291200 = false) : wholeF x = floorZ x ∧ floatToIntVal .f32 (floorF x) .i64 = some (floorZ x) ∧ -16777216 ≤ floorZ x ∧ floorZ x ≤ 16777216 := by
  rw [gtr_V (mag_fin hx) const_23.1, const_23.2.1] at h
  have h := of_decide_eq_false h
  have m := (mag_V x).1
  have hb : -Ieee.P2 23 ≤ Ieee.single.V x ∧ Ieee.single.V x ≤ Ieee.P2 23 := by rcases (mag_V x).2 with e | e <;> rw [e] at h m <;> constructor <;> grind
  have p := Ieee.P2_lt (show (23 : Int) < 40 by omega)
  obtain ⟨f0, _, f1, f2, _, _⟩ := floorZ_spec hx lx (by grind) (by grind)
  have e23 : Ieee.P2 23 = ((8388608 : Int) : Rat) := Ieee.P2_nat 23
  refine ⟨?_, f0, ?_, ?_⟩
  · unfold wholeF
    rw [lss_V hx const_n40.1, const_n40.2, gtr_V hx const_40.1, const_40.2.1, if_neg (by simp; grind), if_neg (by simp; grind)]
  · have : ((-8388608 : Int) : Rat) < ((floorZ x + 1 : Int) : Rat) := by
      rw [Rat.intCast_add, show (-8388608 : Int) = -(8388608 : Int) from rfl, Rat.intCast_neg, ← e23]; have : ((1 : Int) : Rat) = 1 := rfl; grind
    have := Rat.intCast_lt_intCast.1 this
    omega
  · have : (floorZ x : Rat) ≤ ((8388608 : Int) : Rat) := by rw [← e23]; grind
    have := Rat.intCast_le_intCast.1 this
    omega

theorem htE_one_fin {x : Nat} (h : fin Ieee.single x) : (htE [x] == 2) = false := by
  have a : allFin [x] = true := by unfold allFin; simp [h]
  cases hh : allHt [x] with
  | true => rw [Ieee.Format.htE_ok a hh]; rfl
  | false => rw [Ieee.Format.htE_far a hh]; rfl
theorem htE_one_bad {x : Nat} (h : ¬ fin Ieee.single x) : htE [x] = 2 := Ieee.Format.htE_bad (by unfold allFin; simp [h])

set_option maxRecDepth 100000 in
set_option maxHeartbeats 2000000 in
theorem refBilinear_any (X Y : Int) (Wn Hn : Nat) (b o c : Nat) (l : List Nat) (x y : Nat) (w : World) (hl : SRow w (some ⟨b, o, none⟩) l) (hr : Right X Y Wn Hn l) (lx : x < 4294967296) (ly : y < 4294967296) :
    Calls Try.prog 51 #[fldV X Y Wn Hn (some ⟨b, o, none⟩) l.length c, .float .f32 x, .float .f32 y] w fun e w' => e = .returned (.tuple #[.float .f32 (bilVal (bilCode x y (betR X Y Wn Hn l x y)) (betR X Y Wn Hn l x y)), .int .i64 (bilCode x y (betR X Y Wn Hn l x y))]) ∧ Below w.heap.size w w' := by
  have HL := Lib.hid hl
  have KX := Lib.hid (fun W g h => refheight_one W g x lx h)
  have KY := Lib.hid (fun W g h => refheight_one W g y ly h)
  by_cases hx : fin Ieee.single x
  · have qx := htE_one_fin hx
    by_cases hy : fin Ieee.single y
    · have qy := htE_one_fin hy
      have hfe : finE [x, y] = 0 := Ieee.Format.finE_ok (by unfold allFin; simp [hx, hy])
      have hc : bilCode x y (betR X Y Wn Hn l x y) = bilC (betR X Y Wn Hn l x y) := by unfold bilCode; rw [if_neg (by omega)]
      rw [hc]
      have KA1 := Lib.hid (fun w => refabs_any x lx w)
      have KA2 := Lib.hid (fun w => refabs_any y ly w)
      cases hg1 : gtr (mag x) 1258291200 with
      | true =>
        rw [far_none hr hx hy lx ly (.inl hg1)]
        have e1 : bilC none = 5 := rfl
        have e2 : bilVal 5 none = 0 := rfl
        rw [e1, e2]
        change (FloatKind.f32.format.order (x % 2147483648) 1258291200 == some .gt) = true at hg1
        clear hc e1 e2 hfe hx hy lx ly hl hr
        generalize htE [x] = ex at *
        generalize htE [y] = ey at *
        generalize x % 2147483648 = mx at *
        go_enter Try.func51, Try.ntmps51
        go_wp2_with fail
        refine (KX.out _ _ (by simp [go_sem])).mono ?_
        rintro e w2 ⟨rfl, rfl⟩
        go_wp2_with fail
        refine (KY.out _ _ (by simp [go_sem])).mono ?_
        rintro e w2 ⟨rfl, rfl⟩
        go_wp2_with fail
        refine (KA1.out _).mono ?_
        rintro e w2 ⟨rfl, rfl⟩
        go_wp2_with fail
        go_ret2
        exact ⟨rfl, (by repeat (first | with_reducible exact Below.refl _ _ | with_reducible apply Below.drew | with_reducible refine below_drewN ?_ _ | (with_reducible refine Below.setCell ?_ ?_ _; rotate_left; focus (first | omega | (simp <;> omega))) | (with_reducible refine Below.alloc ?_ ?_ _; rotate_left; focus (first | omega | (simp <;> omega)))))⟩
      | false =>
        cases hg2 : gtr (mag y) 1258291200 with
        | true =>
          rw [far_none hr hx hy lx ly (.inr hg2)]
          have e1 : bilC none = 5 := rfl
          have e2 : bilVal 5 none = 0 := rfl
          rw [e1, e2]
          change (FloatKind.f32.format.order (x % 2147483648) 1258291200 == some .gt) = false at hg1
          change (FloatKind.f32.format.order (y % 2147483648) 1258291200 == some .gt) = true at hg2
          clear hc e1 e2 hfe hx hy lx ly hl hr
          generalize htE [x] = ex at *
          generalize htE [y] = ey at *
          generalize x % 2147483648 = mx at *
          generalize y % 2147483648 = my at *
          go_enter Try.func51, Try.ntmps51
          go_wp2_with fail
          refine (KX.out _ _ (by simp [go_sem])).mono ?_
          rintro e w2 ⟨rfl, rfl⟩
          go_wp2_with fail
          refine (KY.out _ _ (by simp [go_sem])).mono ?_
          rintro e w2 ⟨rfl, rfl⟩
          go_wp2_with fail
          refine (KA1.out _).mono ?_
          rintro e w2 ⟨rfl, rfl⟩
          go_wp2_with fail
          refine (KA2.out _).mono ?_
          rintro e w2 ⟨rfl, rfl⟩
          go_wp2_with fail
          go_ret2
          exact ⟨rfl, (by repeat (first | with_reducible exact Below.refl _ _ | with_reducible apply Below.drew | with_reducible refine below_drewN ?_ _ | (with_reducible refine Below.setCell ?_ ?_ _; rotate_left; focus (first | omega | (simp <;> omega))) | (with_reducible refine Below.alloc ?_ ?_ _; rotate_left; focus (first | omega | (simp <;> omega)))))⟩
        | false =>
          obtain ⟨nx1, nx2, nx3, nx4⟩ := near_whole hx lx hg1
          obtain ⟨ny1, ny2, ny3, ny4⟩ := near_whole hy ly hg2
          obtain ⟨s1, s2⟩ := frac_bd hx lx
          obtain ⟨t1, t2⟩ := frac_bd hy ly
          have g1 := hr.w1; have g2 := hr.w2; have g3 := hr.h1; have g4 := hr.h2; have g5 := hr.x1; have g6 := hr.x2; have g7 := hr.y1; have g8 := hr.y2
          have KB := Lib.hid (fun w hl => bilinear_any X Y Wn Hn b o c (floorZ x) (floorZ y) (subF x (floorF x)) (subF y (floorF y)) l w hl hr.len hr.bd' s1 t1 (by omega) (by omega) (by omega) (by omega) (by omega) (by omega) (by omega) (by omega) (by omega) (by omega) (by omega) (by omega))
          have hbR : bilV X Y Wn Hn l (floorZ x) (floorZ y) (subF x (floorF x)) (subF y (floorF y)) = betR X Y Wn Hn l x y := by unfold betR; rw [nx1, ny1]
          rw [hbR] at KB
          have KF1 := Lib.hid (fun w => reffloor_any x hx lx w)
          have KF2 := Lib.hid (fun w => reffloor_any y hy ly w)
          have KS1 := Lib.hid (fun w => ref_sub_ok x (floorF x) w hx s2 s1.1)
          have KS2 := Lib.hid (fun w => ref_sub_ok y (floorF y) w hy t2 t1.1)
          have kc1 := fun w => run_convert_float_int (P := Try.prog) w 37 3 .f32 .i64 (floorF x) (floorZ x) (by kernel_rfl) Try.underlying3 nx2
          have kc2 := fun w => run_convert_float_int (P := Try.prog) w 37 3 .f32 .i64 (floorF y) (floorZ y) (by kernel_rfl) Try.underlying3 ny2
          change (FloatKind.f32.format.order (x % 2147483648) 1258291200 == some .gt) = false at hg1
          change (FloatKind.f32.format.order (y % 2147483648) 1258291200 == some .gt) = false at hg2
          clear hc hfe hx hy lx ly hl hr nx1 nx2 nx3 nx4 ny1 ny2 ny3 ny4 s1 s2 t1 t2 g1 g2 g3 g4 g5 g6 g7 g8 hbR
          generalize betR X Y Wn Hn l x y = R at *
          generalize hcc : bilC R = C at *
          generalize hvv : R.getD 0 = v at *
          have HV : Hid (bilVal C R = if C = 0 then v else 0) := by unfold Hid bilVal; rw [hvv]
          generalize bilVal C R = z at *
          clear hcc hvv
          generalize htE [x] = ex at *
          generalize htE [y] = ey at *
          generalize x % 2147483648 = mx at *
          generalize y % 2147483648 = my at *
          generalize subF x (floorF x) = sx at *
          generalize subF y (floorF y) = sy at *
          generalize floorF x = fx at *
          generalize floorF y = fy at *
          generalize floorZ x = zx at *
          generalize floorZ y = zy at *
          go_enter Try.func51, Try.ntmps51
          go_wp2_with fail
          refine (KX.out _ _ (by simp [go_sem])).mono ?_
          rintro e w2 ⟨rfl, rfl⟩
          go_wp2_with fail
          refine (KY.out _ _ (by simp [go_sem])).mono ?_
          rintro e w2 ⟨rfl, rfl⟩
          go_wp2_with fail
          refine (KA1.out _).mono ?_
          rintro e w2 ⟨rfl, rfl⟩
          go_wp2_with fail
          refine (KA2.out _).mono ?_
          rintro e w2 ⟨rfl, rfl⟩
          go_wp2_with fail
          refine (KF1.out _).mono ?_
          rintro e w2 ⟨rfl, rfl⟩
          go_wp2_with fail
          refine (KF2.out _).mono ?_
          rintro e w2 ⟨rfl, rfl⟩
          go_wp2_with fail
          generalize hW0 : ((w.alloc (.cells #[.int .i64 X, .int .i64 Y, .int .i64 Wn, .int .i64 Hn, .slice (some ⟨b, o, none⟩) l.length c] 36)).alloc (.cells #[.float .f32 x] 37)).alloc (.cells #[.float .f32 y] 37) = W0 at *
          have hF : Fld W0 w.heap.size X Y Wn Hn (.slice (some ⟨b, o, none⟩) l.length c) := by subst hW0; exact ((Fld.new w X Y Wn Hn _).alloc _).alloc _
          have hB : Below w.heap.size w W0 := by subst hW0; exact (by repeat (first | with_reducible exact Below.refl _ _ | with_reducible apply Below.drew | with_reducible refine below_drewN ?_ _ | (with_reducible refine Below.setCell ?_ ?_ _; rotate_left; focus (first | omega | (simp <;> omega))) | (with_reducible refine Below.alloc ?_ ?_ _; rotate_left; focus (first | omega | (simp <;> omega)))))
          clear hW0
          have hkl := hF.lt
          obtain ⟨c0, c1, c2, c3, c4⟩ := hF.cells
          have HL0 := Lib.hid (HL.out.below hB)
          have HB0 := Lib.hid hB
          clear hF HL hB
          go_region_held3 (fun w' => w'.cell? ⟨w.heap.size, 0, none⟩ = some (.int .i64 X) ∧ w'.cell? ⟨w.heap.size, 1, none⟩ = some (.int .i64 Y) ∧ w'.cell? ⟨w.heap.size, 2, none⟩ = some (.int .i64 Wn) ∧ w'.cell? ⟨w.heap.size, 3, none⟩ = some (.int .i64 Hn) ∧ w'.cell? ⟨w.heap.size, 4, none⟩ = some (.slice (some ⟨b, o, none⟩) l.length c) ∧ w.heap.size < w'.heap.size ∧ Below W0.heap.size W0 w')
            (first
              | exact ⟨c0, c1, c2, c3, c4, hkl, (Below.refl _ _).drew⟩
              | (go_split_ands
                 have hs := hb.size
                 have hs2 := (show Below W0.heap.size W0 _ by assumption).size
                 refine ⟨?_, ?_, ?_, ?_, ?_, ?_, ?_⟩
                 all_goals first
                   | (rw [hb.cell (by simp; omega)]; assumption)
                   | exact Below.trans (by assumption) (hb.mono (by omega))
                   | omega)
              | (go_split_ands; refine ⟨?_, ?_, ?_, ?_, ?_, ?_, ?_⟩ <;> assumption))
            (first
              | (go_at_call 130; go_split_ands; first | ((with_reducible refine (KS1.out _).mono ?_); rintro e2 w2 ⟨rfl, rfl⟩) | ((with_reducible refine (KS2.out _).mono ?_); rintro e2 w2 ⟨rfl, rfl⟩))
              | (go_at_call 143; go_split_ands; refine (KB.out _ (HL0.out.below (by assumption))).mono ?_; rintro e2 w2 ⟨rfl, hb⟩))
          rename_i w2 hHeld
          obtain ⟨_, _, _, _, _, _, hB2⟩ := hHeld
          have HB2 := Lib.hid (HB0.out.trans (hB2.mono HB0.out.size))
          clear hB2 c0 c1 c2 c3 c4
          by_cases hC : C = 0
          · have hz : z = v := by have := HV.out; rw [if_pos hC] at this; exact this
            subst hC hz
            clear HV
            go_wp2_with fail
            go_ret2
            exact ⟨rfl, HB2.out⟩
          · have hz : z = 0 := by have := HV.out; rw [if_neg hC] at this; exact this
            subst hz
            have hC' : (C != 0) = true := by rw [bne_iff_ne]; exact hC
            clear HV hC
            go_wp2_with fail
            go_ret2
            exact ⟨rfl, HB2.out⟩
    · have hy2 := htE_one_bad hy
      rw [hy2] at KY
      have h : finE [x, y] ≠ 0 := fun h => hy (finE_two h).2
      have hc : bilCode x y (betR X Y Wn Hn l x y) = 2 := by unfold bilCode; rw [if_pos h]; exact (finE_two_bad h).1
      have hv : bilVal 2 (betR X Y Wn Hn l x y) = 0 := rfl
      rw [hc, hv]
      clear hc hv h hx hy hy2 lx ly hl hr
      generalize htE [x] = ex at *
      go_enter Try.func51, Try.ntmps51
      go_wp2_with fail
      refine (KX.out _ _ (by simp [go_sem])).mono ?_
      rintro e w2 ⟨rfl, rfl⟩
      go_wp2_with fail
      refine (KY.out _ _ (by simp [go_sem])).mono ?_
      rintro e w2 ⟨rfl, rfl⟩
      go_wp2_with fail
      go_ret2
      exact ⟨rfl, (by repeat (first | with_reducible exact Below.refl _ _ | with_reducible apply Below.drew | with_reducible refine below_drewN ?_ _ | (with_reducible refine Below.setCell ?_ ?_ _; rotate_left; focus (first | omega | (simp <;> omega))) | (with_reducible refine Below.alloc ?_ ?_ _; rotate_left; focus (first | omega | (simp <;> omega)))))⟩
  · have hx2 := htE_one_bad hx
    rw [hx2] at KX
    have h : finE [x, y] ≠ 0 := fun h => hx (finE_two h).1
    have hc : bilCode x y (betR X Y Wn Hn l x y) = 2 := by unfold bilCode; rw [if_pos h]; exact (finE_two_bad h).1
    have hv : bilVal 2 (betR X Y Wn Hn l x y) = 0 := rfl
    rw [hc, hv]
    clear hc hv h hx hx2 lx ly hl hr
    go_enter Try.func51, Try.ntmps51
    go_wp2_with fail
    refine (KX.out _ _ (by simp [go_sem])).mono ?_
    rintro e w2 ⟨rfl, rfl⟩
    go_wp2_with fail
    go_ret2
    exact ⟨rfl, (by repeat (first | with_reducible exact Below.refl _ _ | with_reducible apply Below.drew | with_reducible refine below_drewN ?_ _ | (with_reducible refine Below.setCell ?_ ?_ _; rotate_left; focus (first | omega | (simp <;> omega))) | (with_reducible refine Below.alloc ?_ ?_ _; rotate_left; focus (first | omega | (simp <;> omega)))))⟩
end Go.Proofs.Ytnfebeebjelgbaa

