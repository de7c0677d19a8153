import Derived.Test.YtimhpmccmafnpaaGreatG11
import Derived.Deep.RegionHeld3
import Derived.Test.YtimhpmccmafnpaaGreatG09
import Derived.Test.YtimhpmccmafnpaaGreatG02
import Derived.RegionTactic
import Derived.ChangeAlike
import Derived.BigRegion
import Derived.BigQuiet
import Derived.Test.YtimhpmccmafnpaaGreatG10

namespace Go.Proofs.YtimhpmccmafnpaaGreat
open Go.ChangeShapes Go.WideShapes Go.ChangeAt Go.RowKit
open Ieee.Format (fin finE htE allFin allHt all_true all_false mulF subF addF Ht Bd divF rootF floorF easeF mixF)
set_option linter.unusedVariables false

def gee (x y : Nat) : Bool := FloatKind.f32.format.order x y == some .gt || FloatKind.f32.format.order x y == some .eq
theorem const_k10 : fin Ieee.single 1149239296 ∧ Ieee.single.V 1149239296 = Ieee.P2 10 := by
  have := Ieee.Format.V_const false 136 8388608 (.inr (by decide)) (by decide) (by decide)
  rw [show Ieee.single.word false (136 * 8388608 + 8388608) = 1149239296 from by decide] at this
  refine ⟨this.1, ?_⟩
  rw [this.2.1, show ((136 : Nat) : Int) - 149 = -13 from rfl, show ((8388608 : Nat) : Rat) = Ieee.P2 23 from (Ieee.P2_nat 23).symm, ← Ieee.P2_add]
  simp [Ieee.sg]
theorem const_m10 : fin Ieee.single 981467136 ∧ Ieee.single.V 981467136 = Ieee.P2 (-10) := by
  have := Ieee.Format.V_const false 116 8388608 (.inr (by decide)) (by decide) (by decide)
  rw [show Ieee.single.word false (116 * 8388608 + 8388608) = 981467136 from by decide] at this
  refine ⟨this.1, ?_⟩
  rw [this.2.1, show ((116 : Nat) : Int) - 149 = -33 from rfl, show ((8388608 : Nat) : Rat) = Ieee.P2 23 from (Ieee.P2_nat 23).symm, ← Ieee.P2_add]
  simp [Ieee.sg]

def stepC (s : Nat) : Int := if lss s 981467136 = true then 3 else if gtr s 1149239296 = true then 3 else 0
def terC (s h : Nat) : Int := if htE [s, h] ≠ 0 then htE [s, h] else if stepC s ≠ 0 then 3 else if lss h 0 = true then 3 else if gee h 1065353216 = true then 3 else 0
theorem ter_zero {s h : Nat} (hz : terC s h = 0) : htE [s, h] = 0 ∧ stepC s = 0 ∧ lss h 0 = false ∧ gee h 1065353216 = false ∧ TerOk s h := by
  unfold terC at hz
  by_cases h1 : htE [s, h] = 0
  · rw [if_neg (by omega)] at hz
    have ht := Ieee.Format.allHt_iff.1 (Ieee.Format.htE_zero h1)
    have hs := ht s (by simp)
    have hh := ht h (by simp)
    by_cases h2 : stepC s = 0
    · rw [if_neg (by omega)] at hz
      cases h3 : lss h 0 with
      | true => rw [h3, if_pos rfl] at hz; omega
      | false =>
        rw [h3, if_neg (by decide)] at hz
        cases h4 : gee h 1065353216 with
        | true => rw [h4, if_pos rfl] at hz; omega
        | false =>
          refine ⟨h1, h2, rfl, rfl, ?_⟩
          have h2' := h2
          unfold stepC at h2'
          cases a1 : lss s 981467136 with
          | true => rw [a1, if_pos rfl] at h2'; omega
          | false =>
            rw [a1, if_neg (by decide)] at h2'
            cases a2 : gtr s 1149239296 with
            | true => rw [a2, if_pos rfl] at h2'; omega
            | false =>
              rw [lss_V hs.fin const_m10.1, const_m10.2] at a1
              rw [gtr_V hs.fin const_k10.1, const_k10.2] at a2
              rw [lss_V hh.fin Ieee.Format.const_0.1, Ieee.Format.const_0.2.1] at h3
              have a1 := of_decide_eq_false a1
              have a2 := of_decide_eq_false a2
              have h3 := of_decide_eq_false h3
              unfold gee at h4
              rw [Bool.or_eq_false_iff] at h4
              have g1 : (Ieee.single.order h 1065353216 == some .gt) = decide (Ieee.single.V 1065353216 < Ieee.single.V h) := Ieee.single.order_gt hh.fin Ieee.Format.const_1.1
              have g2 : (Ieee.single.order h 1065353216 == some .eq) = decide (Ieee.single.V h = Ieee.single.V 1065353216) := Ieee.single.order_eq hh.fin Ieee.Format.const_1.1
              have e1 := g1.symm.trans h4.1
              have e2 := g2.symm.trans h4.2
              rw [Ieee.Format.const_1.2.1] at e1 e2
              have e1 := of_decide_eq_false e1
              have e2 := of_decide_eq_false e2
              have p := Ieee.P2_pos (-10)
              have p2 := Ieee.P2_pos 10
              exact ⟨⟨hs.fin, by show -Ieee.P2 10 ≤ _; grind, by show _ ≤ Ieee.P2 10; grind⟩, by grind, hh.fin, by grind, by grind⟩
    · rw [if_pos h2] at hz; omega
  · rw [if_pos h1] at hz; exact absurd hz h1

theorem checkstep_any (s : Nat) (w : World) (hl : s < 4294967296) (hs : fin Ieee.single s) : Calls Tryz.prog 111 #[.float .f32 s] w fun e w' => e = .returned (.int .i64 (stepC s)) ∧ Below w.heap.size w w' := by
  have KF := Lib.hid (fun W g h => finites_one W g s hl h)
  rw [Ieee.Format.finE_ok (by unfold allFin; simp [hs])] at KF
  clear hl hs
  unfold stepC
  cases h1 : lss s 981467136 with
  | true =>
    rw [if_pos rfl]
    change (FloatKind.f32.format.order s 981467136 == some .lt) = true at h1
    go_enter Tryz.func111, Tryz.ntmps111
    go_wp2_with fail
    refine (KF.out _ _ (by simp [go_sem])).mono ?_
    rintro e w2 ⟨rfl, rfl⟩
    go_wp2_with fail
    go_ret
    exact ⟨rfl, (by repeat (first | with_reducible exact Below.refl _ _ | with_reducible apply Below.drew | with_reducible refine below_drewN ?_ _ | (with_reducible refine Below.setCell ?_ ?_ _; rotate_left; focus (first | omega | (simp <;> omega))) | (with_reducible refine Below.alloc ?_ ?_ _; rotate_left; focus (first | omega | (simp <;> omega)))))⟩
  | false =>
    rw [if_neg (by decide)]
    change (FloatKind.f32.format.order s 981467136 == some .lt) = false at h1
    cases h2 : gtr s 1149239296 with
    | true =>
      rw [if_pos rfl]
      change (FloatKind.f32.format.order s 1149239296 == some .gt) = true at h2
      go_enter Tryz.func111, Tryz.ntmps111
      go_wp2_with fail
      refine (KF.out _ _ (by simp [go_sem])).mono ?_
      rintro e w2 ⟨rfl, rfl⟩
      go_wp2_with fail
      go_ret
      exact ⟨rfl, (by repeat (first | with_reducible exact Below.refl _ _ | with_reducible apply Below.drew | with_reducible refine below_drewN ?_ _ | (with_reducible refine Below.setCell ?_ ?_ _; rotate_left; focus (first | omega | (simp <;> omega))) | (with_reducible refine Below.alloc ?_ ?_ _; rotate_left; focus (first | omega | (simp <;> omega)))))⟩
    | false =>
      rw [if_neg (by decide)]
      change (FloatKind.f32.format.order s 1149239296 == some .gt) = false at h2
      go_enter Tryz.func111, Tryz.ntmps111
      go_wp2_with fail
      refine (KF.out _ _ (by simp [go_sem])).mono ?_
      rintro e w2 ⟨rfl, rfl⟩
      go_wp2_with fail
      go_ret
      exact ⟨rfl, (by repeat (first | with_reducible exact Below.refl _ _ | with_reducible apply Below.drew | with_reducible refine below_drewN ?_ _ | (with_reducible refine Below.setCell ?_ ?_ _; rotate_left; focus (first | omega | (simp <;> omega))) | (with_reducible refine Below.alloc ?_ ?_ _; rotate_left; focus (first | omega | (simp <;> omega)))))⟩

set_option maxHeartbeats 1000000 in
theorem terraceerror_any (s h : Nat) (w : World) (h1 : s < 4294967296) (h2 : h < 4294967296) :
    Calls Tryz.prog 56 #[.float .f32 s, .float .f32 h] w fun e w' => e = .returned (.int .i64 (terC s h)) ∧ Below w.heap.size w w' := by
  have KH := Lib.hid (fun W g c0 c1 => refheight_two W g s h h1 h2 c0 c1)
  clear h1 h2
  unfold terC stepC
  generalize htE [s, h] = a at *
  by_cases ha : a = 0
  · rw [ha] at KH
    rw [if_neg (by omega)]
    clear ha
    cases h1 : lss s 981467136 with
    | true =>
      rw [if_pos (by simp)]
      change (FloatKind.f32.format.order s 981467136 == some .lt) = true at h1
      go_enter Tryz.func56, Tryz.ntmps56
      go_wp2_with fail
      refine (KH.out _ _ (by simp [go_sem]) (by simp [go_sem])).mono ?_
      rintro e w2 ⟨rfl, rfl⟩
      go_wp2_with fail
      go_ret
      exact ⟨rfl, (by repeat (first | with_reducible exact Below.refl _ _ | with_reducible apply Below.drew | with_reducible refine below_drewN ?_ _ | (with_reducible refine Below.setCell ?_ ?_ _; rotate_left; focus (first | omega | (simp <;> omega))) | (with_reducible refine Below.alloc ?_ ?_ _; rotate_left; focus (first | omega | (simp <;> omega)))))⟩
    | false =>
      change (FloatKind.f32.format.order s 981467136 == some .lt) = false at h1
      cases h2 : gtr s 1149239296 with
      | true =>
        rw [if_pos (by simp)]
        change (FloatKind.f32.format.order s 1149239296 == some .gt) = true at h2
        go_enter Tryz.func56, Tryz.ntmps56
        go_wp2_with fail
        refine (KH.out _ _ (by simp [go_sem]) (by simp [go_sem])).mono ?_
        rintro e w2 ⟨rfl, rfl⟩
        go_wp2_with fail
        go_ret
        exact ⟨rfl, (by repeat (first | with_reducible exact Below.refl _ _ | with_reducible apply Below.drew | with_reducible refine below_drewN ?_ _ | (with_reducible refine Below.setCell ?_ ?_ _; rotate_left; focus (first | omega | (simp <;> omega))) | (with_reducible refine Below.alloc ?_ ?_ _; rotate_left; focus (first | omega | (simp <;> omega)))))⟩
      | false =>
        rw [if_neg (by simp)]
        change (FloatKind.f32.format.order s 1149239296 == some .gt) = false at h2
        cases h3 : lss h 0 with
        | true =>
          rw [if_pos rfl]
          change (FloatKind.f32.format.order h 0 == some .lt) = true at h3
          go_enter Tryz.func56, Tryz.ntmps56
          go_wp2_with fail
          refine (KH.out _ _ (by simp [go_sem]) (by simp [go_sem])).mono ?_
          rintro e w2 ⟨rfl, rfl⟩
          go_wp2_with fail
          go_ret
          exact ⟨rfl, (by repeat (first | with_reducible exact Below.refl _ _ | with_reducible apply Below.drew | with_reducible refine below_drewN ?_ _ | (with_reducible refine Below.setCell ?_ ?_ _; rotate_left; focus (first | omega | (simp <;> omega))) | (with_reducible refine Below.alloc ?_ ?_ _; rotate_left; focus (first | omega | (simp <;> omega)))))⟩
        | false =>
          rw [if_neg (by decide)]
          change (FloatKind.f32.format.order h 0 == some .lt) = false at h3
          cases h4 : gee h 1065353216 with
          | true =>
            rw [if_pos rfl]
            change (FloatKind.f32.format.order h 1065353216 == some .gt || FloatKind.f32.format.order h 1065353216 == some .eq) = true at h4
            go_enter Tryz.func56, Tryz.ntmps56
            go_wp2_with fail
            refine (KH.out _ _ (by simp [go_sem]) (by simp [go_sem])).mono ?_
            rintro e w2 ⟨rfl, rfl⟩
            go_wp2_with fail
            go_ret
            exact ⟨rfl, (by repeat (first | with_reducible exact Below.refl _ _ | with_reducible apply Below.drew | with_reducible refine below_drewN ?_ _ | (with_reducible refine Below.setCell ?_ ?_ _; rotate_left; focus (first | omega | (simp <;> omega))) | (with_reducible refine Below.alloc ?_ ?_ _; rotate_left; focus (first | omega | (simp <;> omega)))))⟩
          | false =>
            rw [if_neg (by decide)]
            change (FloatKind.f32.format.order h 1065353216 == some .gt || FloatKind.f32.format.order h 1065353216 == some .eq) = false at h4
            go_enter Tryz.func56, Tryz.ntmps56
            go_wp2_with fail
            refine (KH.out _ _ (by simp [go_sem]) (by simp [go_sem])).mono ?_
            rintro e w2 ⟨rfl, rfl⟩
            go_wp2_with fail
            go_ret
            exact ⟨rfl, (by repeat (first | with_reducible exact Below.refl _ _ | with_reducible apply Below.drew | with_reducible refine below_drewN ?_ _ | (with_reducible refine Below.setCell ?_ ?_ _; rotate_left; focus (first | omega | (simp <;> omega))) | (with_reducible refine Below.alloc ?_ ?_ _; rotate_left; focus (first | omega | (simp <;> omega)))))⟩
  · rw [if_pos ha]
    have hb' : (a != 0) = true := by rw [bne_iff_ne]; exact ha
    clear ha
    go_enter Tryz.func56, Tryz.ntmps56
    go_wp2_with fail
    refine (KH.out _ _ (by simp [go_sem]) (by simp [go_sem])).mono ?_
    rintro e w2 ⟨rfl, rfl⟩
    go_wp2_with fail
    go_ret
    exact ⟨rfl, (by repeat (first | with_reducible exact Below.refl _ _ | with_reducible apply Below.drew | with_reducible refine below_drewN ?_ _ | (with_reducible refine Below.setCell ?_ ?_ _; rotate_left; focus (first | omega | (simp <;> omega))) | (with_reducible refine Below.alloc ?_ ?_ _; rotate_left; focus (first | omega | (simp <;> omega)))))⟩

set_option maxRecDepth 100000 in
set_option maxHeartbeats 1000000 in
theorem terracefn_any (s h : Nat) (x y : Int) (p q b o c pa pb k : Nat) (X Y W1 H1 : Int) (l : List Nat) (w : World) (hst : CntSt w p q b o c X Y W1 H1 l k) (hv : Bd 20 (l.getD k 0)) (hT : TerOk s h)
    (ha : Blk w pa #[.float .f32 s] 46) (hb : Blk w pb #[.float .f32 h] 46) (pap : pa ≠ p) (pbp : pb ≠ p) :
    Calls Tryz.prog 112 #[.int .i64 x, .int .i64 y, .pointer (some ⟨p, 0, none⟩), .pointer (some ⟨q, 0, none⟩), .pointer (some ⟨pa, 0, none⟩), .pointer (some ⟨pb, 0, none⟩)] w fun e w' => e = .returned (.float .f32 (terF s h (l.getD k 0))) ∧ But w.heap.size (fun j => j = p) w w' ∧ CntAt w' p (k : Int) := by
  have KS := Lib.hid (fun w => terraced_any s h (l.getD k 0) w hT hv)
  clear hv hT
  generalize hv0 : l.getD k 0 = v at *
  have HV0 := Lib.hid hv0
  clear hv0
  generalize terF s h v = z at *
  generalize hhh : h = sharp at *
  have h := hst
  clear hhh hst
  have hkc := h.cnt
  obtain ⟨cc, hcc⟩ : ∃ cc : Int, cc = (k : Int) - 1 := ⟨_, rfl⟩
  rw [← hcc] at hkc
  have HCC : Hid (cc + 1 = (k : Int)) := by unfold Hid; omega
  have hk1 : -1 ≤ cc := by omega
  have hk2 : cc ≤ 1099511627776 := by have := h.row.1.1; have := h.kl; omega
  have hk4 : (k : Int) < l.length := by have := h.kl; omega
  have hk5 : l.length ≤ 1099511627776 := h.row.1.1
  clear hcc
  have c0 : w.cell? ⟨p, 0, none⟩ = some (.int .i64 cc) := hkc.cell 0
  have cf : w.frozen? ⟨p, 0, none⟩ = false := hkc.frozen 0
  have hp1 := hkc.lt
  go_enter Tryz.func112, Tryz.ntmps112
  go_wp2_with fail
  rw [HCC.out]
  have HB0 := Lib.hid (But.setq (B := w.heap.size) (q := fun j => j = p) (w := w) (p := ⟨p, 0, none⟩) (.int .i64 k) rfl)
  have HC2 := Lib.hid (CntAt.setc hkc (k : Int))
  have HF2 := Lib.hid (h.fo.but HB0.out h.fo.lt h.qp)
  have HR2 := Lib.hid (h.row.but HB0.out h.bl h.bp)
  have d4 := HF2.out.cells.2.2.2.2
  have dr := SRow.at_ HR2.out h.kl
  rw [HV0.out] at dr
  have da := blk_cell1 ha HB0.out pap
  have db := blk_cell1 hb HB0.out pbp
  have dp : (w.setCell ⟨p, 0, none⟩ (.int .i64 (k : Int))).cell? ⟨p, 0, none⟩ = some (.int .i64 (k : Int)) := HC2.out.cell 0
  have hz : w.heap.size ≤ (w.setCell ⟨p, 0, none⟩ (.int .i64 (k : Int))).heap.size := HB0.out.size
  have l1 := h.fo.lt
  have l2 := h.bl
  have l3 := ha.lt
  have l4 := hb.lt
  have hpl : Hid (p < (w.setCell ⟨p, 0, none⟩ (.int .i64 (k : Int))).heap.size) := HC2.out.lt
  clear h ha hb pap pbp c0 cf hkc hp1
  generalize w.setCell ⟨p, 0, none⟩ (.int .i64 (k : Int)) = W2 at *
  have hk6 : (0 : Int) ≤ k := by omega
  go_region_held3 (fun w' => w'.cell? ⟨q, 4, none⟩ = some (.slice (some ⟨b, o, none⟩) l.length c) ∧ w'.cell? ⟨p, 0, none⟩ = some (.int .i64 (k : Int)) ∧ w'.cell? ⟨b, o + k, none⟩ = some (.float .f32 v) ∧ w'.cell? ⟨pa, 0, none⟩ = some (.float .f32 s) ∧ w'.cell? ⟨pb, 0, none⟩ = some (.float .f32 sharp) ∧ Below W2.heap.size W2 w')
    (first
      | exact ⟨d4, dp, dr, da, db, (Below.refl _ _).drew⟩
      | (go_split_ands; refine ⟨?_, ?_, ?_, ?_, ?_, ?_⟩ <;> assumption))
    (first | (go_at_call 113; go_split_ands; refine (KS.out _).mono ?_; rintro e2 w2 ⟨rfl, rfl⟩))
  rename_i w3 hHeld
  obtain ⟨_, _, _, _, _, hB⟩ := hHeld
  go_wp2_with fail
  go_ret
  exact ⟨rfl, HB0.out.trans ((But.of hB).mono hz), HC2.out.below hB hpl.out⟩
end Go.Proofs.YtimhpmccmafnpaaGreat


namespace Go.Proofs.YtimhpmccmafnpaaGreat
open Go.ChangeShapes Go.WideShapes Go.ChangeAt Go.RowKit
open Ieee.Format (fin finE htE allFin allHt all_true all_false mulF subF addF Ht Bd divF rootF floorF easeF mixF)
set_option linter.unusedVariables false

theorem box_f2c (w : World) (X Y W H : Int) (v : Value) (c1 c2 : Array Value) (t : TypeId) : ∀ W0, W0 = (((w.alloc (.cells #[.int .i64 X, .int .i64 Y, .int .i64 W, .int .i64 H, v] 78)).alloc (.cells c1 t)).alloc (.cells c2 t)).alloc (.cells #[.int .i64 0, .int .i64 0, .int .i64 0, .int .i64 0, .slice none 0 0] 78) →
    Fld W0 w.heap.size X Y W H v ∧ Blk W0 (w.heap.size + 1) c1 t ∧ Blk W0 (w.heap.size + 1 + 1) c2 t ∧ Fld W0 (w.heap.size + 1 + 1 + 1) 0 0 0 0 (.slice none 0 0) ∧ Below w.heap.size w W0 := by
  rintro _ rfl
  refine ⟨(((Fld.new w X Y W H v).alloc _).alloc _).alloc _, ?_, ?_, ?_, (by repeat (first | with_reducible exact Below.refl _ _ | with_reducible apply Below.drew | with_reducible refine below_drewN ?_ _ | (with_reducible refine Below.setCell ?_ ?_ _; rotate_left; focus (first | omega | (simp <;> omega))) | (with_reducible refine Below.alloc ?_ ?_ _; rotate_left; focus (first | omega | (simp <;> omega)))))⟩
  · have := ((Blk.new (w.alloc (.cells #[.int .i64 X, .int .i64 Y, .int .i64 W, .int .i64 H, v] 78)) c1 t).alloc (.cells c2 t)).alloc (.cells #[.int .i64 0, .int .i64 0, .int .i64 0, .int .i64 0, .slice none 0 0] 78)
    simpa using this
  · have := (Blk.new ((w.alloc (.cells #[.int .i64 X, .int .i64 Y, .int .i64 W, .int .i64 H, v] 78)).alloc (.cells c1 t)) c2 t).alloc (.cells #[.int .i64 0, .int .i64 0, .int .i64 0, .int .i64 0, .slice none 0 0] 78)
    simpa using this
  · have := Fld.new (((w.alloc (.cells #[.int .i64 X, .int .i64 Y, .int .i64 W, .int .i64 H, v] 78)).alloc (.cells c1 t)).alloc (.cells c2 t)) 0 0 0 0 (.slice none 0 0)
    simpa using this

set_option maxRecDepth 100000 in
set_option maxHeartbeats 1000000 in
theorem terrace_bad (X Y : Int) (Wn Hn : Nat) (b o c : Nat) (l : List Nat) (s h : Nat) (w : World) (hl : SRow w (some ⟨b, o, none⟩) l) (hr : Right X Y Wn Hn l) (h1 : s < 4294967296) (h2 : h < 4294967296) (hn : terC s h ≠ 0) :
    Calls Tryz.prog 77 #[fldV X Y Wn Hn (some ⟨b, o, none⟩) l.length c, .float .f32 s, .float .f32 h] w fun e w' => e = .returned (.tuple #[fldV 0 0 0 0 none 0 0, .int .i64 (terC s h)]) ∧ Below w.heap.size w w' := by
  have K := Lib.hid (fun w h => check_field X Y Wn Hn (some ⟨b, o, none⟩) c l w h)
  rw [hr.chk] at K
  have HL := Lib.hid hl
  have KH := Lib.hid (fun W g c0 c1 => heights_two W g s h h1 h2 c0 c1)
  by_cases ha : htE [s, h] = 0
  · have hts := Ieee.Format.allHt_iff.1 (Ieee.Format.htE_zero ha)
    have hsf : fin Ieee.single s := (hts s (by simp)).fin
    have KC := Lib.hid (fun w => checkstep_any s w h1 hsf)
    have e3 : terC s h = 3 := by
      unfold terC at hn ⊢
      rw [if_neg (by omega)] at hn ⊢
      by_cases c1 : stepC s = 0
      · rw [if_neg (by omega)] at hn ⊢
        cases c2 : lss h 0 with
        | true => rw [if_pos rfl]
        | false =>
          rw [c2, if_neg (by decide)] at hn
          rw [if_neg (by decide)]
          cases c3 : gee h 1065353216 with
          | true => rw [if_pos rfl]
          | false => rw [c3, if_neg (by decide)] at hn; exact absurd rfl hn
      · rw [if_pos c1]
    have hways : stepC s = 3 ∨ (stepC s = 0 ∧ lss h 0 = true) ∨ (stepC s = 0 ∧ lss h 0 = false ∧ gee h 1065353216 = true) := by
      have hs3 : stepC s = 0 ∨ stepC s = 3 := by unfold stepC; split; exact .inr rfl; split; exact .inr rfl; exact .inl rfl
      rcases hs3 with c1 | c1
      · unfold terC at e3
        rw [if_neg (by omega), if_neg (by omega)] at e3
        cases c2 : lss h 0 with
        | true => exact .inr (.inl ⟨c1, rfl⟩)
        | false =>
          rw [c2, if_neg (by decide)] at e3
          cases c3 : gee h 1065353216 with
          | true => exact .inr (.inr ⟨c1, rfl, rfl⟩)
          | false => rw [c3, if_neg (by decide)] at e3; omega
      · exact .inl c1
    rw [e3]
    rw [ha] at KH
    clear hl hr h1 h2 hn ha hts hsf e3
    rcases hways with c1 | ⟨c1, c2⟩ | ⟨c1, c2, c3⟩
    · rw [c1] at KC
      clear c1
      go_enter Tryz.func77, Tryz.ntmps77
      go_wp2_with fail
      generalize hW0 : (((w.alloc (.cells #[.int .i64 X, .int .i64 Y, .int .i64 Wn, .int .i64 Hn, .slice (some ⟨b, o, none⟩) l.length c] 78)).alloc (.cells #[.float .f32 s] 46)).alloc (.cells #[.float .f32 h] 46)).alloc (.cells #[.int .i64 0, .int .i64 0, .int .i64 0, .int .i64 0, .slice none 0 0] 78) = W0 at *
      obtain ⟨E0, P0, Q0, F0, B0⟩ := box_f2c w X Y Wn Hn (.slice (some ⟨b, o, none⟩) l.length c) #[.float .f32 s] #[.float .f32 h] 46 W0 hW0.symm
      clear hW0
      refine (K.out _ (HL.out.below B0)).mono ?_
      rintro e w1 ⟨rfl, b1⟩
      have HE1 := Lib.hid (E0.below b1 E0.lt)
      have HP1 := Lib.hid (P0.below b1 P0.lt)
      have HQ1 := Lib.hid (Q0.below b1 Q0.lt)
      have HF1 := Lib.hid (F0.below b1 F0.lt)
      have HL1 := Lib.hid ((HL.out.below B0).below b1)
      have HB1 := Lib.hid (B0.trans (b1.mono B0.size))
      clear b1 B0 F0 E0 P0 Q0 K HL
      have p0 : w1.cell? ⟨w.heap.size + 1, 0, none⟩ = some (.float .f32 s) := HP1.out.cell 0
      have p1 : w1.cell? ⟨w.heap.size + 1 + 1, 0, none⟩ = some (.float .f32 h) := HQ1.out.cell 0
      have l3 : w.heap.size + 1 + 1 + 1 < w1.heap.size := HF1.out.lt
      have l2 : w.heap.size + 1 + 1 < w1.heap.size := by omega
      have l1 : w.heap.size + 1 < w1.heap.size := by omega
      have l0 : w.heap.size < w1.heap.size := by omega
      go_wp2_with fail
      refine (KH.out _ _ (by simp [go_sem]) (by simp [go_sem])).mono ?_
      rintro e w2 ⟨rfl, rfl⟩
      go_wp2_with fail
      refine (KC.out _).mono ?_
      rintro e w2 ⟨rfl, b2⟩
      have b0 : Below w1.heap.size w1 (w1.alloc (.cells #[.float .f32 s, .float .f32 h] 46)) := (by repeat (first | with_reducible exact Below.refl _ _ | with_reducible apply Below.drew | with_reducible refine below_drewN ?_ _ | (with_reducible refine Below.setCell ?_ ?_ _; rotate_left; focus (first | omega | (simp <;> omega))) | (with_reducible refine Below.alloc ?_ ?_ _; rotate_left; focus (first | omega | (simp <;> omega)))))
      have b2' := b0.trans (b2.mono b0.size)
      have HE2 := Lib.hid (HE1.out.below b2' HE1.out.lt)
      have HP2 := Lib.hid (HP1.out.below b2' HP1.out.lt)
      have HQ2 := Lib.hid (HQ1.out.below b2' HQ1.out.lt)
      have HF2 := Lib.hid (HF1.out.below b2' HF1.out.lt)
      have HL2 := Lib.hid (HL1.out.below b2')
      have HB2 := Lib.hid (HB1.out.trans (b2'.mono HB1.out.size))
      clear b0 b2 b2' p0 p1 l0 l1 l2 l3 HE1 HP1 HQ1 HF1 HL1 HB1
      have p0 : w2.cell? ⟨w.heap.size + 1, 0, none⟩ = some (.float .f32 s) := HP2.out.cell 0
      have p1 : w2.cell? ⟨w.heap.size + 1 + 1, 0, none⟩ = some (.float .f32 h) := HQ2.out.cell 0
      have l3 : w.heap.size + 1 + 1 + 1 < w2.heap.size := HF2.out.lt
      have l2 : w.heap.size + 1 + 1 < w2.heap.size := by omega
      have l1 : w.heap.size + 1 < w2.heap.size := by omega
      have l0 : w.heap.size < w2.heap.size := by omega
      obtain ⟨d0, d1, d2, d3, d4⟩ := HF2.out.cells
      have qf0 := HF2.out.frozen 0
      have qf1 := HF2.out.frozen 1
      have qf2 := HF2.out.frozen 2
      have qf3 := HF2.out.frozen 3
      have qf4 := HF2.out.frozen 4
      go_wp2_with fail
      have B3 := HB2.out
      exact bodyPost_ret (v := .tuple #[fldV 0 0 0 0 none 0 0, .int .i64 3]) (by simp [results, Tryz.results77, go_sem, *]) rfl ⟨rfl, (by have hszz := B3.size; repeat (first | with_reducible exact B3 | with_reducible apply Below.drew | with_reducible refine below_drewN ?_ _ | (with_reducible refine Below.setCell ?_ ?_ _; rotate_left; focus (first | omega | (simp <;> omega))) | (with_reducible refine Below.alloc ?_ ?_ _; rotate_left; focus (first | omega | (simp <;> omega)))))⟩
    · rw [c1] at KC
      change (FloatKind.f32.format.order h 0 == some .lt) = true at c2
      clear c1
      go_enter Tryz.func77, Tryz.ntmps77
      go_wp2_with fail
      generalize hW0 : (((w.alloc (.cells #[.int .i64 X, .int .i64 Y, .int .i64 Wn, .int .i64 Hn, .slice (some ⟨b, o, none⟩) l.length c] 78)).alloc (.cells #[.float .f32 s] 46)).alloc (.cells #[.float .f32 h] 46)).alloc (.cells #[.int .i64 0, .int .i64 0, .int .i64 0, .int .i64 0, .slice none 0 0] 78) = W0 at *
      obtain ⟨E0, P0, Q0, F0, B0⟩ := box_f2c w X Y Wn Hn (.slice (some ⟨b, o, none⟩) l.length c) #[.float .f32 s] #[.float .f32 h] 46 W0 hW0.symm
      clear hW0
      refine (K.out _ (HL.out.below B0)).mono ?_
      rintro e w1 ⟨rfl, b1⟩
      have HE1 := Lib.hid (E0.below b1 E0.lt)
      have HP1 := Lib.hid (P0.below b1 P0.lt)
      have HQ1 := Lib.hid (Q0.below b1 Q0.lt)
      have HF1 := Lib.hid (F0.below b1 F0.lt)
      have HL1 := Lib.hid ((HL.out.below B0).below b1)
      have HB1 := Lib.hid (B0.trans (b1.mono B0.size))
      clear b1 B0 F0 E0 P0 Q0 K HL
      have p0 : w1.cell? ⟨w.heap.size + 1, 0, none⟩ = some (.float .f32 s) := HP1.out.cell 0
      have p1 : w1.cell? ⟨w.heap.size + 1 + 1, 0, none⟩ = some (.float .f32 h) := HQ1.out.cell 0
      have l3 : w.heap.size + 1 + 1 + 1 < w1.heap.size := HF1.out.lt
      have l2 : w.heap.size + 1 + 1 < w1.heap.size := by omega
      have l1 : w.heap.size + 1 < w1.heap.size := by omega
      have l0 : w.heap.size < w1.heap.size := by omega
      go_wp2_with fail
      refine (KH.out _ _ (by simp [go_sem]) (by simp [go_sem])).mono ?_
      rintro e w2 ⟨rfl, rfl⟩
      go_wp2_with fail
      refine (KC.out _).mono ?_
      rintro e w2 ⟨rfl, b2⟩
      have b0 : Below w1.heap.size w1 (w1.alloc (.cells #[.float .f32 s, .float .f32 h] 46)) := (by repeat (first | with_reducible exact Below.refl _ _ | with_reducible apply Below.drew | with_reducible refine below_drewN ?_ _ | (with_reducible refine Below.setCell ?_ ?_ _; rotate_left; focus (first | omega | (simp <;> omega))) | (with_reducible refine Below.alloc ?_ ?_ _; rotate_left; focus (first | omega | (simp <;> omega)))))
      have b2' := b0.trans (b2.mono b0.size)
      have HE2 := Lib.hid (HE1.out.below b2' HE1.out.lt)
      have HP2 := Lib.hid (HP1.out.below b2' HP1.out.lt)
      have HQ2 := Lib.hid (HQ1.out.below b2' HQ1.out.lt)
      have HF2 := Lib.hid (HF1.out.below b2' HF1.out.lt)
      have HL2 := Lib.hid (HL1.out.below b2')
      have HB2 := Lib.hid (HB1.out.trans (b2'.mono HB1.out.size))
      clear b0 b2 b2' p0 p1 l0 l1 l2 l3 HE1 HP1 HQ1 HF1 HL1 HB1
      have p0 : w2.cell? ⟨w.heap.size + 1, 0, none⟩ = some (.float .f32 s) := HP2.out.cell 0
      have p1 : w2.cell? ⟨w.heap.size + 1 + 1, 0, none⟩ = some (.float .f32 h) := HQ2.out.cell 0
      have l3 : w.heap.size + 1 + 1 + 1 < w2.heap.size := HF2.out.lt
      have l2 : w.heap.size + 1 + 1 < w2.heap.size := by omega
      have l1 : w.heap.size + 1 < w2.heap.size := by omega
      have l0 : w.heap.size < w2.heap.size := by omega
      obtain ⟨d0, d1, d2, d3, d4⟩ := HF2.out.cells
      have qf0 := HF2.out.frozen 0
      have qf1 := HF2.out.frozen 1
      have qf2 := HF2.out.frozen 2
      have qf3 := HF2.out.frozen 3
      have qf4 := HF2.out.frozen 4
      go_wp2_with fail
      have B3 := HB2.out
      exact bodyPost_ret (v := .tuple #[fldV 0 0 0 0 none 0 0, .int .i64 3]) (by simp [results, Tryz.results77, go_sem, *]) rfl ⟨rfl, (by have hszz := B3.size; repeat (first | with_reducible exact B3 | with_reducible apply Below.drew | with_reducible refine below_drewN ?_ _ | (with_reducible refine Below.setCell ?_ ?_ _; rotate_left; focus (first | omega | (simp <;> omega))) | (with_reducible refine Below.alloc ?_ ?_ _; rotate_left; focus (first | omega | (simp <;> omega)))))⟩
    · rw [c1] at KC
      change (FloatKind.f32.format.order h 0 == some .lt) = false at c2
      change (FloatKind.f32.format.order h 1065353216 == some .gt || FloatKind.f32.format.order h 1065353216 == some .eq) = true at c3
      clear c1
      go_enter Tryz.func77, Tryz.ntmps77
      go_wp2_with fail
      generalize hW0 : (((w.alloc (.cells #[.int .i64 X, .int .i64 Y, .int .i64 Wn, .int .i64 Hn, .slice (some ⟨b, o, none⟩) l.length c] 78)).alloc (.cells #[.float .f32 s] 46)).alloc (.cells #[.float .f32 h] 46)).alloc (.cells #[.int .i64 0, .int .i64 0, .int .i64 0, .int .i64 0, .slice none 0 0] 78) = W0 at *
      obtain ⟨E0, P0, Q0, F0, B0⟩ := box_f2c w X Y Wn Hn (.slice (some ⟨b, o, none⟩) l.length c) #[.float .f32 s] #[.float .f32 h] 46 W0 hW0.symm
      clear hW0
      refine (K.out _ (HL.out.below B0)).mono ?_
      rintro e w1 ⟨rfl, b1⟩
      have HE1 := Lib.hid (E0.below b1 E0.lt)
      have HP1 := Lib.hid (P0.below b1 P0.lt)
      have HQ1 := Lib.hid (Q0.below b1 Q0.lt)
      have HF1 := Lib.hid (F0.below b1 F0.lt)
      have HL1 := Lib.hid ((HL.out.below B0).below b1)
      have HB1 := Lib.hid (B0.trans (b1.mono B0.size))
      clear b1 B0 F0 E0 P0 Q0 K HL
      have p0 : w1.cell? ⟨w.heap.size + 1, 0, none⟩ = some (.float .f32 s) := HP1.out.cell 0
      have p1 : w1.cell? ⟨w.heap.size + 1 + 1, 0, none⟩ = some (.float .f32 h) := HQ1.out.cell 0
      have l3 : w.heap.size + 1 + 1 + 1 < w1.heap.size := HF1.out.lt
      have l2 : w.heap.size + 1 + 1 < w1.heap.size := by omega
      have l1 : w.heap.size + 1 < w1.heap.size := by omega
      have l0 : w.heap.size < w1.heap.size := by omega
      go_wp2_with fail
      refine (KH.out _ _ (by simp [go_sem]) (by simp [go_sem])).mono ?_
      rintro e w2 ⟨rfl, rfl⟩
      go_wp2_with fail
      refine (KC.out _).mono ?_
      rintro e w2 ⟨rfl, b2⟩
      have b0 : Below w1.heap.size w1 (w1.alloc (.cells #[.float .f32 s, .float .f32 h] 46)) := (by repeat (first | with_reducible exact Below.refl _ _ | with_reducible apply Below.drew | with_reducible refine below_drewN ?_ _ | (with_reducible refine Below.setCell ?_ ?_ _; rotate_left; focus (first | omega | (simp <;> omega))) | (with_reducible refine Below.alloc ?_ ?_ _; rotate_left; focus (first | omega | (simp <;> omega)))))
      have b2' := b0.trans (b2.mono b0.size)
      have HE2 := Lib.hid (HE1.out.below b2' HE1.out.lt)
      have HP2 := Lib.hid (HP1.out.below b2' HP1.out.lt)
      have HQ2 := Lib.hid (HQ1.out.below b2' HQ1.out.lt)
      have HF2 := Lib.hid (HF1.out.below b2' HF1.out.lt)
      have HL2 := Lib.hid (HL1.out.below b2')
      have HB2 := Lib.hid (HB1.out.trans (b2'.mono HB1.out.size))
      clear b0 b2 b2' p0 p1 l0 l1 l2 l3 HE1 HP1 HQ1 HF1 HL1 HB1
      have p0 : w2.cell? ⟨w.heap.size + 1, 0, none⟩ = some (.float .f32 s) := HP2.out.cell 0
      have p1 : w2.cell? ⟨w.heap.size + 1 + 1, 0, none⟩ = some (.float .f32 h) := HQ2.out.cell 0
      have l3 : w.heap.size + 1 + 1 + 1 < w2.heap.size := HF2.out.lt
      have l2 : w.heap.size + 1 + 1 < w2.heap.size := by omega
      have l1 : w.heap.size + 1 < w2.heap.size := by omega
      have l0 : w.heap.size < w2.heap.size := by omega
      obtain ⟨d0, d1, d2, d3, d4⟩ := HF2.out.cells
      have qf0 := HF2.out.frozen 0
      have qf1 := HF2.out.frozen 1
      have qf2 := HF2.out.frozen 2
      have qf3 := HF2.out.frozen 3
      have qf4 := HF2.out.frozen 4
      go_wp2_with fail
      have B3 := HB2.out
      exact bodyPost_ret (v := .tuple #[fldV 0 0 0 0 none 0 0, .int .i64 3]) (by simp [results, Tryz.results77, go_sem, *]) rfl ⟨rfl, (by have hszz := B3.size; repeat (first | with_reducible exact B3 | with_reducible apply Below.drew | with_reducible refine below_drewN ?_ _ | (with_reducible refine Below.setCell ?_ ?_ _; rotate_left; focus (first | omega | (simp <;> omega))) | (with_reducible refine Below.alloc ?_ ?_ _; rotate_left; focus (first | omega | (simp <;> omega)))))⟩
  · have e3 : terC s h = htE [s, h] := by unfold terC; rw [if_pos ha]
    rw [e3]
    generalize htE [s, h] = a at *
    have hb' : (a != 0) = true := by rw [bne_iff_ne]; exact ha
    clear hl hr h1 h2 hn ha e3
    go_enter Tryz.func77, Tryz.ntmps77
    go_wp2_with fail
    generalize hW0 : (((w.alloc (.cells #[.int .i64 X, .int .i64 Y, .int .i64 Wn, .int .i64 Hn, .slice (some ⟨b, o, none⟩) l.length c] 78)).alloc (.cells #[.float .f32 s] 46)).alloc (.cells #[.float .f32 h] 46)).alloc (.cells #[.int .i64 0, .int .i64 0, .int .i64 0, .int .i64 0, .slice none 0 0] 78) = W0 at *
    obtain ⟨E0, P0, Q0, F0, B0⟩ := box_f2c w X Y Wn Hn (.slice (some ⟨b, o, none⟩) l.length c) #[.float .f32 s] #[.float .f32 h] 46 W0 hW0.symm
    clear hW0
    refine (K.out _ (HL.out.below B0)).mono ?_
    rintro e w1 ⟨rfl, b1⟩
    have HE1 := Lib.hid (E0.below b1 E0.lt)
    have HP1 := Lib.hid (P0.below b1 P0.lt)
    have HQ1 := Lib.hid (Q0.below b1 Q0.lt)
    have HF1 := Lib.hid (F0.below b1 F0.lt)
    have HL1 := Lib.hid ((HL.out.below B0).below b1)
    have HB1 := Lib.hid (B0.trans (b1.mono B0.size))
    clear b1 B0 F0 E0 P0 Q0 K HL
    have p0 : w1.cell? ⟨w.heap.size + 1, 0, none⟩ = some (.float .f32 s) := HP1.out.cell 0
    have p1 : w1.cell? ⟨w.heap.size + 1 + 1, 0, none⟩ = some (.float .f32 h) := HQ1.out.cell 0
    have l3 : w.heap.size + 1 + 1 + 1 < w1.heap.size := HF1.out.lt
    have l2 : w.heap.size + 1 + 1 < w1.heap.size := by omega
    have l1 : w.heap.size + 1 < w1.heap.size := by omega
    have l0 : w.heap.size < w1.heap.size := by omega
    go_wp2_with fail
    refine (KH.out _ _ (by simp [go_sem]) (by simp [go_sem])).mono ?_
    rintro e w2 ⟨rfl, rfl⟩
    obtain ⟨d0, d1, d2, d3, d4⟩ := HF1.out.cells
    have qf0 := HF1.out.frozen 0
    have qf1 := HF1.out.frozen 1
    have qf2 := HF1.out.frozen 2
    have qf3 := HF1.out.frozen 3
    have qf4 := HF1.out.frozen 4
    go_wp2_with fail
    have B3 := HB1.out
    exact bodyPost_ret (v := .tuple #[fldV 0 0 0 0 none 0 0, .int .i64 a]) (by simp [results, Tryz.results77, go_sem, *]) rfl ⟨rfl, (by have hszz := B3.size; repeat (first | with_reducible exact B3 | with_reducible apply Below.drew | with_reducible refine below_drewN ?_ _ | (with_reducible refine Below.setCell ?_ ?_ _; rotate_left; focus (first | omega | (simp <;> omega))) | (with_reducible refine Below.alloc ?_ ?_ _; rotate_left; focus (first | omega | (simp <;> omega)))))⟩

theorem cnt_world1 (w : World) : ∀ W0, W0 = w.alloc (.cells #[.int .i64 (-1)] 3) → CntAt W0 w.heap.size (-1) ∧ Below w.heap.size w W0 ∧ W0.heap.size = w.heap.size + 1 := by
  rintro _ rfl
  exact ⟨Blk.new w _ _, (by repeat (first | with_reducible exact Below.refl _ _ | with_reducible apply Below.drew | with_reducible refine below_drewN ?_ _ | (with_reducible refine Below.setCell ?_ ?_ _; rotate_left; focus (first | omega | (simp <;> omega))) | (with_reducible refine Below.alloc ?_ ?_ _; rotate_left; focus (first | omega | (simp <;> omega))))), by simp⟩

set_option maxRecDepth 100000 in
set_option maxHeartbeats 1000000 in
theorem terrace_ok (X Y : Int) (Wn Hn : Nat) (b o c : Nat) (l : List Nat) (s h : Nat) (w : World) (hl : SRow w (some ⟨b, o, none⟩) l) (hr : Right X Y Wn Hn l) (h1 : s < 4294967296) (h2 : h < 4294967296) (hn : terC s h = 0) :
    Calls Tryz.prog 77 #[fldV X Y Wn Hn (some ⟨b, o, none⟩) l.length c, .float .f32 s, .float .f32 h] w fun e w' => OpP (resC (l.map (terF s h))) X Y Wn Hn (l.map (terF s h)) w e w' := by
  obtain ⟨ha, hsc, c2, c3, hT⟩ := ter_zero hn
  have K := Lib.hid (fun w h => check_field X Y Wn Hn (some ⟨b, o, none⟩) c l w h)
  rw [hr.chk] at K
  have HL := Lib.hid hl
  have KH := Lib.hid (fun W g c0 c1 => heights_two W g s h h1 h2 c0 c1)
  rw [ha] at KH
  have KC := Lib.hid (fun w => checkstep_any s w h1 hT.st.1)
  rw [hsc] at KC
  have HBL : Hid (b < w.heap.size) := SRow.blt hl hr.pos
  have KM := Lib.hid (fun p q pa pb w (hl : SRow w (some ⟨b, o, none⟩) l) (hq : Fld w q X Y Wn Hn (.slice (some ⟨b, o, none⟩) l.length c)) (ha : Blk w pa #[.float .f32 s] 46) (hb : Blk w pb #[.float .f32 h] 46) (hp : CntAt w p (-1)) (qp : q ≠ p) (bp : b ≠ p) (pap : pa ≠ p) (pbp : pb ≠ p) =>
    make_map 112 #[.pointer (some ⟨p, 0, none⟩), .pointer (some ⟨q, 0, none⟩), .pointer (some ⟨pa, 0, none⟩), .pointer (some ⟨pb, 0, none⟩)] p (terF s h) X Y Wn Hn l w hr (enters_of Tryz.func112 (by kernel_rfl) rfl) hp (terF_lt s h)
      (fun x y k hk W' hb' hcnt => terracefn_any s h x y p q b o c pa pb k X Y Wn Hn l W' ⟨hcnt, hq.but hb' hq.lt qp, SRow.but hl hb' (SRow.blt hl hr.pos) bp, qp, bp, hk, by have := hb'.size; have := SRow.blt hl hr.pos; omega⟩ (hr.bd' k) hT (ha.but hb' ha.lt pap) (hb.but hb' hb.lt pbp) pap pbp))
  have KR := Lib.hid (fun X1 Y1 W1 H1 g cap B w ho => result_any X1 Y1 W1 H1 g cap B (l.map (terF s h)) w ho (by rw [List.length_map]; exact hr.small))
  change (FloatKind.f32.format.order h 0 == some .lt) = false at c2
  change (FloatKind.f32.format.order h 1065353216 == some .gt || FloatKind.f32.format.order h 1065353216 == some .eq) = false at c3
  clear hl hr h1 h2 hn ha hsc hT
  generalize l.map (terF s h) = S at *
  generalize resC S = C at *
  go_enter Tryz.func77, Tryz.ntmps77
  go_wp2_with fail
  generalize hW0 : (((w.alloc (.cells #[.int .i64 X, .int .i64 Y, .int .i64 Wn, .int .i64 Hn, .slice (some ⟨b, o, none⟩) l.length c] 78)).alloc (.cells #[.float .f32 s] 46)).alloc (.cells #[.float .f32 h] 46)).alloc (.cells #[.int .i64 0, .int .i64 0, .int .i64 0, .int .i64 0, .slice none 0 0] 78) = W0 at *
  obtain ⟨E0, P0, Q0, F0, B0⟩ := box_f2c w X Y Wn Hn (.slice (some ⟨b, o, none⟩) l.length c) #[.float .f32 s] #[.float .f32 h] 46 W0 hW0.symm
  clear hW0
  refine (K.out _ (HL.out.below B0)).mono ?_
  rintro e w1 ⟨rfl, b1⟩
  have HE1 := Lib.hid (E0.below b1 E0.lt)
  have HP1 := Lib.hid (P0.below b1 P0.lt)
  have HQ1 := Lib.hid (Q0.below b1 Q0.lt)
  have HF1 := Lib.hid (F0.below b1 F0.lt)
  have HL1 := Lib.hid ((HL.out.below B0).below b1)
  have HB1 := Lib.hid (B0.trans (b1.mono B0.size))
  clear b1 B0 F0 E0 P0 Q0 K HL
  have p0 : w1.cell? ⟨w.heap.size + 1, 0, none⟩ = some (.float .f32 s) := HP1.out.cell 0
  have p1 : w1.cell? ⟨w.heap.size + 1 + 1, 0, none⟩ = some (.float .f32 h) := HQ1.out.cell 0
  have l3 : w.heap.size + 1 + 1 + 1 < w1.heap.size := HF1.out.lt
  have l2 : w.heap.size + 1 + 1 < w1.heap.size := by omega
  have l1 : w.heap.size + 1 < w1.heap.size := by omega
  have l0 : w.heap.size < w1.heap.size := by omega
  go_wp2_with fail
  refine (KH.out _ _ (by simp [go_sem]) (by simp [go_sem])).mono ?_
  rintro e w2 ⟨rfl, rfl⟩
  go_wp2_with fail
  refine (KC.out _).mono ?_
  rintro e w2 ⟨rfl, b2⟩
  have b0 : Below w1.heap.size w1 (w1.alloc (.cells #[.float .f32 s, .float .f32 h] 46)) := (by repeat (first | with_reducible exact Below.refl _ _ | with_reducible apply Below.drew | with_reducible refine below_drewN ?_ _ | (with_reducible refine Below.setCell ?_ ?_ _; rotate_left; focus (first | omega | (simp <;> omega))) | (with_reducible refine Below.alloc ?_ ?_ _; rotate_left; focus (first | omega | (simp <;> omega)))))
  have b2' := b0.trans (b2.mono b0.size)
  have HE2 := Lib.hid (HE1.out.below b2' HE1.out.lt)
  have HP2 := Lib.hid (HP1.out.below b2' HP1.out.lt)
  have HQ2 := Lib.hid (HQ1.out.below b2' HQ1.out.lt)
  have HF2 := Lib.hid (HF1.out.below b2' HF1.out.lt)
  have HL2 := Lib.hid (HL1.out.below b2')
  have HB2 := Lib.hid (HB1.out.trans (b2'.mono HB1.out.size))
  clear b0 b2 b2' p0 p1 l0 l1 l2 l3 HE1 HP1 HQ1 HF1 HL1 HB1
  have p0 : w2.cell? ⟨w.heap.size + 1, 0, none⟩ = some (.float .f32 s) := HP2.out.cell 0
  have p1 : w2.cell? ⟨w.heap.size + 1 + 1, 0, none⟩ = some (.float .f32 h) := HQ2.out.cell 0
  have l3 : w.heap.size + 1 + 1 + 1 < w2.heap.size := HF2.out.lt
  have l2 : w.heap.size + 1 + 1 < w2.heap.size := by omega
  have l1 : w.heap.size + 1 < w2.heap.size := by omega
  have l0 : w.heap.size < w2.heap.size := by omega
  obtain ⟨c0, c1, c4, c5, c6⟩ := HE2.out.cells
  go_wp2_with fail
  generalize hW3 : w2.alloc (.cells #[.int .i64 (-1)] 3) = W3 at *
  obtain ⟨n3, B3, z3⟩ := cnt_world1 w2 W3 hW3.symm
  clear hW3
  have HN3 := Lib.hid n3
  clear n3 z3
  have HE3 := Lib.hid (HE2.out.below B3 HE2.out.lt)
  have HP3 := Lib.hid (HP2.out.below B3 HP2.out.lt)
  have HQ3 := Lib.hid (HQ2.out.below B3 HQ2.out.lt)
  have HF3 := Lib.hid (HF2.out.below B3 HF2.out.lt)
  have HL3 := Lib.hid (HL2.out.below B3)
  have HB3 := Lib.hid (HB2.out.trans (B3.mono HB2.out.size))
  have HBS : Hid (w.heap.size ≤ w2.heap.size) := HB2.out.size
  refine (KM.out _ _ _ _ _ HL3.out HE3.out HP3.out HQ3.out HN3.out (by omega) (by have := HBL.out; omega) (by omega) (by omega)).mono ?_
  rintro e w4 ⟨⟨g, cap, rfl, ho⟩, b4⟩
  have HF4 := Lib.hid (HF3.out.below b4 (by omega))
  have HB4 := Lib.hid (HB3.out.trans (b4.mono (by have := HBS.out; omega)))
  have HO4 := Lib.hid ho
  clear ho b4 KM HE3 HP3 HQ3 HL3 HB3 HE2 HP2 HQ2 HL2 HB2 B3 p0 p1 c0 c1 c4 c5 c6 HN3
  go_wp2_with fail
  refine (KR.out _ _ _ _ _ _ _ _ HO4.out).mono ?_
  rintro e w7 ⟨⟨x, y, p, q, a, m, k, rfl, o7⟩, b7⟩
  have HOZ := Lib.hid o7
  have HFZ := Lib.hid (HF4.out.below b7 HF4.out.lt)
  have HBZ := Lib.hid (HB4.out.trans (b7.mono HB4.out.size))
  have HZB : Hid (w.heap.size + 1 + 1 + 1 < W3.heap.size) := HF3.out.lt
  have HBB : Hid (w.heap.size ≤ W3.heap.size) := by have := HZB.out; unfold Hid; omega
  clear o7 b7 KR HO4 HF4 HB4 HF3 HF2 l0 l1 l2 l3
  obtain ⟨d0, d1, d2, d3, d4⟩ := HFZ.out.cells
  have qf0 := HFZ.out.frozen 0
  have qf1 := HFZ.out.frozen 1
  have qf2 := HFZ.out.frozen 2
  have qf3 := HFZ.out.frozen 3
  have qf4 := HFZ.out.frozen 4
  have lz := HFZ.out.lt
  go_wp2_with fail
  generalize hW5 : ((((w7.setCell ⟨w.heap.size + 1 + 1 + 1, 0, none⟩ (.int .i64 x)).setCell ⟨w.heap.size + 1 + 1 + 1, 1, none⟩ (.int .i64 y)).setCell ⟨w.heap.size + 1 + 1 + 1, 2, none⟩ (.int .i64 p)).setCell ⟨w.heap.size + 1 + 1 + 1, 3, none⟩ (.int .i64 q)).setCell ⟨w.heap.size + 1 + 1 + 1, 4, none⟩ (.slice a m k) = W5 at *
  obtain ⟨f5, bb5, oo5, _, z5⟩ := fld_store w7 (w.heap.size + 1 + 1 + 1) 0 0 0 0 _ x y p q (.slice a m k) HFZ.out W5 hW5.symm
  have hO5 := (HOZ.out.set oo5 HZB.out).base HBB.out
  have hB5 := HBZ.out.trans (bb5.mono (by omega))
  clear d0 d1 d2 d3 d4 qf0 qf1 qf2 qf3 qf4 hW5 oo5
  obtain ⟨d0, d1, d2, d3, d4⟩ := f5.cells
  exact bodyPost_ret (v := .tuple #[fldV x y p q a m k, .int .i64 C]) (by simp [results, Tryz.results77, go_sem, *]) rfl ⟨⟨x, y, p, q, a, m, k, rfl, hO5⟩, hB5⟩
end Go.Proofs.YtimhpmccmafnpaaGreat



namespace Go.Proofs.YtimhpmccmafnpaaGreat
open Go.ChangeShapes Go.WideShapes Go.ChangeAt Go.RowKit
open Ieee.Format (fin finE htE allFin allHt all_true all_false mulF subF addF Ht Bd divF rootF floorF easeF mixF)
set_option linter.unusedVariables false
open Ieee.Format (const_0 const_1)

/-! ### rounding by chance, in plain Lean -/
def ditF (s v u : Nat) : Nat := if lss u (ter3 s v) = true then mulF (addF (ter2 s v) 1065353216) s else mulF (ter2 s v) s
theorem ditF_lt (s v u : Nat) : ditF s v u < 4294967296 := by unfold ditF; split <;> exact Ieee.Format.mulF_lt _ _
structure DitOk (s v : Nat) : Prop where
  a1 : fin Ieee.single (ter1 s v)
  a2 : fin Ieee.single (ter2 s v)
  a3 : fin Ieee.single (ter3 s v)
  a4 : fin Ieee.single (mulF (ter2 s v) s)
  a5 : fin Ieee.single (addF (ter2 s v) 1065353216)
  a6 : fin Ieee.single (mulF (addF (ter2 s v) 1065353216) s)
  l1 : ter1 s v < 4294967296
  s0 : fin Ieee.single s
  s1 : Ieee.single.V s ≠ 0
  v0 : fin Ieee.single v
theorem dit_ok {s v : Nat} (h : TerOk s 0) (hv : Bd 20 v) : DitOk s v := by
  obtain ⟨b1, b2, b3, b4, _, _, _, _, _, _, l1⟩ := ter_bd h hv
  have o := Ieee.Format.one_Bd 31
  have b5 := b2.add o (by omega)
  have b6 := b5.mul h.st (by omega)
  have p := Ieee.P2_pos (-10)
  have := h.st1
  exact ⟨b1.1, b2.1, b3.1, b4.1, b5.1, b6.1, l1, h.st.1, by grind, hv.1⟩

def dithE (s : Nat) : Int := if finE [s] ≠ 0 then finE [s] else stepC s
theorem stepC_zero {s : Nat} (hf : fin Ieee.single s) (h : stepC s = 0) : Ieee.P2 (-10) ≤ Ieee.single.V s ∧ Ieee.single.V s ≤ Ieee.P2 10 := by
  unfold stepC at h
  cases a1 : lss s 981467136 with
  | true => rw [a1, if_pos rfl] at h; omega
  | false =>
    rw [a1, if_neg (by decide)] at h
    cases a2 : gtr s 1149239296 with
    | true => rw [a2, if_pos rfl] at h; omega
    | false =>
      rw [lss_V hf const_m10.1, const_m10.2] at a1
      rw [gtr_V hf const_k10.1, const_k10.2] at a2
      have a1 := of_decide_eq_false a1
      have a2 := of_decide_eq_false a2
      exact ⟨by grind, by grind⟩
theorem dith_zero {s : Nat} (h : dithE s = 0) : TerOk s 0 := by
  unfold dithE at h
  by_cases hf : finE [s] = 0
  · rw [if_neg (by omega)] at h
    have f := finE_one hf
    obtain ⟨b1, b2⟩ := stepC_zero f h
    have p := Ieee.P2_pos (-10)
    have p2 := Ieee.P2_pos 10
    exact ⟨⟨f, by show -Ieee.P2 10 ≤ _; grind, by show _ ≤ Ieee.P2 10; exact b2⟩, b1, const_0.1, by rw [const_0.2.1]; grind, by rw [const_0.2.1]; decide⟩
  · rw [if_pos hf] at h; exact absurd h hf
/-- speckles -/
def spkF (p u : Nat) : Nat := if lss u p = true then 1065353216 else 0
theorem spkF_lt (p u : Nat) : spkF p u < 4294967296 := by unfold spkF; split <;> decide
theorem spkF_ht (p u : Nat) : Ht (spkF p u) := by
  have p := Ieee.P2_mono (show (0 : Int) ≤ 20 by omega)
  rw [Ieee.P2_zero] at p
  unfold spkF
  split
  · exact Ieee.Format.Ht.of ⟨by rw [const_1.2.1]; grind, by rw [const_1.2.1]; grind⟩
  · exact Ieee.Format.Ht.of ⟨by rw [const_0.2.1]; grind, by rw [const_0.2.1]; grind⟩
end Go.Proofs.YtimhpmccmafnpaaGreat



namespace Go.Proofs.YtimhpmccmafnpaaGreat
open Go.ChangeShapes Go.WideShapes Go.ChangeAt Go.RowKit
open Ieee.Format (fin finE htE allFin allHt all_true all_false mulF subF addF Ht Bd divF rootF floorF easeF mixF)
set_option linter.unusedVariables false

/-- the field's values, each given with its place to a function -/
def addL (φ : Int → Int → Nat → Nat) (X Y : Int) (Wn Hn : Nat) (l : List Nat) : List Nat := madeL (fun x y => φ x y (l.getD (cellNo X Y Wn x y).toNat 0)) X Y Wn (Hn * Wn)
theorem addL_small (φ : Int → Int → Nat → Nat) {X Y : Int} {Wn Hn : Nat} {l : List Nat} (hr : Right X Y Wn Hn l) : (addL φ X Y Wn Hn l).length ≤ 1099511627776 := by
  unfold addL
  rw [madeL_len]
  have := hr.small
  rw [hr.len] at this
  exact this

end Go.Proofs.YtimhpmccmafnpaaGreat


namespace Go.Proofs.YtimhpmccmafnpaaGreat
open Go.ChangeShapes Go.WideShapes Go.ChangeAt Go.RowKit
set_option linter.unusedVariables false

theorem xor_bounds (a b : Int) : 0 ≤ bits .xor .u32 a b ∧ bits .xor .u32 a b < 4294967296 := by
  show 0 ≤ IntKind.u32.wrap _ ∧ IntKind.u32.wrap _ < 4294967296
  simp only [IntKind.wrap, IntKind.bits, IntKind.signed]
  constructor <;> simp <;> omega

end Go.Proofs.YtimhpmccmafnpaaGreat


namespace Go.Proofs.YtimhpmccmafnpaaGreat
open Go.ChangeShapes Go.WideShapes Go.ChangeAt Go.RowKit
open Ieee.Format (fin unitF signedF mulF subF addF)
set_option linter.unusedVariables false
theorem hash_bounds (h x y n : Int) : 0 ≤ hashTo h x y n 3 ∧ hashTo h x y n 3 < 4294967296 := xor_bounds _ _
end Go.Proofs.YtimhpmccmafnpaaGreat





namespace Go.Proofs.YtimhpmccmafnpaaGreat
open Go.ChangeShapes Go.WideShapes Go.ChangeAt Go.RowKit
open Ieee.Format (fin finE htE allFin allHt all_true all_false mulF subF addF Ht Bd divF rootF floorF easeF mixF)
set_option linter.unusedVariables false
open Ieee.Format (const_0 const_1)

/-- the unit that a place draws -/
def hsF (seed x y n : Int) : Nat := Ieee.Format.unitF (hashTo seed x y n 3)
theorem unit_word (seed x y n : Int) (w : World) : Calls Tryz.prog 98 #[.int .u32 (hashTo seed x y n 3)] w fun e w' => e = .returned (.float .f32 (hsF seed x y n)) ∧ w = w' :=
  unit_any _ w (hash_bounds seed x y n).1 (hash_bounds seed x y n).2
theorem checkstep_all (s : Nat) (w : World) (hl : s < 4294967296) : Calls Tryz.prog 111 #[.float .f32 s] w fun e w' => e = .returned (.int .i64 (dithE s)) ∧ Below w.heap.size w w' := by
  unfold dithE
  by_cases h : finE [s] = 0
  · rw [if_neg (by omega)]
    exact checkstep_any s w hl (finE_one h)
  · rw [if_pos h]
    have KF := Lib.hid (fun W g h => finites_one W g s hl h)
    generalize finE [s] = a at *
    have hb' : (a != 0) = true := by rw [bne_iff_ne]; exact h
    clear hl h
    go_enter Tryz.func111, Tryz.ntmps111
    go_wp2_with fail
    refine (KF.out _ _ (by simp [go_sem])).mono ?_
    rintro e w2 ⟨rfl, rfl⟩
    go_wp2_with fail
    go_ret
    exact ⟨rfl, (by repeat (first | with_reducible exact Below.refl _ _ | with_reducible apply Below.drew | with_reducible refine below_drewN ?_ _ | (with_reducible refine Below.setCell ?_ ?_ _; rotate_left; focus (first | omega | (simp <;> omega))) | (with_reducible refine Below.alloc ?_ ?_ _; rotate_left; focus (first | omega | (simp <;> omega)))))⟩

theorem Below.drewN_self (w : World) (n : Nat) : Below w.heap.size w (w.drewN n) := (by repeat (first | with_reducible exact Below.refl _ _ | with_reducible apply Below.drew | with_reducible refine below_drewN ?_ _ | (with_reducible refine Below.setCell ?_ ?_ _; rotate_left; focus (first | omega | (simp <;> omega))) | (with_reducible refine Below.alloc ?_ ?_ _; rotate_left; focus (first | omega | (simp <;> omega)))))

set_option maxRecDepth 100000 in
set_option maxHeartbeats 1000000 in
theorem dithfn_any (seed : Int) (s : Nat) (x y : Int) (p q b o c pa pb k : Nat) (X Y W1 H1 : Int) (l : List Nat) (w : World) (hst : CntSt w p q b o c X Y W1 H1 l k) (hv : Bd 20 (l.getD k 0)) (hT : TerOk s 0)
    (ha : Blk w pa #[.float .f32 s] 46) (hb : Blk w pb #[.int .u32 seed] 45) (pap : pa ≠ p) (pbp : pb ≠ p) :
    Calls Tryz.prog 114 #[.int .i64 x, .int .i64 y, .pointer (some ⟨p, 0, none⟩), .pointer (some ⟨q, 0, none⟩), .pointer (some ⟨pa, 0, none⟩), .pointer (some ⟨pb, 0, none⟩)] w fun e w' => e = .returned (.float .f32 (ditF s (l.getD k 0) (hsF seed x y 8))) ∧ But w.heap.size (fun j => j = p) w w' ∧ CntAt w' p (k : Int) := by
  generalize hv0 : l.getD k 0 = v at *
  have HV0 := Lib.hid hv0
  clear hv0
  have hd := dit_ok hT hv
  have KF := Lib.hid (fun w => floor_any (ter1 s v) hd.a1 hd.l1 w)
  change Hid (∀ w, Calls Tryz.prog 45 #[.float .f32 (ter1 s v)] w fun e w' => e = .returned (.float .f32 (ter2 s v)) ∧ w = w') at KF
  have KH := Lib.hid (fun w => hash1 seed x y 8 w)
  have KU := Lib.hid (fun w => unit_word seed x y 8 w)
  have k1 := fun w' => run_float_arith (P := Tryz.prog) w' .quo 46 .f32 v s (ter1 s v) (Ieee.Format.bits_div hd.v0 hd.s0 hd.s1)
  have k2 := fun w' => run_float_arith (P := Tryz.prog) w' .sub 46 .f32 (ter1 s v) (ter2 s v) (ter3 s v) (Ieee.Format.bits_sub hd.a1 hd.a2)
  have k3 := fun w' => run_float_arith (P := Tryz.prog) w' .add 46 .f32 (ter2 s v) 1065353216 (addF (ter2 s v) 1065353216) (Ieee.Format.bits_add hd.a2 const_1.1)
  have k4 := fun w' => run_float_arith (P := Tryz.prog) w' .mul 46 .f32 (addF (ter2 s v) 1065353216) s (mulF (addF (ter2 s v) 1065353216) s) (Ieee.Format.bits_mul hd.a5 hd.s0)
  have k5 := fun w' => run_float_arith (P := Tryz.prog) w' .mul 46 .f32 (ter2 s v) s (mulF (ter2 s v) s) (Ieee.Format.bits_mul hd.a2 hd.s0)
  clear hv hT hd
  unfold ditF
  cases hc : lss (hsF seed x y 8) (ter3 s v) with
  | true =>
    rw [if_pos rfl]
    change (FloatKind.f32.format.order (hsF seed x y 8) (ter3 s v) == some .lt) = true at hc
    generalize hashTo seed x y 8 3 = hh at *
    generalize mulF (addF (ter2 s v) 1065353216) s = z6 at *
    generalize addF (ter2 s v) 1065353216 = z5 at *
    generalize mulF (ter2 s v) s = z4 at *
    generalize ter3 s v = z3 at *
    generalize ter2 s v = z2 at *
    generalize ter1 s v = z1 at *
    generalize hsF seed x y 8 = u at *
    have h := hst
    clear hst
    have hkc := h.cnt
    obtain ⟨cc, hcc⟩ : ∃ cc : Int, cc = (k : Int) - 1 := ⟨_, rfl⟩
    rw [← hcc] at hkc
    have HCC : Hid (cc + 1 = (k : Int)) := by unfold Hid; omega
    have hk1 : -1 ≤ cc := by omega
    have hk2 : cc ≤ 1099511627776 := by have := h.row.1.1; have := h.kl; omega
    have hk4 : (k : Int) < l.length := by have := h.kl; omega
    have hk5 : l.length ≤ 1099511627776 := h.row.1.1
    clear hcc
    have c0 : w.cell? ⟨p, 0, none⟩ = some (.int .i64 cc) := hkc.cell 0
    have cf : w.frozen? ⟨p, 0, none⟩ = false := hkc.frozen 0
    have hp1 := hkc.lt
    go_enter Tryz.func114, Tryz.ntmps114
    go_wp2_with fail
    rw [HCC.out]
    have HB0 := Lib.hid (But.setq (B := w.heap.size) (q := fun j => j = p) (w := w) (p := ⟨p, 0, none⟩) (.int .i64 k) rfl)
    have HC2 := Lib.hid (CntAt.setc hkc (k : Int))
    have HF2 := Lib.hid (h.fo.but HB0.out h.fo.lt h.qp)
    have HR2 := Lib.hid (h.row.but HB0.out h.bl h.bp)
    have d4 := HF2.out.cells.2.2.2.2
    have dr := SRow.at_ HR2.out h.kl
    rw [HV0.out] at dr
    have da := blk_cell1 ha HB0.out pap
    have db := blk_cell1 hb HB0.out pbp
    have dp : (w.setCell ⟨p, 0, none⟩ (.int .i64 (k : Int))).cell? ⟨p, 0, none⟩ = some (.int .i64 (k : Int)) := HC2.out.cell 0
    have hz : w.heap.size ≤ (w.setCell ⟨p, 0, none⟩ (.int .i64 (k : Int))).heap.size := HB0.out.size
    have l1 := h.fo.lt
    have l2 := h.bl
    have l3 := ha.lt
    have l4 := hb.lt
    have hpl : Hid (p < (w.setCell ⟨p, 0, none⟩ (.int .i64 (k : Int))).heap.size) := HC2.out.lt
    have hpl2 := hpl.out
    clear h ha hb pap pbp c0 cf hkc hp1
    generalize w.setCell ⟨p, 0, none⟩ (.int .i64 (k : Int)) = W2 at *
    have hk6 : (0 : Int) ≤ k := by omega
    go_quiet (fail)
    have HBW := Lib.hid (Below.drewN_self W2 nq)
    have da2 : (W2.drewN nq).cell? ⟨pa, 0, none⟩ = some (.float .f32 s) := da
    have db2 : (W2.drewN nq).cell? ⟨pb, 0, none⟩ = some (.int .u32 seed) := db
    have l3 : pa < (W2.drewN nq).heap.size := by have := HBW.out.size; omega
    have l4 : pb < (W2.drewN nq).heap.size := by have := HBW.out.size; omega
    clear d4 dr da db dp
    generalize W2.drewN nq = W3 at *
    go_wp2_with fail
    refine (KF.out _).mono ?_
    rintro en wz ⟨rfl, rfl⟩
    go_wp2_with fail
    refine (KH.out _).mono ?_
    rintro en wz ⟨rfl, rfl⟩
    go_wp2_with fail
    refine (KU.out _).mono ?_
    rintro en wz ⟨rfl, rfl⟩
    go_wp2_with fail
    go_ret
    exact ⟨rfl, HB0.out.trans ((But.of HBW.out).mono hz), HC2.out.below HBW.out hpl.out⟩
  | false =>
    rw [if_neg (by decide)]
    change (FloatKind.f32.format.order (hsF seed x y 8) (ter3 s v) == some .lt) = false at hc
    generalize hashTo seed x y 8 3 = hh at *
    generalize mulF (addF (ter2 s v) 1065353216) s = z6 at *
    generalize addF (ter2 s v) 1065353216 = z5 at *
    generalize mulF (ter2 s v) s = z4 at *
    generalize ter3 s v = z3 at *
    generalize ter2 s v = z2 at *
    generalize ter1 s v = z1 at *
    generalize hsF seed x y 8 = u at *
    have h := hst
    clear hst
    have hkc := h.cnt
    obtain ⟨cc, hcc⟩ : ∃ cc : Int, cc = (k : Int) - 1 := ⟨_, rfl⟩
    rw [← hcc] at hkc
    have HCC : Hid (cc + 1 = (k : Int)) := by unfold Hid; omega
    have hk1 : -1 ≤ cc := by omega
    have hk2 : cc ≤ 1099511627776 := by have := h.row.1.1; have := h.kl; omega
    have hk4 : (k : Int) < l.length := by have := h.kl; omega
    have hk5 : l.length ≤ 1099511627776 := h.row.1.1
    clear hcc
    have c0 : w.cell? ⟨p, 0, none⟩ = some (.int .i64 cc) := hkc.cell 0
    have cf : w.frozen? ⟨p, 0, none⟩ = false := hkc.frozen 0
    have hp1 := hkc.lt
    go_enter Tryz.func114, Tryz.ntmps114
    go_wp2_with fail
    rw [HCC.out]
    have HB0 := Lib.hid (But.setq (B := w.heap.size) (q := fun j => j = p) (w := w) (p := ⟨p, 0, none⟩) (.int .i64 k) rfl)
    have HC2 := Lib.hid (CntAt.setc hkc (k : Int))
    have HF2 := Lib.hid (h.fo.but HB0.out h.fo.lt h.qp)
    have HR2 := Lib.hid (h.row.but HB0.out h.bl h.bp)
    have d4 := HF2.out.cells.2.2.2.2
    have dr := SRow.at_ HR2.out h.kl
    rw [HV0.out] at dr
    have da := blk_cell1 ha HB0.out pap
    have db := blk_cell1 hb HB0.out pbp
    have dp : (w.setCell ⟨p, 0, none⟩ (.int .i64 (k : Int))).cell? ⟨p, 0, none⟩ = some (.int .i64 (k : Int)) := HC2.out.cell 0
    have hz : w.heap.size ≤ (w.setCell ⟨p, 0, none⟩ (.int .i64 (k : Int))).heap.size := HB0.out.size
    have l1 := h.fo.lt
    have l2 := h.bl
    have l3 := ha.lt
    have l4 := hb.lt
    have hpl : Hid (p < (w.setCell ⟨p, 0, none⟩ (.int .i64 (k : Int))).heap.size) := HC2.out.lt
    have hpl2 := hpl.out
    clear h ha hb pap pbp c0 cf hkc hp1
    generalize w.setCell ⟨p, 0, none⟩ (.int .i64 (k : Int)) = W2 at *
    have hk6 : (0 : Int) ≤ k := by omega
    go_quiet (fail)
    have HBW := Lib.hid (Below.drewN_self W2 nq)
    have da2 : (W2.drewN nq).cell? ⟨pa, 0, none⟩ = some (.float .f32 s) := da
    have db2 : (W2.drewN nq).cell? ⟨pb, 0, none⟩ = some (.int .u32 seed) := db
    have l3 : pa < (W2.drewN nq).heap.size := by have := HBW.out.size; omega
    have l4 : pb < (W2.drewN nq).heap.size := by have := HBW.out.size; omega
    clear d4 dr da db dp
    generalize W2.drewN nq = W3 at *
    go_wp2_with fail
    refine (KF.out _).mono ?_
    rintro en wz ⟨rfl, rfl⟩
    go_wp2_with fail
    refine (KH.out _).mono ?_
    rintro en wz ⟨rfl, rfl⟩
    go_wp2_with fail
    refine (KU.out _).mono ?_
    rintro en wz ⟨rfl, rfl⟩
    go_wp2_with fail
    go_ret
    exact ⟨rfl, HB0.out.trans ((But.of HBW.out).mono hz), HC2.out.below HBW.out hpl.out⟩

end Go.Proofs.YtimhpmccmafnpaaGreat



namespace Go.Proofs.YtimhpmccmafnpaaGreat
open Go.ChangeShapes Go.WideShapes Go.ChangeAt Go.RowKit
open Ieee.Format (fin finE htE allFin allHt all_true all_false mulF subF addF Ht Bd divF rootF floorF easeF mixF)
set_option linter.unusedVariables false
open Ieee.Format (conv_exact const_1 const_0)

/-! ### a brush's weight, in plain Lean -/
theorem Share.bd {x : Nat} (h : Share x) : Bd 0 x := by
  obtain ⟨a, b, c⟩ := h
  have p := Ieee.P2_nat 0
  have e : Ieee.P2 ((0 : Nat) : Int) = 1 := by rw [Ieee.P2_nat]; rfl
  exact ⟨a, by rw [e]; grind, by rw [e]; exact c⟩
end Go.Proofs.YtimhpmccmafnpaaGreat
