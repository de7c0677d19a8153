import Derived.Test.YtimhpmccmafnpaaGreatG09
import Derived.Deep.RegionHeld3
import Derived.WalkLawsBesides


namespace Go.Proofs.YtimhpmccmafnpaaGreat
open Go.ChangeShapes Go.WideShapes Go.ChangeAt Go.RowKit
open Ieee.Format (fin finE htE allFin allHt all_true all_false mulF subF addF Ht Bd divF rootF floorF easeF mixF)
set_option linter.unusedVariables false
open Ieee.Format (const_0 const_1)

theorem CntAt.setc {w : World} {p : Nat} {c : Int} (h : CntAt w p c) (d : Int) : CntAt (w.setCell ⟨p, 0, none⟩ (.int .i64 d)) p d := by
  exact one_setCell h
/-- what a counting closure sees -/
structure CntSt (W : World) (p q b o c : Nat) (X Y W1 H1 : Int) (l : List Nat) (k : Nat) : Prop where
  cnt : CntAt W p ((k : Int) - 1)
  fo : Fld W q X Y W1 H1 (.slice (some ⟨b, o, none⟩) l.length c)
  row : SRow W (some ⟨b, o, none⟩) l
  qp : q ≠ p
  bp : b ≠ p
  kl : k < l.length
  bl : b < W.heap.size

theorem blk_cell1 {w w' : World} {p k : Nat} {v : Value} {t : TypeId} (h : Blk w k #[v] t) (hb : But w.heap.size (fun j => j = p) w w') (hp : k ≠ p) : w'.cell? ⟨k, 0, none⟩ = some v := (h.but hb h.lt hp).cell 0

set_option maxRecDepth 100000 in
set_option maxHeartbeats 1000000 in
theorem selectfn_any (lo hi soft : Nat) (x y : Int) (p q b o c pa pb pc k : Nat) (X Y W1 H1 : Int) (l : List Nat) (w : World) (h : CntSt w p q b o c X Y W1 H1 l k) (hv : Ht (l.getD k 0)) (hlo : Ht lo) (hhi : Ht hi) (hs : Ht soft)
    (ha : Blk w pa #[.float .f32 lo] 46) (hb : Blk w pb #[.float .f32 hi] 46) (hc : Blk w pc #[.float .f32 soft] 46) (pap : pa ≠ p) (pbp : pb ≠ p) (pcp : pc ≠ p) :
    Calls Tryz.prog 109 #[.int .i64 x, .int .i64 y, .pointer (some ⟨p, 0, none⟩), .pointer (some ⟨q, 0, none⟩), .pointer (some ⟨pa, 0, none⟩), .pointer (some ⟨pb, 0, none⟩), .pointer (some ⟨pc, 0, none⟩)] w fun e w' => e = .returned (.float .f32 (selF lo hi soft (l.getD k 0))) ∧ But w.heap.size (fun j => j = p) w w' ∧ CntAt w' p (k : Int) := by
  have KS := Lib.hid (fun w => select_any lo hi soft (l.getD k 0) w hlo hhi hs hv)
  clear hlo hhi hs hv
  generalize hv0 : l.getD k 0 = v at *
  have HV0 := Lib.hid hv0
  clear hv0
  generalize selF lo hi soft v = z at *
  have hkc := h.cnt
  obtain ⟨cc, hcc⟩ : ∃ cc : Int, cc = (k : Int) - 1 := ⟨_, rfl⟩
  rw [← hcc] at hkc
  have HCC : Hid (cc + 1 = (k : Int)) := by unfold Hid; omega
  have hk1 : -1 ≤ cc := by omega
  have hk2 : cc ≤ 1099511627776 := by have := h.row.1.1; have := h.kl; omega
  have hk4 : (k : Int) < l.length := by have := h.kl; omega
  have hk5 : l.length ≤ 1099511627776 := h.row.1.1
  clear hcc
  have c0 : w.cell? ⟨p, 0, none⟩ = some (.int .i64 cc) := hkc.cell 0
  have cf : w.frozen? ⟨p, 0, none⟩ = false := hkc.frozen 0
  have hp1 := hkc.lt
  go_enter Tryz.func109, Tryz.ntmps109
  go_wp2_with fail
  rw [HCC.out]
  have HB0 := Lib.hid (But.setq (B := w.heap.size) (q := fun j => j = p) (w := w) (p := ⟨p, 0, none⟩) (.int .i64 k) rfl)
  have HC2 := Lib.hid (CntAt.setc hkc (k : Int))
  have HF2 := Lib.hid (h.fo.but HB0.out h.fo.lt h.qp)
  have HR2 := Lib.hid (h.row.but HB0.out h.bl h.bp)
  have d4 := HF2.out.cells.2.2.2.2
  have dr := SRow.at_ HR2.out h.kl
  rw [HV0.out] at dr
  have da := blk_cell1 ha HB0.out pap
  have db := blk_cell1 hb HB0.out pbp
  have dc := blk_cell1 hc HB0.out pcp
  have dp : (w.setCell ⟨p, 0, none⟩ (.int .i64 (k : Int))).cell? ⟨p, 0, none⟩ = some (.int .i64 (k : Int)) := HC2.out.cell 0
  have hz : w.heap.size ≤ (w.setCell ⟨p, 0, none⟩ (.int .i64 (k : Int))).heap.size := HB0.out.size
  have l1 := h.fo.lt
  have l2 := h.bl
  have l3 := ha.lt
  have l4 := hb.lt
  have l5 := hc.lt
  have hpl : Hid (p < (w.setCell ⟨p, 0, none⟩ (.int .i64 (k : Int))).heap.size) := HC2.out.lt
  clear h ha hb hc pap pbp pcp c0 cf hkc hp1
  generalize w.setCell ⟨p, 0, none⟩ (.int .i64 (k : Int)) = W2 at *
  have hk6 : (0 : Int) ≤ k := by omega
  go_region_held3 (fun w' => w'.cell? ⟨q, 4, none⟩ = some (.slice (some ⟨b, o, none⟩) l.length c) ∧ w'.cell? ⟨p, 0, none⟩ = some (.int .i64 (k : Int)) ∧ w'.cell? ⟨b, o + k, none⟩ = some (.float .f32 v) ∧ w'.cell? ⟨pa, 0, none⟩ = some (.float .f32 lo) ∧ w'.cell? ⟨pb, 0, none⟩ = some (.float .f32 hi) ∧ w'.cell? ⟨pc, 0, none⟩ = some (.float .f32 soft) ∧ Below W2.heap.size W2 w')
    (first
      | exact ⟨d4, dp, dr, da, db, dc, (Below.refl _ _).drew⟩
      | (go_split_ands
         have hs := hb.size
         have hs2 := (show Below W2.heap.size W2 _ by assumption).size
         have hpl' := hpl.out
         refine ⟨?_, ?_, ?_, ?_, ?_, ?_, ?_⟩
         all_goals first
           | (rw [hb.cell (by simp; omega)]; assumption)
           | exact Below.trans (by assumption) (hb.mono (by omega)))
      | (go_split_ands; refine ⟨?_, ?_, ?_, ?_, ?_, ?_, ?_⟩ <;> assumption))
    (first | (go_at_call 110; go_split_ands; refine (KS.out _).mono ?_; rintro e2 w2 ⟨rfl, hb⟩))
  rename_i w3 hHeld
  obtain ⟨_, _, _, _, _, _, hB⟩ := hHeld
  go_wp2_with fail
  go_ret
  exact ⟨rfl, HB0.out.trans ((But.of hB).mono hz), HC2.out.below hB hpl.out⟩

/-! ### terraces -/
theorem terraced_any (step sharp v : Nat) (w : World) (h : TerOk step sharp) (hv : Bd 20 v) :
    Calls Tryz.prog 113 #[.float .f32 v, .float .f32 step, .float .f32 sharp] w fun e w' => e = .returned (.float .f32 (terF step sharp v)) ∧ w = w' := by
  obtain ⟨a1, a2, a3, a4, a5, a6, a7, a8, a9, a10, a11⟩ := ter_bd h hv
  have p := Ieee.P2_pos (-10)
  have k1 := fun w' => run_float_arith (P := Tryz.prog) w' .quo 46 .f32 v step (ter1 step v) (Ieee.Format.bits_div hv.1 h.st.1 (by have := h.st1; grind))
  have KF := Lib.hid (fun w => floor_any (ter1 step v) a1.1 a11 w)
  have k2 := fun w' => run_float_arith (P := Tryz.prog) w' .sub 46 .f32 (ter1 step v) (ter2 step v) (ter3 step v) (Ieee.Format.bits_sub a1.1 a2.1)
  have k3 := fun w' => run_float_arith (P := Tryz.prog) w' .mul 46 .f32 (ter2 step v) step (mulF (ter2 step v) step) (Ieee.Format.bits_mul a2.1 h.st.1)
  have k4 := fun w' => run_float_arith (P := Tryz.prog) w' .sub 46 .f32 (ter3 step v) sharp (subF (ter3 step v) sharp) (Ieee.Format.bits_sub a3.1 h.sh)
  have k5 := fun w' => run_float_arith (P := Tryz.prog) w' .sub 46 .f32 1065353216 sharp (subF 1065353216 sharp) (Ieee.Format.bits_sub const_1.1 h.sh)
  have k6 := fun w' => run_float_arith (P := Tryz.prog) w' .quo 46 .f32 (subF (ter3 step v) sharp) (subF 1065353216 sharp) (ter4 step sharp v) (Ieee.Format.bits_div a5.1 a6 a7)
  have k7 := fun w' => run_float_arith (P := Tryz.prog) w' .add 46 .f32 (ter2 step v) (ter4 step sharp v) (addF (ter2 step v) (ter4 step sharp v)) (Ieee.Format.bits_add a2.1 a8.1)
  have k8 := fun w' => run_float_arith (P := Tryz.prog) w' .mul 46 .f32 (addF (ter2 step v) (ter4 step sharp v)) step (mulF (addF (ter2 step v) (ter4 step sharp v)) step) (Ieee.Format.bits_mul a9.1 h.st.1)
  change Hid (∀ w, Calls Tryz.prog 45 #[.float .f32 (ter1 step v)] w fun e w' => e = .returned (.float .f32 (ter2 step v)) ∧ w = w') at KF
  clear a1 a2 a3 a4 a5 a6 a7 a8 a9 a10 a11 h hv p
  unfold terF
  generalize mulF (addF (ter2 step v) (ter4 step sharp v)) step = z8 at *
  generalize addF (ter2 step v) (ter4 step sharp v) = z7 at *
  generalize ter4 step sharp v = z6 at *
  generalize subF 1065353216 sharp = z5 at *
  generalize subF (ter3 step v) sharp = z4 at *
  generalize mulF (ter2 step v) step = z3 at *
  generalize ter3 step v = z2 at *
  generalize ter2 step v = z1 at *
  generalize ter1 step v = z0 at *
  cases hd : lss z2 sharp with
  | true =>
    rw [if_pos rfl]
    change (FloatKind.f32.format.order z2 sharp == some .lt) = true at hd
    go_enter Tryz.func113, Tryz.ntmps113
    go_wp2_with fail
    refine (KF.out _).mono ?_
    rintro en wz ⟨rfl, rfl⟩
    go_wp2_with fail
    go_ret
    exact ⟨rfl, rfl⟩
  | false =>
    rw [if_neg (by decide)]
    change (FloatKind.f32.format.order z2 sharp == some .lt) = false at hd
    go_enter Tryz.func113, Tryz.ntmps113
    go_wp2_with fail
    refine (KF.out _).mono ?_
    rintro en wz ⟨rfl, rfl⟩
    go_wp2_with fail
    go_ret
    exact ⟨rfl, rfl⟩
end Go.Proofs.YtimhpmccmafnpaaGreat


namespace Go.Proofs.YtimhpmccmafnpaaGreat
open Go.ChangeShapes Go.WideShapes Go.ChangeAt Go.RowKit
open Ieee.Format (fin finE htE allFin allHt all_true all_false mulF subF addF Ht Bd divF rootF floorF easeF mixF)
set_option linter.unusedVariables false
open Ieee.Format (negF gradF hypF slopeF lenF curve1 curveF nxF nyF nzF grad_bd hyp_bd slope_bd normal_bd curve_bd const_2nd const_quarter const_1)

abbrev nbV (n s e w v : Nat) : Value := .agg #[.float .f32 n, .float .f32 s, .float .f32 e, .float .f32 w, .float .f32 v]

theorem gradient_any (n s e w v : Nat) (W : World) (hn : Bd 20 n) (hs : Bd 20 s) (he : Bd 20 e) (hw : Bd 20 w) :
    Calls Tryz.prog 165 #[nbV n s e w v] W fun en w' => en = .returned (.tuple #[.float .f32 (gradF e w), .float .f32 (gradF s n)]) ∧ Below W.heap.size W w' := by
  obtain ⟨a1, a2⟩ := grad_bd he hw (by omega)
  obtain ⟨b1, b2⟩ := grad_bd hs hn (by omega)
  have k1 := fun w' => run_float_arith (P := Tryz.prog) w' .sub 46 .f32 e w (subF e w) (Ieee.Format.bits_sub he.1 hw.1)
  have k2 := fun w' => run_float_arith (P := Tryz.prog) w' .mul 46 .f32 (subF e w) 1056964608 (gradF e w) (Ieee.Format.bits_mul a1.1 const_2nd.1)
  have k3 := fun w' => run_float_arith (P := Tryz.prog) w' .sub 46 .f32 s n (subF s n) (Ieee.Format.bits_sub hs.1 hn.1)
  have k4 := fun w' => run_float_arith (P := Tryz.prog) w' .mul 46 .f32 (subF s n) 1056964608 (gradF s n) (Ieee.Format.bits_mul b1.1 const_2nd.1)
  clear a1 a2 b1 b2 hn hs he hw
  generalize gradF e w = z2 at *
  generalize subF e w = z1 at *
  generalize gradF s n = z4 at *
  generalize subF s n = z3 at *
  go_enter Tryz.func165, Tryz.ntmps165
  go_wp2_with fail
  go_quiet (fail)
  go_wp2
  go_ret2
  exact ⟨rfl, (by repeat (first | with_reducible exact Below.refl _ _ | with_reducible apply Below.drew | with_reducible refine below_drewN ?_ _ | (with_reducible refine Below.setCell ?_ ?_ _; rotate_left; focus (first | omega | (simp <;> omega))) | (with_reducible refine Below.alloc ?_ ?_ _; rotate_left; focus (first | omega | (simp <;> omega)))))⟩

theorem normal_any (n s e w v : Nat) (W : World) (hn : Bd 20 n) (hs : Bd 20 s) (he : Bd 20 e) (hw : Bd 20 w) :
    Calls Tryz.prog 168 #[nbV n s e w v] W fun en w' => en = .returned (.tuple #[.float .f32 (nxF n s e w), .float .f32 (nyF n s e w), .float .f32 (nzF n s e w)]) ∧ Below W.heap.size W w' := by
  have KG := Lib.hid (fun W => gradient_any n s e w v W hn hs he hw)
  obtain ⟨a1, a2⟩ := grad_bd he hw (by omega)
  obtain ⟨b1, b2⟩ := grad_bd hs hn (by omega)
  obtain ⟨c1, c2, c3, c4⟩ := hyp_bd a2 b2 (by omega)
  obtain ⟨d1, d2, d3, d4, d5, d6, d7⟩ := slope_bd hn hs he hw
  obtain ⟨e1, e2, e3, e4, e5⟩ := normal_bd hn hs he hw
  have k1 := fun w' => run_float_arith (P := Tryz.prog) w' .mul 46 .f32 (gradF e w) (gradF e w) (mulF (gradF e w) (gradF e w)) (Ieee.Format.bits_mul a2.1 a2.1)
  have k2 := fun w' => run_float_arith (P := Tryz.prog) w' .mul 46 .f32 (gradF s n) (gradF s n) (mulF (gradF s n) (gradF s n)) (Ieee.Format.bits_mul b2.1 b2.1)
  have k3 := fun w' => run_float_arith (P := Tryz.prog) w' .add 46 .f32 (mulF (gradF e w) (gradF e w)) (mulF (gradF s n) (gradF s n)) (hypF (gradF e w) (gradF s n)) (Ieee.Format.bits_add c1.1 c2.1)
  have k4 := fun w' => run_float_arith (P := Tryz.prog) w' .add 46 .f32 (hypF (gradF e w) (gradF s n)) 1065353216 (addF (hypF (gradF e w) (gradF s n)) 1065353216) (Ieee.Format.bits_add c3.1 const_1.1)
  have KR := Lib.hid (fun w' => root_any (addF (hypF (gradF e w) (gradF s n)) 1065353216) d4.1 (by have := d5; grind) w')
  change Hid (∀ w', Calls Tryz.prog 146 #[.float .f32 (addF (hypF (gradF e w) (gradF s n)) 1065353216)] w' fun en w2 => en = .returned (.float .f32 (lenF n s e w)) ∧ w' = w2) at KR
  have n1 := fun w' => run_neg Tryz.prog (gradF e w) w'
  have n2 := fun w' => run_neg Tryz.prog (gradF s n) w'
  have k5 := fun w' => run_float_arith (P := Tryz.prog) w' .quo 46 .f32 (negF (gradF e w)) (lenF n s e w) (nxF n s e w) (Ieee.Format.bits_div e1.1 d6.1 (one_ne d7))
  have k6 := fun w' => run_float_arith (P := Tryz.prog) w' .quo 46 .f32 (negF (gradF s n)) (lenF n s e w) (nyF n s e w) (Ieee.Format.bits_div e2.1 d6.1 (one_ne d7))
  have k7 := fun w' => run_float_arith (P := Tryz.prog) w' .quo 46 .f32 1065353216 (lenF n s e w) (nzF n s e w) (Ieee.Format.bits_div const_1.1 d6.1 (one_ne d7))
  clear a1 a2 b1 b2 c1 c2 c3 c4 d1 d2 d3 d4 d5 d6 d7 e1 e2 e3 e4 e5 hn hs he hw
  generalize nxF n s e w = y1 at *
  generalize nyF n s e w = y2 at *
  generalize nzF n s e w = y3 at *
  generalize lenF n s e w = m at *
  generalize gradF e w = g1 at *
  generalize gradF s n = g2 at *
  generalize addF (hypF g1 g2) 1065353216 = z4 at *
  generalize hypF g1 g2 = z3 at *
  generalize mulF g1 g1 = z1 at *
  generalize mulF g2 g2 = z2 at *
  generalize negF g1 = n1 at *
  generalize negF g2 = n2 at *
  have B0 : Below W.heap.size W (W.alloc (.cells #[.float .f32 n, .float .f32 s, .float .f32 e, .float .f32 w, .float .f32 v] 157)) := (by repeat (first | with_reducible exact Below.refl _ _ | with_reducible apply Below.drew | with_reducible refine below_drewN ?_ _ | (with_reducible refine Below.setCell ?_ ?_ _; rotate_left; focus (first | omega | (simp <;> omega))) | (with_reducible refine Below.alloc ?_ ?_ _; rotate_left; focus (first | omega | (simp <;> omega)))))
  have HB0 := Lib.hid B0
  clear B0
  go_enter Tryz.func168, Tryz.ntmps168
  go_wp2_with fail
  refine (KG.out _).mono ?_
  rintro en w1 ⟨rfl, b1⟩
  have HB1 := Lib.hid (HB0.out.trans (b1.mono HB0.out.size))
  clear b1
  go_wp2_with fail
  refine (KR.out _).mono ?_
  rintro en w2 ⟨rfl, rfl⟩
  go_wp2_with fail
  go_ret3
  exact ⟨rfl, HB1.out⟩

/-- the number of a cell that is not at the edge -/
structure InnerAt (X Y : Int) (Wn Hn : Nat) (x y : Int) (k : Nat) : Prop where
  x1 : X + 1 ≤ x
  x2 : x < X + Wn - 1
  y1 : Y + 1 ≤ y
  y2 : y < Y + Hn - 1
  k : cellNo X Y Wn x y = (k : Int)
theorem InnerAt.of {X Y : Int} {Wn Hn : Nat} {x y : Int} (h1 : X + 1 ≤ x) (h2 : x < X + Wn - 1) (h3 : Y + 1 ≤ y) (h4 : y < Y + Hn - 1) : InnerAt X Y Wn Hn x y (cellNo X Y Wn x y).toNat := by
  refine ⟨h1, h2, h3, h4, ?_⟩
  have e1 := Int.mul_le_mul_of_nonneg_right (show 1 ≤ y - Y by omega) (show (0 : Int) ≤ Wn by omega)
  unfold cellNo
  omega
theorem InnerAt.lo {X Y : Int} {Wn Hn : Nat} {x y : Int} {k : Nat} (h : InnerAt X Y Wn Hn x y k) : Wn ≤ k := by
  have h1 := h.y1
  have h2 := h.x1
  have e1 := Int.mul_le_mul_of_nonneg_right (show 1 ≤ y - Y by omega) (show (0 : Int) ≤ Wn by omega)
  have := h.k
  unfold cellNo at this
  omega
theorem InnerAt.hi {X Y : Int} {Wn Hn : Nat} {x y : Int} {k : Nat} (h : InnerAt X Y Wn Hn x y k) (hw : 1 ≤ Wn) : k + Wn < Hn * Wn := by
  have h1 := h.y2
  have h2 := h.x2
  have h3 := h.y1
  have e1 := Int.mul_le_mul_of_nonneg_right (show y - Y + 2 ≤ Hn by omega) (show (0 : Int) ≤ Wn by omega)
  have := h.k
  unfold cellNo at this
  have e2 : ((Hn * Wn : Nat) : Int) = (Hn : Int) * Wn := Int.natCast_mul _ _
  rw [Int.add_mul] at e1
  omega
theorem Right.bd {X Y : Int} {Wn Hn : Nat} {l : List Nat} (h : Right X Y Wn Hn l) (i : Nat) : Bd 20 (l.getD i 0) := Ieee.Format.Ht.bd (h.getD i)

theorem around_at (X Y : Int) (Wn Hn : Nat) (x y : Int) (b o c k : Nat) (l : List Nat) (w : World) (hl : SRow w (some ⟨b, o, none⟩) l) (hr : Right X Y Wn Hn l) (h : InnerAt X Y Wn Hn x y k) :
    Calls Tryz.prog 164 #[fldV X Y Wn Hn (some ⟨b, o, none⟩) l.length c, .int .i64 x, .int .i64 y] w fun e w' => e = .returned (nbV (l.getD (k - Wn) 0) (l.getD (k + Wn) 0) (l.getD (k + 1) 0) (l.getD (k - 1) 0) (l.getD k 0)) ∧ Below w.heap.size w w' := by
  have g1 := hr.w2; have g2 := hr.h2; have g3 := hr.x1; have g4 := hr.x2; have g5 := hr.y1; have g6 := hr.y2; have g7 := hr.w1
  have h1 := h.x1; have h2 := h.x2; have h3 := h.y1; have h4 := h.y2
  exact around_any X Y Wn Hn x y b o c k l w hl (by omega) (by omega) (by omega) (by omega) (by omega) (by omega) (by omega) (by omega) (by omega) (by omega) h.k h.lo (by rw [hr.len]; exact h.hi g7)
def shadeF (a b c m n s e w v : Nat) : Nat := if gtr (Ieee.Format.shade2 a b c m n s e w) 0 = true then Ieee.Format.shade2 a b c m n s e w else 0
/-- what of a light's direction is right -/
structure LightOk (A B C M : Nat) : Prop where
  a : Bd 10 A
  b : Bd 10 B
  c : Bd 10 C
  m : fin Ieee.single M
  m1 : 1 ≤ Ieee.single.V M

set_option maxRecDepth 100000 in
/-- the program's cells: the light -/
theorem shadefn_any (A B C M : Nat) (X Y : Int) (Wn Hn : Nat) (x y : Int) (b o c k q pa pb pc pm : Nat) (l : List Nat) (w : World) (hl : SRow w (some ⟨b, o, none⟩) l) (hr : Right X Y Wn Hn l) (h : InnerAt X Y Wn Hn x y k) (hL : LightOk A B C M) (hq : Fld w q X Y Wn Hn (.slice (some ⟨b, o, none⟩) l.length c))
    (ha : Blk w pa #[.float .f32 A] 46) (hb : Blk w pb #[.float .f32 B] 46) (hc : Blk w pc #[.float .f32 C] 46) (hm : Blk w pm #[.float .f32 M] 46) :
    Calls Tryz.prog 167 #[.int .i64 x, .int .i64 y, .pointer (some ⟨q, 0, none⟩), .pointer (some ⟨pa, 0, none⟩), .pointer (some ⟨pb, 0, none⟩), .pointer (some ⟨pc, 0, none⟩), .pointer (some ⟨pm, 0, none⟩)] w fun e w' => e = .returned (.float .f32 (nbr (shadeF A B C M) l Wn k)) ∧ Below w.heap.size w w' := by
  have KA := Lib.hid (fun w' hl => around_at X Y Wn Hn x y b o c k l w' hl hr h)
  have HL := Lib.hid hl
  obtain ⟨c0, c1, c2, c3, c4⟩ := hq.cells
  have hn := hr.bd (k - Wn)
  have hs := hr.bd (k + Wn)
  have he := hr.bd (k + 1)
  have hw := hr.bd (k - 1)
  have HE : Hid (nbr (shadeF A B C M) l Wn k = shadeF A B C M (l.getD (k - Wn) 0) (l.getD (k + Wn) 0) (l.getD (k + 1) 0) (l.getD (k - 1) 0) (l.getD k 0)) := rfl
  have HA := Lib.hid ha
  have HB := Lib.hid hb
  have HC := Lib.hid hc
  have HM := Lib.hid hm
  clear hl hr h hq ha hb hc hm
  generalize nbr (shadeF A B C M) l Wn k = z at *
  generalize l.getD k 0 = v at *
  generalize l.getD (k - Wn) 0 = n at *
  generalize l.getD (k + Wn) 0 = s at *
  generalize l.getD (k + 1) 0 = e at *
  generalize l.getD (k - 1) 0 = wv at *
  have KN := Lib.hid (fun W => normal_any n s e wv v W hn hs he hw)
  obtain ⟨_, _, n1, n2, n3⟩ := normal_bd hn hs he hw
  obtain ⟨b1, b2, b3, b4, b5, b6⟩ := Ieee.Format.shade_bd hL.a hL.b hL.c hL.m hL.m1 hn hs he hw
  have k1 := fun w' => run_float_arith (P := Tryz.prog) w' .mul 46 .f32 (nxF n s e wv) A (mulF (nxF n s e wv) A) (Ieee.Format.bits_mul n1.1 hL.a.1)
  have k2 := fun w' => run_float_arith (P := Tryz.prog) w' .mul 46 .f32 (nyF n s e wv) B (mulF (nyF n s e wv) B) (Ieee.Format.bits_mul n2.1 hL.b.1)
  have k3 := fun w' => run_float_arith (P := Tryz.prog) w' .add 46 .f32 (mulF (nxF n s e wv) A) (mulF (nyF n s e wv) B) (addF (mulF (nxF n s e wv) A) (mulF (nyF n s e wv) B)) (Ieee.Format.bits_add b1.1 b2.1)
  have k4 := fun w' => run_float_arith (P := Tryz.prog) w' .mul 46 .f32 (nzF n s e wv) C (mulF (nzF n s e wv) C) (Ieee.Format.bits_mul n3.1 hL.c.1)
  have k5 := fun w' => run_float_arith (P := Tryz.prog) w' .add 46 .f32 (addF (mulF (nxF n s e wv) A) (mulF (nyF n s e wv) B)) (mulF (nzF n s e wv) C) (Ieee.Format.shade1 A B C n s e wv) (Ieee.Format.bits_add b3.1 b4.1)
  have k6 := fun w' => run_float_arith (P := Tryz.prog) w' .quo 46 .f32 (Ieee.Format.shade1 A B C n s e wv) M (Ieee.Format.shade2 A B C M n s e wv) (Ieee.Format.bits_div b5.1 hL.m (one_ne hL.m1))
  have HE2 : Hid (z = if gtr (Ieee.Format.shade2 A B C M n s e wv) 0 = true then Ieee.Format.shade2 A B C M n s e wv else 0) := HE.out
  clear b1 b2 b3 b4 b5 b6 n1 n2 n3 hn hs he hw hL HE
  generalize Ieee.Format.shade2 A B C M n s e wv = z6 at *
  generalize Ieee.Format.shade1 A B C n s e wv = z5 at *
  generalize addF (mulF (nxF n s e wv) A) (mulF (nyF n s e wv) B) = z3 at *
  generalize mulF (nxF n s e wv) A = z1 at *
  generalize mulF (nyF n s e wv) B = z2 at *
  generalize mulF (nzF n s e wv) C = z4 at *
  generalize nxF n s e wv = y1 at *
  generalize nyF n s e wv = y2 at *
  generalize nzF n s e wv = y3 at *
  go_enter Tryz.func167, Tryz.ntmps167
  go_wp2_with fail
  refine (KA.out _ (HL.out)).mono ?_
  rintro en w1 ⟨rfl, b1⟩
  have HB1 := Lib.hid b1
  clear b1
  go_wp2_with fail
  refine (KN.out _).mono ?_
  rintro en w2 ⟨rfl, b2⟩
  have HB2 := Lib.hid (HB1.out.trans (b2.mono HB1.out.size))
  have a0 : w2.cell? ⟨pa, 0, none⟩ = some (.float .f32 A) := (HA.out.below HB2.out HA.out.lt).cell 0
  have a1 : w2.cell? ⟨pb, 0, none⟩ = some (.float .f32 B) := (HB.out.below HB2.out HB.out.lt).cell 0
  have a2 : w2.cell? ⟨pc, 0, none⟩ = some (.float .f32 C) := (HC.out.below HB2.out HC.out.lt).cell 0
  have a3 : w2.cell? ⟨pm, 0, none⟩ = some (.float .f32 M) := (HM.out.below HB2.out HM.out.lt).cell 0
  clear b2 c0 c1 c2 c3 c4
  cases hg : gtr z6 0 with
  | true =>
    have HZ : Hid (z = z6) := by have := HE2.out; rw [hg, if_pos rfl] at this; exact this
    change (FloatKind.f32.format.order z6 0 == some .gt) = true at hg
    clear HE2
    go_wp2_with fail
    go_ret
    exact ⟨ret_f HZ.out.symm, HB2.out⟩
  | false =>
    have HZ : Hid (z = 0) := by have := HE2.out; rw [hg, if_neg (by decide)] at this; exact this
    change (FloatKind.f32.format.order z6 0 == some .gt) = false at hg
    clear HE2
    go_wp2_with fail
    go_ret
    exact ⟨ret_f HZ.out.symm, HB2.out⟩
end Go.Proofs.YtimhpmccmafnpaaGreat


namespace Go.Proofs.YtimhpmccmafnpaaGreat
open Go.ChangeShapes Go.WideShapes Go.ChangeAt Go.RowKit
open Ieee.Format (fin finE htE allFin allHt all_true all_false mulF subF addF Ht Bd divF rootF floorF easeF mixF)
set_option linter.unusedVariables false
open Ieee.Format (slopeF curveF)

/-- the values of the cells that are not at the edge -/
def innerL (φ : Nat → Nat → Nat → Nat → Nat → Nat) (X Y : Int) (Wn Hn : Nat) (l : List Nat) : List Nat := madeL (fun x y => nbr φ l Wn (cellNo X Y Wn x y).toNat) (X + 1) (Y + 1) (Wn - 2) ((Hn - 2) * (Wn - 2))
theorem innerL_len (φ : Nat → Nat → Nat → Nat → Nat → Nat) (X Y : Int) (Wn Hn : Nat) (l : List Nat) : (innerL φ X Y Wn Hn l).length = (Hn - 2) * (Wn - 2) := madeL_len _ _ _ _ _
theorem innerL_small (φ : Nat → Nat → Nat → Nat → Nat → Nat) {X Y : Int} {Wn Hn : Nat} {l : List Nat} (hr : Right X Y Wn Hn l) : (innerL φ X Y Wn Hn l).length ≤ 1099511627776 := by
  rw [innerL_len]
  have := hr.h2; have := hr.w2
  have := Nat.mul_le_mul (show Hn - 2 ≤ 512 by omega) (show Wn - 2 ≤ 512 by omega)
  omega

theorem make_inner (gn : Nat) (caps : Array Value) (φ : Nat → Nat → Nat → Nat → Nat → Nat) (X Y : Int) (Wn Hn : Nat) (l : List Nat) (w : World) (hr : Right X Y Wn Hn l) (h3 : 3 ≤ Wn) (h4 : 3 ≤ Hn)
    (eg : ∀ args w, (callFunc gn args).run Tryz.prog w = .ok (.enter gn args) w) (hlt : ∀ k, nbr φ l Wn k < 4294967296)
    (hf : ∀ x y k, InnerAt X Y Wn Hn x y k → ∀ W', Below w.heap.size w W' → Calls Tryz.prog gn (#[.int .i64 x, .int .i64 y] ++ caps) W' fun e w' => e = .returned (.float .f32 (nbr φ l Wn k)) ∧ Below W'.heap.size W' w') :
    Calls Tryz.prog 69 #[reg (X + 1) (Y + 1) ((Wn - 2 : Nat) : Int) ((Hn - 2 : Nat) : Int), .func (.func gn) #[] caps] w fun e w' => MakeP (X + 1) (Y + 1) ((Wn - 2 : Nat) : Int) ((Hn - 2 : Nat) : Int) (innerL φ X Y Wn Hn l) w e w' := by
  have g1 := hr.w2; have g2 := hr.h2; have g3 := hr.x1; have g4 := hr.x2; have g5 := hr.y1; have g6 := hr.y2
  refine make_any gn caps (fun x y => nbr φ l Wn (cellNo X Y Wn x y).toNat) (X + 1) (Y + 1) (Wn - 2) (Hn - 2) w (by omega) (by omega) (by omega) (by omega) (by omega) (by omega) (by omega) (by omega) eg (fun x y _ _ _ _ => hlt _) ?_
  intro x y h1 h2 h5 h6 W' hb
  exact hf x y _ (InnerAt.of h1 (by omega) h5 (by omega)) W' hb
end Go.Proofs.YtimhpmccmafnpaaGreat


namespace Go.Proofs.YtimhpmccmafnpaaGreat
open Go.ChangeShapes Go.WideShapes Go.ChangeAt Go.RowKit
open Ieee.Format (fin finE htE allFin allHt all_true all_false mulF subF addF Ht Bd divF rootF floorF easeF mixF)
set_option linter.unusedVariables false

/-- a row of ints in a block -/
def IRow (w : World) (b : Nat) (l : List Int) : Prop := ∀ i, i < l.length → w.cell? ⟨b, i, none⟩ = some (.int .i64 (l.getD i 0))
def inB (m n : Int) : Bool := decide (-m ≤ n ∧ n ≤ m)

theorem within_yes (m : Int) (b c : Nat) (l : List Int) (w : World) (h0 : 0 ≤ m) (h1 : m ≤ 1099511627776) (hn : l.length ≤ 1000) (hc : IRow w b l) (hw : ∀ i, i < l.length → -m ≤ l.getD i 0 ∧ l.getD i 0 ≤ m) :
    Calls Tryz.prog 42 #[.int .i64 m, .slice (some ⟨b, 0, none⟩) l.length c] w fun e w' => e = .returned (.bool true) ∧ w = w' := by
  have HC := Lib.hid hc
  have HW := Lib.hid hw
  clear hc hw
  go_enter Tryz.func42, Tryz.ntmps42
  go_wp2
  go_loop [9] (fun i => ∃ k : Nat, k ≤ l.length ∧ i = .int .i64 k) (fun i => l.length - (intOf i).toNat)
  case atStart => exact ⟨0, by omega, rfl⟩
  case round =>
    obtain ⟨k, hk, rfl⟩ := hrel
    by_cases hlt : k < l.length
    · have hc := HC.out k hlt
      obtain ⟨g1, g2⟩ := HW.out k hlt
      generalize l.getD k 0 = n at *
      have g3 : ¬ n < -m := by omega
      have g4 : ¬ m < n := by omega
      go_wp2
      go_round
      case rel => exact ⟨k + 1, by omega, by go_num⟩
      case measure => simp [intOf]; omega
    · go_wp2
      go_ret
      exact ⟨rfl, rfl⟩

theorem within_no (m : Int) (b c : Nat) (l : List Int) (w : World) (h0 : 0 ≤ m) (h1 : m ≤ 1099511627776) (hn : l.length ≤ 1000) (hc : IRow w b l) (j : Nat) (hj : j < l.length) (hw : ∀ i, i < j → -m ≤ l.getD i 0 ∧ l.getD i 0 ≤ m) (hb : l.getD j 0 < -m ∨ m < l.getD j 0) :
    Calls Tryz.prog 42 #[.int .i64 m, .slice (some ⟨b, 0, none⟩) l.length c] w fun e w' => e = .returned (.bool false) ∧ w = w' := by
  have HC := Lib.hid hc
  have HW := Lib.hid hw
  have HB := Lib.hid hb
  clear hc hw hb
  go_enter Tryz.func42, Tryz.ntmps42
  go_wp2
  go_loop [9] (fun i => ∃ k : Nat, k ≤ j ∧ i = .int .i64 k) (fun i => l.length - (intOf i).toNat)
  case atStart => exact ⟨0, by omega, rfl⟩
  case round =>
    obtain ⟨k, hk, rfl⟩ := hrel
    have hlt : k < l.length := by omega
    have hc := HC.out k hlt
    by_cases hkj : k < j
    · obtain ⟨g1, g2⟩ := HW.out k hkj
      generalize l.getD k 0 = n at *
      have g3 : ¬ n < -m := by omega
      have g4 : ¬ m < n := by omega
      go_wp2
      go_round
      case rel => exact ⟨k + 1, by omega, by go_num⟩
      case measure => simp [intOf]; omega
    · obtain rfl : k = j := by omega
      have hb := HB.out
      generalize l.getD k 0 = n at *
      rcases hb with hb | hb
      · go_wp2
        go_ret
        exact ⟨rfl, rfl⟩
      · have g3 : ¬ n < -m := by omega
        go_wp2
        go_ret
        exact ⟨rfl, rfl⟩

theorem all_or_first (p : Nat → Prop) (n : Nat) : (∀ i, i < n → p i) ∨ ∃ j, j < n ∧ (∀ i, i < j → p i) ∧ ¬ p j := by
  induction n with
  | zero => exact .inl fun i hi => absurd hi (by omega)
  | succ n ih =>
    rcases ih with h | ⟨j, hj, h1, h2⟩
    · by_cases hp : p n
      · exact .inl fun i hi => by
          rcases Nat.lt_or_ge i n with c | c
          · exact h i c
          · rw [show i = n by omega]; exact hp
      · exact .inr ⟨n, by omega, h, hp⟩
    · exact .inr ⟨j, by omega, h1, h2⟩

theorem within_any (m : Int) (b c : Nat) (l : List Int) (w : World) (h0 : 0 ≤ m) (h1 : m ≤ 1099511627776) (hn : l.length ≤ 1000) (hc : IRow w b l) :
    Calls Tryz.prog 42 #[.int .i64 m, .slice (some ⟨b, 0, none⟩) l.length c] w fun e w' => e = .returned (.bool (l.all (inB m))) ∧ w = w' := by
  rcases all_or_first (fun i => -m ≤ l.getD i 0 ∧ l.getD i 0 ≤ m) l.length with h | ⟨j, hj, h2, h3⟩
  · have : l.all (inB m) = true := by
      rw [List.all_eq_true]
      intro x hx
      obtain ⟨i, hi, rfl⟩ := List.getElem_of_mem hx
      have := h i hi
      rw [List.getD_eq_getElem?_getD, List.getElem?_eq_getElem hi] at this
      exact decide_eq_true this
    rw [this]
    exact within_yes m b c l w h0 h1 hn hc h
  · have : l.all (inB m) = false := by
      rw [List.all_eq_false]
      refine ⟨l[j], List.getElem_mem hj, ?_⟩
      rw [List.getD_eq_getElem?_getD, List.getElem?_eq_getElem hj] at h3
      unfold inB
      rw [decide_eq_true_eq]
      exact h3
    rw [this]
    exact within_no m b c l w h0 h1 hn hc j hj h2 (by omega)

theorem irow3 (w : World) (b : Nat) (x y z : Int) (h0 : w.cell? ⟨b, 0, none⟩ = some (.int .i64 x)) (h1 : w.cell? ⟨b, 1, none⟩ = some (.int .i64 y)) (h2 : w.cell? ⟨b, 2, none⟩ = some (.int .i64 z)) : IRow w b [x, y, z] := by
  intro i hi
  match i, hi with
  | 0, _ => exact h0
  | 1, _ => exact h1
  | 2, _ => exact h2
theorem irow2 (w : World) (b : Nat) (x y : Int) (h0 : w.cell? ⟨b, 0, none⟩ = some (.int .i64 x)) (h1 : w.cell? ⟨b, 1, none⟩ = some (.int .i64 y)) : IRow w b [x, y] := by
  intro i hi
  match i, hi with
  | 0, _ => exact h0
  | 1, _ => exact h1
theorem irow1 (w : World) (b : Nat) (x : Int) (h0 : w.cell? ⟨b, 0, none⟩ = some (.int .i64 x)) : IRow w b [x] := by
  intro i hi
  match i, hi with
  | 0, _ => exact h0
theorem within3 (m : Int) (b : Nat) (x y z : Int) (w : World) (h0 : 0 ≤ m) (h1 : m ≤ 1099511627776) (c0 : w.cell? ⟨b, 0, none⟩ = some (.int .i64 x)) (c1 : w.cell? ⟨b, 1, none⟩ = some (.int .i64 y)) (c2 : w.cell? ⟨b, 2, none⟩ = some (.int .i64 z)) :
    Calls Tryz.prog 42 #[.int .i64 m, .slice (some ⟨b, 0, none⟩) 3 3] w fun e w' => e = .returned (.bool (inB m x && inB m y && inB m z)) ∧ w = w' := by
  have := within_any m b 3 [x, y, z] w h0 h1 (by simp) (irow3 w b x y z c0 c1 c2)
  simpa [Bool.and_assoc] using this
theorem within2 (m : Int) (b : Nat) (x y : Int) (w : World) (h0 : 0 ≤ m) (h1 : m ≤ 1099511627776) (c0 : w.cell? ⟨b, 0, none⟩ = some (.int .i64 x)) (c1 : w.cell? ⟨b, 1, none⟩ = some (.int .i64 y)) :
    Calls Tryz.prog 42 #[.int .i64 m, .slice (some ⟨b, 0, none⟩) 2 2] w fun e w' => e = .returned (.bool (inB m x && inB m y)) ∧ w = w' := by
  have := within_any m b 2 [x, y] w h0 h1 (by simp) (irow2 w b x y c0 c1)
  simpa using this
theorem within1 (m : Int) (b : Nat) (x : Int) (w : World) (h0 : 0 ≤ m) (h1 : m ≤ 1099511627776) (c0 : w.cell? ⟨b, 0, none⟩ = some (.int .i64 x)) :
    Calls Tryz.prog 42 #[.int .i64 m, .slice (some ⟨b, 0, none⟩) 1 1] w fun e w' => e = .returned (.bool (inB m x)) ∧ w = w' := by
  have := within_any m b 1 [x] w h0 h1 (by simp) (irow1 w b x c0)
  simpa using this

theorem lightin_any (n : Int) (w : World) : Calls Tryz.prog 92 #[.int .i64 n] w fun e w' => e = .returned (.bool (inB 1000 n)) ∧ w = w' := by
  unfold inB
  by_cases h1 : -1000 ≤ n
  · by_cases h2 : n ≤ 1000
    · rw [decide_eq_true (show -1000 ≤ n ∧ n ≤ 1000 from ⟨h1, h2⟩)]
      go_enter Tryz.func92, Tryz.ntmps92
      go_wp2
      go_ret
      exact ⟨rfl, rfl⟩
    · rw [decide_eq_false (show ¬ (-1000 ≤ n ∧ n ≤ 1000) by omega)]
      go_enter Tryz.func92, Tryz.ntmps92
      go_wp2
      go_ret
      exact ⟨rfl, rfl⟩
  · rw [decide_eq_false (show ¬ (-1000 ≤ n ∧ n ≤ 1000) by omega)]
    go_enter Tryz.func92, Tryz.ntmps92
    go_wp2
    go_ret
    exact ⟨rfl, rfl⟩

def lightE (x y z : Int) : Int := if (inB 1000 x && inB 1000 y && inB 1000 z) = false then 3 else if x = 0 ∧ y = 0 ∧ z = 0 then 12 else 0
set_option maxHeartbeats 2000000 in
theorem lighterror_any (x y z : Int) (w : World) : Calls Tryz.prog 63 #[.int .i64 x, .int .i64 y, .int .i64 z] w fun e w' => e = .returned (.int .i64 (lightE x y z)) ∧ w = w' := by
  have kx := Lib.hid (fun w => lightin_any x w)
  have ky := Lib.hid (fun w => lightin_any y w)
  have kz := Lib.hid (fun w => lightin_any z w)
  unfold lightE
  cases hx : inB 1000 x with
  | false =>
    rw [hx] at kx
    rw [if_pos (by simp)]
    clear hx
    go_enter Tryz.func63, Tryz.ntmps63
    go_wp2_with (first | (go_at_call 92; (with_reducible refine (kx.out _).mono ?_); rintro e w' ⟨rfl, rfl⟩) | (go_at_call 92; (with_reducible refine (ky.out _).mono ?_); rintro e w' ⟨rfl, rfl⟩) | (go_at_call 92; (with_reducible refine (kz.out _).mono ?_); rintro e w' ⟨rfl, rfl⟩))
    go_ret
    exact ⟨rfl, rfl⟩
  | true =>
    rw [hx] at kx
    cases hy : inB 1000 y with
    | false =>
      rw [hy] at ky
      rw [if_pos (by simp)]
      clear hx hy
      go_enter Tryz.func63, Tryz.ntmps63
      go_wp2_with (first | (go_at_call 92; (with_reducible refine (kx.out _).mono ?_); rintro e w' ⟨rfl, rfl⟩) | (go_at_call 92; (with_reducible refine (ky.out _).mono ?_); rintro e w' ⟨rfl, rfl⟩) | (go_at_call 92; (with_reducible refine (kz.out _).mono ?_); rintro e w' ⟨rfl, rfl⟩))
      go_ret
      exact ⟨rfl, rfl⟩
    | true =>
      rw [hy] at ky
      cases hz : inB 1000 z with
      | false =>
        rw [hz] at kz
        rw [if_pos (by simp)]
        clear hx hy hz
        go_enter Tryz.func63, Tryz.ntmps63
        go_wp2_with (first | (go_at_call 92; (with_reducible refine (kx.out _).mono ?_); rintro e w' ⟨rfl, rfl⟩) | (go_at_call 92; (with_reducible refine (ky.out _).mono ?_); rintro e w' ⟨rfl, rfl⟩) | (go_at_call 92; (with_reducible refine (kz.out _).mono ?_); rintro e w' ⟨rfl, rfl⟩))
        go_ret
        exact ⟨rfl, rfl⟩
      | true =>
        rw [hz] at kz
        rw [if_neg (by decide)]
        clear hx hy hz
        by_cases h1 : x = 0
        · by_cases h2 : y = 0
          · by_cases h3 : z = 0
            · rw [if_pos ⟨h1, h2, h3⟩]
              subst h1 h2 h3
              go_enter Tryz.func63, Tryz.ntmps63
              go_wp2_with (first | (go_at_call 92; (with_reducible refine (kx.out _).mono ?_); rintro e w' ⟨rfl, rfl⟩) | (go_at_call 92; (with_reducible refine (ky.out _).mono ?_); rintro e w' ⟨rfl, rfl⟩) | (go_at_call 92; (with_reducible refine (kz.out _).mono ?_); rintro e w' ⟨rfl, rfl⟩))
              go_ret
              exact ⟨rfl, rfl⟩
            · rw [if_neg (fun h => h3 h.2.2)]
              subst h1 h2
              have q3 : (z == 0) = false := by simpa using h3
              go_enter Tryz.func63, Tryz.ntmps63
              go_wp2_with (first | (go_at_call 92; (with_reducible refine (kx.out _).mono ?_); rintro e w' ⟨rfl, rfl⟩) | (go_at_call 92; (with_reducible refine (ky.out _).mono ?_); rintro e w' ⟨rfl, rfl⟩) | (go_at_call 92; (with_reducible refine (kz.out _).mono ?_); rintro e w' ⟨rfl, rfl⟩))
              go_ret
              exact ⟨rfl, rfl⟩
          · rw [if_neg (fun h => h2 h.2.1)]
            subst h1
            have q2 : (y == 0) = false := by simpa using h2
            go_enter Tryz.func63, Tryz.ntmps63
            go_wp2_with (first | (go_at_call 92; (with_reducible refine (kx.out _).mono ?_); rintro e w' ⟨rfl, rfl⟩) | (go_at_call 92; (with_reducible refine (ky.out _).mono ?_); rintro e w' ⟨rfl, rfl⟩) | (go_at_call 92; (with_reducible refine (kz.out _).mono ?_); rintro e w' ⟨rfl, rfl⟩))
            go_ret
            exact ⟨rfl, rfl⟩
        · rw [if_neg (fun h => h1 h.1)]
          have q1 : (x == 0) = false := by simpa using h1
          go_enter Tryz.func63, Tryz.ntmps63
          go_wp2_with (first | (go_at_call 92; (with_reducible refine (kx.out _).mono ?_); rintro e w' ⟨rfl, rfl⟩) | (go_at_call 92; (with_reducible refine (ky.out _).mono ?_); rintro e w' ⟨rfl, rfl⟩) | (go_at_call 92; (with_reducible refine (kz.out _).mono ?_); rintro e w' ⟨rfl, rfl⟩))
          go_ret
          exact ⟨rfl, rfl⟩
end Go.Proofs.YtimhpmccmafnpaaGreat


namespace Go.Proofs.YtimhpmccmafnpaaGreat
open Go.ChangeShapes Go.WideShapes Go.ChangeAt Go.RowKit
open Ieee.Format (fin finE htE allFin allHt all_true all_false mulF subF addF Ht Bd divF rootF floorF easeF mixF)
set_option linter.unusedVariables false
open Ieee.Format (conv_exact const_1)

abbrev cv (n : Int) : Nat := floatOfInt .f32 n
theorem cv_bd {n : Int} {k : Nat} (hk : k ≤ 23) (h1 : -(2 ^ k : Nat) ≤ n) (h2 : n ≤ (2 ^ k : Nat)) : Bd k (cv n) := by
  have hp : (2 ^ k : Nat) ≤ 2 ^ 23 := Nat.pow_le_pow_right (by omega) hk
  have : (2 : Nat) ^ 23 = 8388608 := by decide
  obtain ⟨a, b, _⟩ := conv_exact n (by omega) (by omega)
  refine ⟨a, ?_⟩
  rw [b, Ieee.P2_nat]
  constructor
  · rw [← Rat.intCast_natCast, ← Rat.intCast_neg]; exact Rat.intCast_le_intCast.2 h1
  · rw [← Rat.intCast_natCast]; exact Rat.intCast_le_intCast.2 h2
theorem sq_int (n m : Int) (h1 : -m ≤ n) (h2 : n ≤ m) : 0 ≤ n * n ∧ n * n ≤ m * m := by
  constructor
  · rcases Int.le_total 0 n with h | h
    · exact Int.mul_nonneg h h
    · have := Int.mul_nonneg (show 0 ≤ -n by omega) (show 0 ≤ -n by omega)
      rw [Int.neg_mul_neg] at this; exact this
  · rcases Int.le_total 0 n with h | h
    · exact Int.mul_le_mul h2 h2 h (by omega)
    · have := Int.mul_le_mul (show -n ≤ m by omega) (show -n ≤ m by omega) (show 0 ≤ -n by omega) (show 0 ≤ m by omega)
      rw [Int.neg_mul_neg] at this; exact this
theorem sq_pos {n : Int} (h : n ≠ 0) : 1 ≤ n * n := by
  rcases Int.lt_or_gt_of_ne h with h | h
  · have := Int.mul_le_mul (show 1 ≤ -n by omega) (show 1 ≤ -n by omega) (by omega) (show 0 ≤ -n by omega)
    rw [Int.neg_mul_neg] at this; omega
  · have := Int.mul_le_mul (show 1 ≤ n by omega) (show 1 ≤ n by omega) (by omega) (show 0 ≤ n by omega)
    omega
theorem cv_root {n : Int} (h1 : 1 ≤ n) (h2 : n < 16777216) : fin Ieee.single (cv n) ∧ 0 ≤ Ieee.single.V (cv n) ∧ fin Ieee.single (rootF (cv n)) ∧ 1 ≤ Ieee.single.V (rootF (cv n)) := by
  obtain ⟨a, b, _⟩ := conv_exact n h2 (by omega)
  have hb : 1 ≤ Ieee.single.V (cv n) := by
    rw [b]
    have : ((1 : Int) : Rat) ≤ (n : Rat) := Rat.intCast_le_intCast.2 h1
    exact this
  have h0 : 0 ≤ Ieee.single.V (cv n) := by grind
  obtain ⟨X, Z, _, _, _, f, _⟩ := Ieee.Format.root_spec a h0
  exact ⟨a, h0, f, Ieee.Format.root_one a hb⟩

theorem light_zero {x y z : Int} (h : lightE x y z = 0) : (-1000 ≤ x ∧ x ≤ 1000) ∧ (-1000 ≤ y ∧ y ≤ 1000) ∧ (-1000 ≤ z ∧ z ≤ 1000) ∧ ¬ (x = 0 ∧ y = 0 ∧ z = 0) := by
  unfold lightE at h
  cases hc : (inB 1000 x && inB 1000 y && inB 1000 z) with
  | false => rw [hc, if_pos rfl] at h; omega
  | true =>
    rw [hc, if_neg (by decide)] at h
    simp only [Bool.and_eq_true, inB, decide_eq_true_eq] at hc
    refine ⟨hc.1.1, hc.1.2, hc.2, fun e => ?_⟩
    rw [if_pos e] at h; omega
theorem light_ok {x y z : Int} (h : lightE x y z = 0) : LightOk (cv x) (cv y) (cv z) (rootF (cv (x * x + y * y + z * z))) ∧ fin Ieee.single (cv (x * x + y * y + z * z)) ∧ 0 ≤ Ieee.single.V (cv (x * x + y * y + z * z)) ∧
    (0 ≤ x * x ∧ x * x ≤ 1000000) ∧ (0 ≤ y * y ∧ y * y ≤ 1000000) ∧ (0 ≤ z * z ∧ z * z ≤ 1000000) := by
  obtain ⟨h1, h2, h3, h4⟩ := light_zero h
  have a := sq_int x 1000 h1.1 h1.2
  have b := sq_int y 1000 h2.1 h2.2
  have c := sq_int z 1000 h3.1 h3.2
  have hp : 1 ≤ x * x + y * y + z * z := by
    by_cases e1 : x = 0
    · by_cases e2 : y = 0
      · by_cases e3 : z = 0
        · exact absurd ⟨e1, e2, e3⟩ h4
        · have := sq_pos e3; omega
      · have := sq_pos e2; omega
    · have := sq_pos e1; omega
  obtain ⟨r1, r2, r3, r4⟩ := cv_root hp (by omega)
  exact ⟨⟨cv_bd (by omega) (by simp; omega) (by simp; omega), cv_bd (by omega) (by simp; omega) (by simp; omega), cv_bd (by omega) (by simp; omega) (by simp; omega), r3, r4⟩, r1, r2, by omega, by omega, by omega⟩

theorem light_world (w : World) (x y z : Int) (M A B C : Nat) : ∀ W0, W0 = ((((w.alloc (.cells #[.int .i64 x, .int .i64 y, .int .i64 z] 3)).alloc (.cells #[.float .f32 M] 46)).alloc (.cells #[.float .f32 A] 46)).alloc (.cells #[.float .f32 B] 46)).alloc (.cells #[.float .f32 C] 46) →
    Blk W0 (w.heap.size + 1) #[.float .f32 M] 46 ∧ Blk W0 (w.heap.size + 1 + 1) #[.float .f32 A] 46 ∧ Blk W0 (w.heap.size + 1 + 1 + 1) #[.float .f32 B] 46 ∧ Blk W0 (w.heap.size + 1 + 1 + 1 + 1) #[.float .f32 C] 46 ∧ Below w.heap.size w W0 := by
  rintro _ rfl
  refine ⟨?_, ?_, ?_, ?_, (by repeat (first | with_reducible exact Below.refl _ _ | with_reducible apply Below.drew | with_reducible refine below_drewN ?_ _ | (with_reducible refine Below.setCell ?_ ?_ _; rotate_left; focus (first | omega | (simp <;> omega))) | (with_reducible refine Below.alloc ?_ ?_ _; rotate_left; focus (first | omega | (simp <;> omega)))))⟩
  · have := (((Blk.new (w.alloc (.cells #[.int .i64 x, .int .i64 y, .int .i64 z] 3)) #[.float .f32 M] 46).alloc (.cells #[.float .f32 A] 46)).alloc (.cells #[.float .f32 B] 46)).alloc (.cells #[.float .f32 C] 46)
    simpa using this
  · have := ((Blk.new ((w.alloc (.cells #[.int .i64 x, .int .i64 y, .int .i64 z] 3)).alloc (.cells #[.float .f32 M] 46)) #[.float .f32 A] 46).alloc (.cells #[.float .f32 B] 46)).alloc (.cells #[.float .f32 C] 46)
    simpa using this
  · have := (Blk.new (((w.alloc (.cells #[.int .i64 x, .int .i64 y, .int .i64 z] 3)).alloc (.cells #[.float .f32 M] 46)).alloc (.cells #[.float .f32 A] 46)) #[.float .f32 B] 46).alloc (.cells #[.float .f32 C] 46)
    simpa using this
  · have := Blk.new ((((w.alloc (.cells #[.int .i64 x, .int .i64 y, .int .i64 z] 3)).alloc (.cells #[.float .f32 M] 46)).alloc (.cells #[.float .f32 A] 46)).alloc (.cells #[.float .f32 B] 46)) #[.float .f32 C] 46
    simpa using this

theorem shadeF_lt (A B C M n s e w v : Nat) : shadeF A B C M n s e w v < 4294967296 := by
  unfold shadeF; split
  · exact Ieee.Format.divF_lt _ _
  · decide

theorem shade_bad (X Y : Int) (Wn Hn : Nat) (b o c : Nat) (l : List Nat) (lx ly lz : Int) (w : World) (hl : SRow w (some ⟨b, o, none⟩) l) (hr : Right X Y Wn Hn l) (h3 : 3 ≤ Wn) (h4 : 3 ≤ Hn) (h : lightE lx ly lz ≠ 0) :
    Calls Tryz.prog 131 #[fldV X Y Wn Hn (some ⟨b, o, none⟩) l.length c, .int .i64 lx, .int .i64 ly, .int .i64 lz] w fun e w' => e = .returned (.tuple #[fldV 0 0 0 0 none 0 0, .int .i64 (lightE lx ly lz)]) ∧ Below w.heap.size w w' := by
  have KI := Lib.hid (fun w hl => inner_ok X Y Wn Hn b o c l w hl hr h3 h4)
  have HL := Lib.hid hl
  have KW := Lib.hid (fun W g c0 c1 c2 => within3 1000 g lx ly lz W (by decide) (by decide) c0 c1 c2)
  clear hl hr h3 h4
  unfold lightE at *
  cases hc : (inB 1000 lx && inB 1000 ly && inB 1000 lz) with
  | false =>
    rw [hc] at KW
    rw [if_pos rfl]
    clear hc h
    go_enter Tryz.func131, Tryz.ntmps131
    go_wp2_with fail
    generalize hW0 : (w.alloc (.cells #[.int .i64 X, .int .i64 Y, .int .i64 Wn, .int .i64 Hn, .slice (some ⟨b, o, none⟩) l.length c] 78)).alloc (.cells #[.int .i64 0, .int .i64 0, .int .i64 0, .int .i64 0, .slice none 0 0] 78) = W0 at *
    obtain ⟨E0, F0, B0, z0⟩ := two_fields w X Y Wn Hn (.slice (some ⟨b, o, none⟩) l.length c) W0 hW0.symm
    clear hW0
    refine (KI.out _ (HL.out.below B0)).mono ?_
    rintro e w1 ⟨rfl, b1⟩
    have E1 := E0.below b1 E0.lt
    have F1 := F0.below b1 F0.lt
    have HL1 := Lib.hid ((HL.out.below B0).below b1)
    have B1 := Lib.hid (B0.trans (b1.mono B0.size))
    clear b1 B0 F0 E0 z0 KI HL
    have hR := Reg.new w1 (X + 1) (Y + 1) ((Wn - 2 : Nat) : Int) ((Hn - 2 : Nat) : Int)
    have b2 : Below w1.heap.size w1 (w1.alloc (.cells #[.int .i64 (X + 1), .int .i64 (Y + 1), .int .i64 ((Wn - 2 : Nat) : Int), .int .i64 ((Hn - 2 : Nat) : Int)] 33)) := (by repeat (first | with_reducible exact Below.refl _ _ | with_reducible apply Below.drew | with_reducible refine below_drewN ?_ _ | (with_reducible refine Below.setCell ?_ ?_ _; rotate_left; focus (first | omega | (simp <;> omega))) | (with_reducible refine Below.alloc ?_ ?_ _; rotate_left; focus (first | omega | (simp <;> omega)))))
    have HE2 := Lib.hid (E1.below b2 E1.lt)
    have HF2 := Lib.hid (F1.below b2 F1.lt)
    have HL2 := Lib.hid (HL1.out.below b2)
    have HB2 := Lib.hid (B1.out.trans (b2.mono B1.out.size))
    have l0 : w.heap.size < w1.heap.size := E1.lt
    have l1 : w.heap.size + 1 < w1.heap.size := F1.lt
    have HR2 := Lib.hid hR
    clear E1 F1 HL1 B1 b2 hR
    have HS2 : Hid (w1.heap.size + 1 = (w1.alloc (.cells #[.int .i64 (X + 1), .int .i64 (Y + 1), .int .i64 ((Wn - 2 : Nat) : Int), .int .i64 ((Hn - 2 : Nat) : Int)] 33)).heap.size) := Lib.hid (by simp)
    go_wp2_with fail
    generalize w1.alloc (.cells #[.int .i64 (X + 1), .int .i64 (Y + 1), .int .i64 ((Wn - 2 : Nat) : Int), .int .i64 ((Hn - 2 : Nat) : Int)] 33) = w2 at *
    rw [HS2.out]
    refine (KW.out _ _ (by simp [go_sem]) (by simp [go_sem]) (by simp [go_sem])).mono ?_
    rintro e w3 ⟨rfl, rfl⟩
    obtain ⟨d0, d1, d2, d3, d4⟩ := HF2.out.cells
    have qf0 := HF2.out.frozen 0
    have qf1 := HF2.out.frozen 1
    have qf2 := HF2.out.frozen 2
    have qf3 := HF2.out.frozen 3
    have qf4 := HF2.out.frozen 4
    have l2 := HF2.out.lt
    go_wp2_with fail
    have B3 := HB2.out
    exact bodyPost_ret (v := .tuple #[fldV 0 0 0 0 none 0 0, .int .i64 3]) (by simp [results, Tryz.results131, go_sem, *]) rfl ⟨rfl, (by have hszz := B3.size; repeat (first | with_reducible exact B3 | with_reducible apply Below.drew | with_reducible refine below_drewN ?_ _ | (with_reducible refine Below.setCell ?_ ?_ _; rotate_left; focus (first | omega | (simp <;> omega))) | (with_reducible refine Below.alloc ?_ ?_ _; rotate_left; focus (first | omega | (simp <;> omega)))))⟩
  | true =>
    rw [hc] at KW h
    rw [if_neg (by decide)] at h ⊢
    have hz : lx = 0 ∧ ly = 0 ∧ lz = 0 := by
      apply Classical.byContradiction
      intro hn
      rw [if_neg hn] at h; exact h rfl
    rw [if_pos hz]
    obtain ⟨rfl, rfl, rfl⟩ := hz
    clear hc h
    go_enter Tryz.func131, Tryz.ntmps131
    go_wp2_with fail
    generalize hW0 : (w.alloc (.cells #[.int .i64 X, .int .i64 Y, .int .i64 Wn, .int .i64 Hn, .slice (some ⟨b, o, none⟩) l.length c] 78)).alloc (.cells #[.int .i64 0, .int .i64 0, .int .i64 0, .int .i64 0, .slice none 0 0] 78) = W0 at *
    obtain ⟨E0, F0, B0, z0⟩ := two_fields w X Y Wn Hn (.slice (some ⟨b, o, none⟩) l.length c) W0 hW0.symm
    clear hW0
    refine (KI.out _ (HL.out.below B0)).mono ?_
    rintro e w1 ⟨rfl, b1⟩
    have E1 := E0.below b1 E0.lt
    have F1 := F0.below b1 F0.lt
    have HL1 := Lib.hid ((HL.out.below B0).below b1)
    have B1 := Lib.hid (B0.trans (b1.mono B0.size))
    clear b1 B0 F0 E0 z0 KI HL
    have hR := Reg.new w1 (X + 1) (Y + 1) ((Wn - 2 : Nat) : Int) ((Hn - 2 : Nat) : Int)
    have b2 : Below w1.heap.size w1 (w1.alloc (.cells #[.int .i64 (X + 1), .int .i64 (Y + 1), .int .i64 ((Wn - 2 : Nat) : Int), .int .i64 ((Hn - 2 : Nat) : Int)] 33)) := (by repeat (first | with_reducible exact Below.refl _ _ | with_reducible apply Below.drew | with_reducible refine below_drewN ?_ _ | (with_reducible refine Below.setCell ?_ ?_ _; rotate_left; focus (first | omega | (simp <;> omega))) | (with_reducible refine Below.alloc ?_ ?_ _; rotate_left; focus (first | omega | (simp <;> omega)))))
    have HE2 := Lib.hid (E1.below b2 E1.lt)
    have HF2 := Lib.hid (F1.below b2 F1.lt)
    have HL2 := Lib.hid (HL1.out.below b2)
    have HB2 := Lib.hid (B1.out.trans (b2.mono B1.out.size))
    have l0 : w.heap.size < w1.heap.size := E1.lt
    have l1 : w.heap.size + 1 < w1.heap.size := F1.lt
    have HR2 := Lib.hid hR
    clear E1 F1 HL1 B1 b2 hR
    have HS2 : Hid (w1.heap.size + 1 = (w1.alloc (.cells #[.int .i64 (X + 1), .int .i64 (Y + 1), .int .i64 ((Wn - 2 : Nat) : Int), .int .i64 ((Hn - 2 : Nat) : Int)] 33)).heap.size) := Lib.hid (by simp)
    go_wp2_with fail
    generalize w1.alloc (.cells #[.int .i64 (X + 1), .int .i64 (Y + 1), .int .i64 ((Wn - 2 : Nat) : Int), .int .i64 ((Hn - 2 : Nat) : Int)] 33) = w2 at *
    rw [HS2.out]
    refine (KW.out _ _ (by simp [go_sem]) (by simp [go_sem]) (by simp [go_sem])).mono ?_
    rintro e w3 ⟨rfl, rfl⟩
    obtain ⟨d0, d1, d2, d3, d4⟩ := HF2.out.cells
    have qf0 := HF2.out.frozen 0
    have qf1 := HF2.out.frozen 1
    have qf2 := HF2.out.frozen 2
    have qf3 := HF2.out.frozen 3
    have qf4 := HF2.out.frozen 4
    have l2 := HF2.out.lt
    go_wp2_with fail
    have B3 := HB2.out
    exact bodyPost_ret (v := .tuple #[fldV 0 0 0 0 none 0 0, .int .i64 12]) (by simp [results, Tryz.results131, go_sem, *]) rfl ⟨rfl, (by have hszz := B3.size; repeat (first | with_reducible exact B3 | with_reducible apply Below.drew | with_reducible refine below_drewN ?_ _ | (with_reducible refine Below.setCell ?_ ?_ _; rotate_left; focus (first | omega | (simp <;> omega))) | (with_reducible refine Below.alloc ?_ ?_ _; rotate_left; focus (first | omega | (simp <;> omega)))))⟩
end Go.Proofs.YtimhpmccmafnpaaGreat
