import Derived.Test.YtnfebeebjelgbaaSelFn
import Derived.Test.YtnfebeebjelgbaaRefBil
import Derived.Deep.RegionHeld3
namespace Go.Proofs.Ytnfebeebjelgbaa
open Go.ChangeShapes Go.WideShapes Go.ChangeAt Go.RowKit
open Ieee.Format (fin finE htE allFin allHt all_true all_false mulF subF addF Ht Bd divF rootF floorF easeF mixF)
set_option linter.unusedVariables false
open Ieee.Format (const_0 const_1)

theorem CntAt.setc {w : World} {p : Nat} {c : Int} (h : CntAt w p c) (d : Int) : CntAt (w.setCell ⟨p, 0, none⟩ (.int .i64 d)) p d := by
  exact one_setCell h
/-- what a counting closure sees -/
structure CntSt (W : World) (p q b o c : Nat) (X Y W1 H1 : Int) (l : List Nat) (k : Nat) : Prop where
  cnt : CntAt W p ((k : Int) - 1)
  fo : Fld W q X Y W1 H1 (.slice (some ⟨b, o, none⟩) l.length c)
  row : SRow W (some ⟨b, o, none⟩) l
  qp : q ≠ p
  bp : b ≠ p
  kl : k < l.length
  bl : b < W.heap.size

theorem blk_cell1 {w w' : World} {p k : Nat} {v : Value} {t : TypeId} (h : Blk w k #[v] t) (hb : But w.heap.size (fun j => j = p) w w') (hp : k ≠ p) : w'.cell? ⟨k, 0, none⟩ = some v := (h.but hb h.lt hp).cell 0

set_option maxRecDepth 100000 in
set_option maxHeartbeats 1000000 in
theorem selectfn_any (lo hi soft : Nat) (x y : Int) (p q b o c pa pb pc k : Nat) (X Y W1 H1 : Int) (l : List Nat) (w : World) (h : CntSt w p q b o c X Y W1 H1 l k) (hv : Ht (l.getD k 0)) (hlo : Ht lo) (hhi : Ht hi) (hs : Ht soft)
    (ha : Blk w pa #[.float .f32 lo] 37) (hb : Blk w pb #[.float .f32 hi] 37) (hc : Blk w pc #[.float .f32 soft] 37) (pap : pa ≠ p) (pbp : pb ≠ p) (pcp : pc ≠ p) :
    Calls Try.prog 167 #[.int .i64 x, .int .i64 y, .pointer (some ⟨p, 0, none⟩), .pointer (some ⟨q, 0, none⟩), .pointer (some ⟨pa, 0, none⟩), .pointer (some ⟨pb, 0, none⟩), .pointer (some ⟨pc, 0, none⟩)] w fun e w' => e = .returned (.float .f32 (selF lo hi soft (l.getD k 0))) ∧ But w.heap.size (fun j => j = p) w w' ∧ CntAt w' p (k : Int) := by
  have KS := Lib.hid (fun w => select_any lo hi soft (l.getD k 0) w hlo hhi hs hv)
  clear hlo hhi hs hv
  generalize hv0 : l.getD k 0 = v at *
  have HV0 := Lib.hid hv0
  clear hv0
  generalize selF lo hi soft v = z at *
  have hkc := h.cnt
  obtain ⟨cc, hcc⟩ : ∃ cc : Int, cc = (k : Int) - 1 := ⟨_, rfl⟩
  rw [← hcc] at hkc
  have HCC : Hid (cc + 1 = (k : Int)) := by unfold Hid; omega
  have hk1 : -1 ≤ cc := by omega
  have hk2 : cc ≤ 1099511627776 := by have := h.row.1.1; have := h.kl; omega
  have hk4 : (k : Int) < l.length := by have := h.kl; omega
  have hk5 : l.length ≤ 1099511627776 := h.row.1.1
  clear hcc
  have c0 : w.cell? ⟨p, 0, none⟩ = some (.int .i64 cc) := hkc.cell 0
  have cf : w.frozen? ⟨p, 0, none⟩ = false := hkc.frozen 0
  have hp1 := hkc.lt
  go_enter Try.func167, Try.ntmps167
  go_wp2_with fail
  rw [HCC.out]
  have HB0 := Lib.hid (But.setq (B := w.heap.size) (q := fun j => j = p) (w := w) (p := ⟨p, 0, none⟩) (.int .i64 k) rfl)
  have HC2 := Lib.hid (CntAt.setc hkc (k : Int))
  have HF2 := Lib.hid (h.fo.but HB0.out h.fo.lt h.qp)
  have HR2 := Lib.hid (h.row.but HB0.out h.bl h.bp)
  have d4 := HF2.out.cells.2.2.2.2
  have dr := SRow.at_ HR2.out h.kl
  rw [HV0.out] at dr
  have da := blk_cell1 ha HB0.out pap
  have db := blk_cell1 hb HB0.out pbp
  have dc := blk_cell1 hc HB0.out pcp
  have dp : (w.setCell ⟨p, 0, none⟩ (.int .i64 (k : Int))).cell? ⟨p, 0, none⟩ = some (.int .i64 (k : Int)) := HC2.out.cell 0
  have hz : w.heap.size ≤ (w.setCell ⟨p, 0, none⟩ (.int .i64 (k : Int))).heap.size := HB0.out.size
  have l1 := h.fo.lt
  have l2 := h.bl
  have l3 := ha.lt
  have l4 := hb.lt
  have l5 := hc.lt
  have hpl : Hid (p < (w.setCell ⟨p, 0, none⟩ (.int .i64 (k : Int))).heap.size) := HC2.out.lt
  clear h ha hb hc pap pbp pcp c0 cf hkc hp1
  generalize w.setCell ⟨p, 0, none⟩ (.int .i64 (k : Int)) = W2 at *
  have hk6 : (0 : Int) ≤ k := by omega
  go_region_held3 (fun w' => w'.cell? ⟨q, 4, none⟩ = some (.slice (some ⟨b, o, none⟩) l.length c) ∧ w'.cell? ⟨p, 0, none⟩ = some (.int .i64 (k : Int)) ∧ w'.cell? ⟨b, o + k, none⟩ = some (.float .f32 v) ∧ w'.cell? ⟨pa, 0, none⟩ = some (.float .f32 lo) ∧ w'.cell? ⟨pb, 0, none⟩ = some (.float .f32 hi) ∧ w'.cell? ⟨pc, 0, none⟩ = some (.float .f32 soft) ∧ Below W2.heap.size W2 w')
    (first
      | exact ⟨d4, dp, dr, da, db, dc, (Below.refl _ _).drew⟩
      | (go_split_ands
         have hs := hb.size
         have hs2 := (show Below W2.heap.size W2 _ by assumption).size
         have hpl' := hpl.out
         refine ⟨?_, ?_, ?_, ?_, ?_, ?_, ?_⟩
         all_goals first
           | (rw [hb.cell (by simp; omega)]; assumption)
           | exact Below.trans (by assumption) (hb.mono (by omega)))
      | (go_split_ands; refine ⟨?_, ?_, ?_, ?_, ?_, ?_, ?_⟩ <;> assumption))
    (first | (go_at_call 168; go_split_ands; refine (KS.out _).mono ?_; rintro e2 w2 ⟨rfl, hb⟩))
  rename_i w3 hHeld
  obtain ⟨_, _, _, _, _, _, hB⟩ := hHeld
  go_wp2_with fail
  go_ret
  exact ⟨rfl, HB0.out.trans ((But.of hB).mono hz), HC2.out.below hB hpl.out⟩

/-! ### terraces -/
theorem terraced_any (step sharp v : Nat) (w : World) (h : TerOk step sharp) (hv : Bd 20 v) :
    Calls Try.prog 174 #[.float .f32 v, .float .f32 step, .float .f32 sharp] w fun e w' => e = .returned (.float .f32 (terF step sharp v)) ∧ w = w' := by
  obtain ⟨a1, a2, a3, a4, a5, a6, a7, a8, a9, a10, a11⟩ := ter_bd h hv
  have p := Ieee.P2_pos (-10)
  have k1 := fun w' => run_float_arith (P := Try.prog) w' .quo 37 .f32 v step (ter1 step v) (Ieee.Format.bits_div hv.1 h.st.1 (by have := h.st1; grind))
  have KF := Lib.hid (fun w => floor_any (ter1 step v) a1.1 a11 w)
  have k2 := fun w' => run_float_arith (P := Try.prog) w' .sub 37 .f32 (ter1 step v) (ter2 step v) (ter3 step v) (Ieee.Format.bits_sub a1.1 a2.1)
  have k3 := fun w' => run_float_arith (P := Try.prog) w' .mul 37 .f32 (ter2 step v) step (mulF (ter2 step v) step) (Ieee.Format.bits_mul a2.1 h.st.1)
  have k4 := fun w' => run_float_arith (P := Try.prog) w' .sub 37 .f32 (ter3 step v) sharp (subF (ter3 step v) sharp) (Ieee.Format.bits_sub a3.1 h.sh)
  have k5 := fun w' => run_float_arith (P := Try.prog) w' .sub 37 .f32 1065353216 sharp (subF 1065353216 sharp) (Ieee.Format.bits_sub const_1.1 h.sh)
  have k6 := fun w' => run_float_arith (P := Try.prog) w' .quo 37 .f32 (subF (ter3 step v) sharp) (subF 1065353216 sharp) (ter4 step sharp v) (Ieee.Format.bits_div a5.1 a6 a7)
  have k7 := fun w' => run_float_arith (P := Try.prog) w' .add 37 .f32 (ter2 step v) (ter4 step sharp v) (addF (ter2 step v) (ter4 step sharp v)) (Ieee.Format.bits_add a2.1 a8.1)
  have k8 := fun w' => run_float_arith (P := Try.prog) w' .mul 37 .f32 (addF (ter2 step v) (ter4 step sharp v)) step (mulF (addF (ter2 step v) (ter4 step sharp v)) step) (Ieee.Format.bits_mul a9.1 h.st.1)
  change Hid (∀ w, Calls Try.prog 208 #[.float .f32 (ter1 step v)] w fun e w' => e = .returned (.float .f32 (ter2 step v)) ∧ w = w') at KF
  clear a1 a2 a3 a4 a5 a6 a7 a8 a9 a10 a11 h hv p
  unfold terF
  generalize mulF (addF (ter2 step v) (ter4 step sharp v)) step = z8 at *
  generalize addF (ter2 step v) (ter4 step sharp v) = z7 at *
  generalize ter4 step sharp v = z6 at *
  generalize subF 1065353216 sharp = z5 at *
  generalize subF (ter3 step v) sharp = z4 at *
  generalize mulF (ter2 step v) step = z3 at *
  generalize ter3 step v = z2 at *
  generalize ter2 step v = z1 at *
  generalize ter1 step v = z0 at *
  cases hd : lss z2 sharp with
  | true =>
    rw [if_pos rfl]
    change (FloatKind.f32.format.order z2 sharp == some .lt) = true at hd
    go_enter Try.func174, Try.ntmps174
    go_wp2_with fail
    refine (KF.out _).mono ?_
    rintro en wz ⟨rfl, rfl⟩
    go_wp2_with fail
    go_ret
    exact ⟨rfl, rfl⟩
  | false =>
    rw [if_neg (by decide)]
    change (FloatKind.f32.format.order z2 sharp == some .lt) = false at hd
    go_enter Try.func174, Try.ntmps174
    go_wp2_with fail
    refine (KF.out _).mono ?_
    rintro en wz ⟨rfl, rfl⟩
    go_wp2_with fail
    go_ret
    exact ⟨rfl, rfl⟩
theorem refterraced_any (step sharp v : Nat) (w : World) (h : TerOk step sharp) (hv : Bd 20 v) :
    Calls Try.prog 177 #[.float .f32 v, .float .f32 step, .float .f32 sharp] w fun e w' => e = .returned (.float .f32 (terF step sharp v)) ∧ w = w' := by
  obtain ⟨a1, a2, a3, a4, a5, a6, a7, a8, a9, a10, a11⟩ := ter_bd h hv
  have p := Ieee.P2_pos (-10)
  have k1 := Lib.hid (fun w' => ref_div_ok v step w' hv.1 h.st.1 (by have := h.st1; grind) a1.1)
  have KF := Lib.hid (fun w => reffloor_any (ter1 step v) a1.1 a11 w)
  have k2 := Lib.hid (fun w' => ref_sub_ok (ter1 step v) (ter2 step v) w' a1.1 a2.1 a3.1)
  have k3 := Lib.hid (fun w' => ref_mul_ok (ter2 step v) step w' a2.1 h.st.1 a4.1)
  have k4 := Lib.hid (fun w' => ref_sub_ok (ter3 step v) sharp w' a3.1 h.sh a5.1)
  have k5 := Lib.hid (fun w' => ref_sub_ok 1065353216 sharp w' const_1.1 h.sh a6)
  have k6 := Lib.hid (fun w' => ref_div_ok (subF (ter3 step v) sharp) (subF 1065353216 sharp) w' a5.1 a6 a7 a8.1)
  have k7 := Lib.hid (fun w' => ref_add_ok (ter2 step v) (ter4 step sharp v) w' a2.1 a8.1 a9.1)
  have k8 := Lib.hid (fun w' => ref_mul_ok (addF (ter2 step v) (ter4 step sharp v)) step w' a9.1 h.st.1 a10.1)
  change Hid (∀ w, Calls Try.prog 139 #[.float .f32 v, .float .f32 step] w fun e w' => e = .returned (.float .f32 (ter1 step v)) ∧ w = w') at k1
  change Hid (∀ w, Calls Try.prog 142 #[.float .f32 (ter1 step v)] w fun e w' => e = .returned (.float .f32 (ter2 step v)) ∧ w = w') at KF
  change Hid (∀ w, Calls Try.prog 130 #[.float .f32 (ter1 step v), .float .f32 (ter2 step v)] w fun e w' => e = .returned (.float .f32 (ter3 step v)) ∧ w = w') at k2
  change Hid (∀ w, Calls Try.prog 139 #[.float .f32 (subF (ter3 step v) sharp), .float .f32 (subF 1065353216 sharp)] w fun e w' => e = .returned (.float .f32 (ter4 step sharp v)) ∧ w = w') at k6
  clear a1 a2 a3 a4 a5 a6 a7 a8 a9 a10 a11 h hv p
  unfold terF
  generalize mulF (addF (ter2 step v) (ter4 step sharp v)) step = z8 at *
  generalize addF (ter2 step v) (ter4 step sharp v) = z7 at *
  generalize ter4 step sharp v = z6 at *
  generalize subF 1065353216 sharp = z5 at *
  generalize subF (ter3 step v) sharp = z4 at *
  generalize mulF (ter2 step v) step = z3 at *
  generalize ter3 step v = z2 at *
  generalize ter2 step v = z1 at *
  generalize ter1 step v = z0 at *
  cases hd : lss z2 sharp with
  | true =>
    rw [if_pos rfl]
    change (FloatKind.f32.format.order z2 sharp == some .lt) = true at hd
    go_enter Try.func177, Try.ntmps177
    go_wp2_with fail
    refine (k1.out _).mono ?_
    rintro en wz ⟨rfl, rfl⟩
    go_wp2_with fail
    refine (KF.out _).mono ?_
    rintro en wz ⟨rfl, rfl⟩
    go_wp2_with fail
    refine (k2.out _).mono ?_
    rintro en wz ⟨rfl, rfl⟩
    go_wp2_with fail
    refine (k3.out _).mono ?_
    rintro en wz ⟨rfl, rfl⟩
    go_wp2_with fail
    go_ret
    exact ⟨rfl, rfl⟩
  | false =>
    rw [if_neg (by decide)]
    change (FloatKind.f32.format.order z2 sharp == some .lt) = false at hd
    go_enter Try.func177, Try.ntmps177
    go_wp2_with fail
    refine (k1.out _).mono ?_
    rintro en wz ⟨rfl, rfl⟩
    go_wp2_with fail
    refine (KF.out _).mono ?_
    rintro en wz ⟨rfl, rfl⟩
    go_wp2_with fail
    refine (k2.out _).mono ?_
    rintro en wz ⟨rfl, rfl⟩
    go_wp2_with fail
    refine (k4.out _).mono ?_
    rintro en wz ⟨rfl, rfl⟩
    go_wp2_with fail
    refine (k5.out _).mono ?_
    rintro en wz ⟨rfl, rfl⟩
    go_wp2_with fail
    refine (k6.out _).mono ?_
    rintro en wz ⟨rfl, rfl⟩
    go_wp2_with fail
    refine (k7.out _).mono ?_
    rintro en wz ⟨rfl, rfl⟩
    go_wp2_with fail
    refine (k8.out _).mono ?_
    rintro en wz ⟨rfl, rfl⟩
    go_wp2_with fail
    go_ret
    exact ⟨rfl, rfl⟩
end Go.Proofs.Ytnfebeebjelgbaa
