import Derived.Test.YtlpbofhmpfilnaaSelF
import Derived.Test.YtlpbofhmpfilnaaTer
import Derived.Test.YtlpbofhmpfilnaaCount
import Derived.Test.YtlpbofhmpfilnaaAddedOp
import Derived.Test.YtlpbofhmpfilnaaStream
import Derived.BigQuiet
import Derived.Deep.RegionHeld3
import Derived.Test.YtlpbofhmpfilnaaRefStamp
import Derived.Test.YtlpbofhmpfilnaaWear
namespace Go.Proofs.Ytlpbofhmpfilnaa
open Go.ChangeShapes Go.WideShapes Go.ChangeAt Go.RowKit
open Ieee.Format (fin finE htE allFin allHt all_true all_false mulF subF addF Ht Bd divF rootF floorF easeF mixF)
set_option linter.unusedVariables false
open Ieee.Format (const_0 const_1)

/-! ### rounding by chance, in plain Lean -/
def ditF (s v u : Nat) : Nat := if lss u (ter3 s v) = true then mulF (addF (ter2 s v) 1065353216) s else mulF (ter2 s v) s
theorem ditF_lt (s v u : Nat) : ditF s v u < 4294967296 := by unfold ditF; split <;> exact Ieee.Format.mulF_lt _ _
structure DitOk (s v : Nat) : Prop where
  a1 : fin Ieee.single (ter1 s v)
  a2 : fin Ieee.single (ter2 s v)
  a3 : fin Ieee.single (ter3 s v)
  a4 : fin Ieee.single (mulF (ter2 s v) s)
  a5 : fin Ieee.single (addF (ter2 s v) 1065353216)
  a6 : fin Ieee.single (mulF (addF (ter2 s v) 1065353216) s)
  l1 : ter1 s v < 4294967296
  s0 : fin Ieee.single s
  s1 : Ieee.single.V s ≠ 0
  v0 : fin Ieee.single v
theorem dit_ok {s v : Nat} (h : TerOk s 0) (hv : Bd 20 v) : DitOk s v := by
  obtain ⟨b1, b2, b3, b4, _, _, _, _, _, _, l1⟩ := ter_bd h hv
  have o := Ieee.Format.one_Bd 31
  have b5 := b2.add o (by omega)
  have b6 := b5.mul h.st (by omega)
  have p := Ieee.P2_pos (-10)
  have := h.st1
  exact ⟨b1.1, b2.1, b3.1, b4.1, b5.1, b6.1, l1, h.st.1, by grind, hv.1⟩

def dithE (s : Nat) : Int := if finE [s] ≠ 0 then finE [s] else stepC s
theorem stepC_zero {s : Nat} (hf : fin Ieee.single s) (h : stepC s = 0) : Ieee.P2 (-10) ≤ Ieee.single.V s ∧ Ieee.single.V s ≤ Ieee.P2 10 := by
  unfold stepC at h
  cases a1 : lss s 981467136 with
  | true => rw [a1, if_pos rfl] at h; omega
  | false =>
    rw [a1, if_neg (by decide)] at h
    cases a2 : gtr s 1149239296 with
    | true => rw [a2, if_pos rfl] at h; omega
    | false =>
      rw [lss_V hf const_m10.1, const_m10.2] at a1
      rw [gtr_V hf const_k10.1, const_k10.2] at a2
      have a1 := of_decide_eq_false a1
      have a2 := of_decide_eq_false a2
      exact ⟨by grind, by grind⟩
theorem stepC_cases (s : Nat) : stepC s = 0 ∨ stepC s = 3 := by
  unfold stepC
  split
  · exact .inr rfl
  · split
    · exact .inr rfl
    · exact .inl rfl
theorem dith_zero {s : Nat} (h : dithE s = 0) : TerOk s 0 := by
  unfold dithE at h
  by_cases hf : finE [s] = 0
  · rw [if_neg (by omega)] at h
    have f := finE_one hf
    obtain ⟨b1, b2⟩ := stepC_zero f h
    have p := Ieee.P2_pos (-10)
    have p2 := Ieee.P2_pos 10
    exact ⟨⟨f, by show -Ieee.P2 10 ≤ _; grind, by show _ ≤ Ieee.P2 10; exact b2⟩, b1, const_0.1, by rw [const_0.2.1]; grind, by rw [const_0.2.1]; decide⟩
  · rw [if_pos hf] at h; exact absurd h hf
theorem dithE_ht (s : Nat) : (if htE [s] ≠ 0 then htE [s] else stepC s) = dithE s := by
  unfold dithE
  by_cases hf : fin Ieee.single s
  · have f0 : finE [s] = 0 := Ieee.Format.finE_ok (by unfold allFin; simp [hf])
    rw [if_neg (show ¬ finE [s] ≠ 0 by omega)]
    by_cases ht : htE [s] = 0
    · rw [if_neg (by omega)]
    · rw [if_pos ht]
      have a1 : allFin [s] = true := by unfold allFin; simp [hf]
      have n1 : ¬ Ht s := fun hc => ht (Ieee.Format.htE_of_ht (Ieee.Format.allHt_iff.2 (by simpa using hc)))
      have h3 : htE [s] = 3 := Ieee.Format.htE_far a1 (by cases hh : allHt [s]; rfl; exact absurd (Ieee.Format.allHt_iff.1 hh s (by simp)) n1)
      rw [h3]
      rcases stepC_cases s with h | h
      · exfalso
        obtain ⟨b1, b2⟩ := stepC_zero hf h
        have m1 := Ieee.P2_mono (show (10 : Int) ≤ 20 by omega)
        have m2 := Ieee.P2_pos 20
        have m3 := Ieee.P2_pos (-10)
        exact n1 (Ieee.Format.Ht.of ⟨by grind, by grind⟩)
      · exact h.symm
  · have f0 : finE [s] = 2 := Ieee.Format.finE_bad (by unfold allFin; simp [hf])
    have h0 : htE [s] = 2 := Ieee.Format.htE_bad (by unfold allFin; simp [hf])
    rw [f0, h0]

/-- speckles -/
def spkF (p u : Nat) : Nat := if lss u p = true then 1065353216 else 0
theorem spkF_lt (p u : Nat) : spkF p u < 4294967296 := by unfold spkF; split <;> decide
theorem spkF_ht (p u : Nat) : Ht (spkF p u) := by
  have p := Ieee.P2_mono (show (0 : Int) ≤ 20 by omega)
  rw [Ieee.P2_zero] at p
  unfold spkF
  split
  · exact Ieee.Format.Ht.of ⟨by rw [const_1.2.1]; grind, by rw [const_1.2.1]; grind⟩
  · exact Ieee.Format.Ht.of ⟨by rw [const_0.2.1]; grind, by rw [const_0.2.1]; grind⟩
end Go.Proofs.Ytlpbofhmpfilnaa

namespace Go.Proofs.Ytlpbofhmpfilnaa
open Go.ChangeShapes Go.WideShapes Go.ChangeAt Go.RowKit
open Ieee.Format (fin finE htE allFin allHt all_true all_false mulF subF addF Ht Bd divF rootF floorF easeF mixF)
set_option linter.unusedVariables false
open Ieee.Format (const_0 const_1)

/-- the unit that a place draws -/
def hsF (seed x y n : Int) : Nat := Ieee.Format.unitF (hashTo seed x y n 3)
theorem unit_word (seed x y n : Int) (w : World) : Calls Try.prog 28 #[.int .u32 (hashTo seed x y n 3)] w fun e w' => e = .returned (.float .f32 (hsF seed x y n)) ∧ w = w' :=
  unit_any _ w (hash_bounds seed x y n).1 (hash_bounds seed x y n).2
theorem refunit_word (seed x y n : Int) (w : World) : Calls Try.prog 35 #[.int .u32 (hashTo seed x y n 3)] w fun e w' => e = .returned (.float .f32 (hsF seed x y n)) ∧ w = w' :=
  refunit_any _ w (hash_bounds seed x y n).1 (hash_bounds seed x y n).2

theorem checkstep_all (s : Nat) (w : World) (hl : s < 4294967296) : Calls Try.prog 23 #[.float .f32 s] w fun e w' => e = .returned (.int .i64 (dithE s)) ∧ Below w.heap.size w w' := by
  unfold dithE
  by_cases h : finE [s] = 0
  · rw [if_neg (by omega)]
    exact checkstep_any s w hl (finE_one h)
  · rw [if_pos h]
    have KF := Lib.hid (fun W g h => finites_one W g s hl h)
    generalize finE [s] = a at *
    have hb' : (a != 0) = true := by rw [bne_iff_ne]; exact h
    clear hl h
    go_enter Try.func23, Try.ntmps23
    go_wp2_with fail
    refine (KF.out _ _ (by simp [go_sem])).mono ?_
    rintro e w2 ⟨rfl, rfl⟩
    go_wp2_with fail
    go_ret
    exact ⟨rfl, (by repeat (first | with_reducible exact Below.refl _ _ | with_reducible apply Below.drew | with_reducible refine below_drewN ?_ _ | (with_reducible refine Below.setCell ?_ ?_ _; rotate_left; focus (first | omega | (simp <;> omega))) | (with_reducible refine Below.alloc ?_ ?_ _; rotate_left; focus (first | omega | (simp <;> omega)))))⟩

theorem Below.drewN_self (w : World) (n : Nat) : Below w.heap.size w (w.drewN n) := (by repeat (first | with_reducible exact Below.refl _ _ | with_reducible apply Below.drew | with_reducible refine below_drewN ?_ _ | (with_reducible refine Below.setCell ?_ ?_ _; rotate_left; focus (first | omega | (simp <;> omega))) | (with_reducible refine Below.alloc ?_ ?_ _; rotate_left; focus (first | omega | (simp <;> omega)))))

set_option maxRecDepth 100000 in
set_option maxHeartbeats 1000000 in
theorem dithfn_any (seed : Int) (s : Nat) (x y : Int) (p q b o c pa pb k : Nat) (X Y W1 H1 : Int) (l : List Nat) (w : World) (hst : CntSt w p q b o c X Y W1 H1 l k) (hv : Bd 20 (l.getD k 0)) (hT : TerOk s 0)
    (ha : Blk w pa #[.float .f32 s] 28) (hb : Blk w pb #[.int .u32 seed] 27) (pap : pa ≠ p) (pbp : pb ≠ p) :
    Calls Try.prog 26 #[.int .i64 x, .int .i64 y, .pointer (some ⟨p, 0, none⟩), .pointer (some ⟨q, 0, none⟩), .pointer (some ⟨pa, 0, none⟩), .pointer (some ⟨pb, 0, none⟩)] w fun e w' => e = .returned (.float .f32 (ditF s (l.getD k 0) (hsF seed x y 8))) ∧ But w.heap.size (fun j => j = p) w w' ∧ CntAt w' p (k : Int) := by
  generalize hv0 : l.getD k 0 = v at *
  have HV0 := Lib.hid hv0
  clear hv0
  have hd := dit_ok hT hv
  have KF := Lib.hid (fun w => floor_any (ter1 s v) hd.a1 hd.l1 w)
  change Hid (∀ w, Calls Try.prog 27 #[.float .f32 (ter1 s v)] w fun e w' => e = .returned (.float .f32 (ter2 s v)) ∧ w = w') at KF
  have KH := Lib.hid (fun w => hash1 seed x y 8 w)
  have KU := Lib.hid (fun w => unit_word seed x y 8 w)
  have k1 := fun w' => run_float_arith (P := Try.prog) w' .quo 28 .f32 v s (ter1 s v) (Ieee.Format.bits_div hd.v0 hd.s0 hd.s1)
  have k2 := fun w' => run_float_arith (P := Try.prog) w' .sub 28 .f32 (ter1 s v) (ter2 s v) (ter3 s v) (Ieee.Format.bits_sub hd.a1 hd.a2)
  have k3 := fun w' => run_float_arith (P := Try.prog) w' .add 28 .f32 (ter2 s v) 1065353216 (addF (ter2 s v) 1065353216) (Ieee.Format.bits_add hd.a2 const_1.1)
  have k4 := fun w' => run_float_arith (P := Try.prog) w' .mul 28 .f32 (addF (ter2 s v) 1065353216) s (mulF (addF (ter2 s v) 1065353216) s) (Ieee.Format.bits_mul hd.a5 hd.s0)
  have k5 := fun w' => run_float_arith (P := Try.prog) w' .mul 28 .f32 (ter2 s v) s (mulF (ter2 s v) s) (Ieee.Format.bits_mul hd.a2 hd.s0)
  clear hv hT hd
  unfold ditF
  cases hc : lss (hsF seed x y 8) (ter3 s v) with
  | true =>
    rw [if_pos rfl]
    change (FloatKind.f32.format.order (hsF seed x y 8) (ter3 s v) == some .lt) = true at hc
    generalize hashTo seed x y 8 3 = hh at *
    generalize mulF (addF (ter2 s v) 1065353216) s = z6 at *
    generalize addF (ter2 s v) 1065353216 = z5 at *
    generalize mulF (ter2 s v) s = z4 at *
    generalize ter3 s v = z3 at *
    generalize ter2 s v = z2 at *
    generalize ter1 s v = z1 at *
    generalize hsF seed x y 8 = u at *
    have h := hst
    clear hst
    have hkc := h.cnt
    obtain ⟨cc, hcc⟩ : ∃ cc : Int, cc = (k : Int) - 1 := ⟨_, rfl⟩
    rw [← hcc] at hkc
    have HCC : Hid (cc + 1 = (k : Int)) := by unfold Hid; omega
    have hk1 : -1 ≤ cc := by omega
    have hk2 : cc ≤ 1099511627776 := by have := h.row.1.1; have := h.kl; omega
    have hk4 : (k : Int) < l.length := by have := h.kl; omega
    have hk5 : l.length ≤ 1099511627776 := h.row.1.1
    clear hcc
    have c0 : w.cell? ⟨p, 0, none⟩ = some (.int .i64 cc) := hkc.cell 0
    have cf : w.frozen? ⟨p, 0, none⟩ = false := hkc.frozen 0
    have hp1 := hkc.lt
    go_enter Try.func26, Try.ntmps26
    go_wp2_with fail
    rw [HCC.out]
    have HB0 := Lib.hid (But.setq (B := w.heap.size) (q := fun j => j = p) (w := w) (p := ⟨p, 0, none⟩) (.int .i64 k) rfl)
    have HC2 := Lib.hid (CntAt.setc hkc (k : Int))
    have HF2 := Lib.hid (h.fo.but HB0.out h.fo.lt h.qp)
    have HR2 := Lib.hid (h.row.but HB0.out h.bl h.bp)
    have d4 := HF2.out.cells.2.2.2.2
    have dr := SRow.at_ HR2.out h.kl
    rw [HV0.out] at dr
    have da := blk_cell1 ha HB0.out pap
    have db := blk_cell1 hb HB0.out pbp
    have dp : (w.setCell ⟨p, 0, none⟩ (.int .i64 (k : Int))).cell? ⟨p, 0, none⟩ = some (.int .i64 (k : Int)) := HC2.out.cell 0
    have hz : w.heap.size ≤ (w.setCell ⟨p, 0, none⟩ (.int .i64 (k : Int))).heap.size := HB0.out.size
    have l1 := h.fo.lt
    have l2 := h.bl
    have l3 := ha.lt
    have l4 := hb.lt
    have hpl : Hid (p < (w.setCell ⟨p, 0, none⟩ (.int .i64 (k : Int))).heap.size) := HC2.out.lt
    have hpl2 := hpl.out
    clear h ha hb pap pbp c0 cf hkc hp1
    generalize w.setCell ⟨p, 0, none⟩ (.int .i64 (k : Int)) = W2 at *
    have hk6 : (0 : Int) ≤ k := by omega
    go_quiet (fail)
    have HBW := Lib.hid (Below.drewN_self W2 nq)
    have da2 : (W2.drewN nq).cell? ⟨pa, 0, none⟩ = some (.float .f32 s) := da
    have db2 : (W2.drewN nq).cell? ⟨pb, 0, none⟩ = some (.int .u32 seed) := db
    have l3 : pa < (W2.drewN nq).heap.size := by have := HBW.out.size; omega
    have l4 : pb < (W2.drewN nq).heap.size := by have := HBW.out.size; omega
    clear d4 dr da db dp
    generalize W2.drewN nq = W3 at *
    go_wp2_with fail
    refine (KF.out _).mono ?_
    rintro en wz ⟨rfl, rfl⟩
    go_wp2_with fail
    refine (KH.out _).mono ?_
    rintro en wz ⟨rfl, rfl⟩
    go_wp2_with fail
    refine (KU.out _).mono ?_
    rintro en wz ⟨rfl, rfl⟩
    go_wp2_with fail
    go_ret
    exact ⟨rfl, HB0.out.trans ((But.of HBW.out).mono hz), HC2.out.below HBW.out hpl.out⟩
  | false =>
    rw [if_neg (by decide)]
    change (FloatKind.f32.format.order (hsF seed x y 8) (ter3 s v) == some .lt) = false at hc
    generalize hashTo seed x y 8 3 = hh at *
    generalize mulF (addF (ter2 s v) 1065353216) s = z6 at *
    generalize addF (ter2 s v) 1065353216 = z5 at *
    generalize mulF (ter2 s v) s = z4 at *
    generalize ter3 s v = z3 at *
    generalize ter2 s v = z2 at *
    generalize ter1 s v = z1 at *
    generalize hsF seed x y 8 = u at *
    have h := hst
    clear hst
    have hkc := h.cnt
    obtain ⟨cc, hcc⟩ : ∃ cc : Int, cc = (k : Int) - 1 := ⟨_, rfl⟩
    rw [← hcc] at hkc
    have HCC : Hid (cc + 1 = (k : Int)) := by unfold Hid; omega
    have hk1 : -1 ≤ cc := by omega
    have hk2 : cc ≤ 1099511627776 := by have := h.row.1.1; have := h.kl; omega
    have hk4 : (k : Int) < l.length := by have := h.kl; omega
    have hk5 : l.length ≤ 1099511627776 := h.row.1.1
    clear hcc
    have c0 : w.cell? ⟨p, 0, none⟩ = some (.int .i64 cc) := hkc.cell 0
    have cf : w.frozen? ⟨p, 0, none⟩ = false := hkc.frozen 0
    have hp1 := hkc.lt
    go_enter Try.func26, Try.ntmps26
    go_wp2_with fail
    rw [HCC.out]
    have HB0 := Lib.hid (But.setq (B := w.heap.size) (q := fun j => j = p) (w := w) (p := ⟨p, 0, none⟩) (.int .i64 k) rfl)
    have HC2 := Lib.hid (CntAt.setc hkc (k : Int))
    have HF2 := Lib.hid (h.fo.but HB0.out h.fo.lt h.qp)
    have HR2 := Lib.hid (h.row.but HB0.out h.bl h.bp)
    have d4 := HF2.out.cells.2.2.2.2
    have dr := SRow.at_ HR2.out h.kl
    rw [HV0.out] at dr
    have da := blk_cell1 ha HB0.out pap
    have db := blk_cell1 hb HB0.out pbp
    have dp : (w.setCell ⟨p, 0, none⟩ (.int .i64 (k : Int))).cell? ⟨p, 0, none⟩ = some (.int .i64 (k : Int)) := HC2.out.cell 0
    have hz : w.heap.size ≤ (w.setCell ⟨p, 0, none⟩ (.int .i64 (k : Int))).heap.size := HB0.out.size
    have l1 := h.fo.lt
    have l2 := h.bl
    have l3 := ha.lt
    have l4 := hb.lt
    have hpl : Hid (p < (w.setCell ⟨p, 0, none⟩ (.int .i64 (k : Int))).heap.size) := HC2.out.lt
    have hpl2 := hpl.out
    clear h ha hb pap pbp c0 cf hkc hp1
    generalize w.setCell ⟨p, 0, none⟩ (.int .i64 (k : Int)) = W2 at *
    have hk6 : (0 : Int) ≤ k := by omega
    go_quiet (fail)
    have HBW := Lib.hid (Below.drewN_self W2 nq)
    have da2 : (W2.drewN nq).cell? ⟨pa, 0, none⟩ = some (.float .f32 s) := da
    have db2 : (W2.drewN nq).cell? ⟨pb, 0, none⟩ = some (.int .u32 seed) := db
    have l3 : pa < (W2.drewN nq).heap.size := by have := HBW.out.size; omega
    have l4 : pb < (W2.drewN nq).heap.size := by have := HBW.out.size; omega
    clear d4 dr da db dp
    generalize W2.drewN nq = W3 at *
    go_wp2_with fail
    refine (KF.out _).mono ?_
    rintro en wz ⟨rfl, rfl⟩
    go_wp2_with fail
    refine (KH.out _).mono ?_
    rintro en wz ⟨rfl, rfl⟩
    go_wp2_with fail
    refine (KU.out _).mono ?_
    rintro en wz ⟨rfl, rfl⟩
    go_wp2_with fail
    go_ret
    exact ⟨rfl, HB0.out.trans ((But.of HBW.out).mono hz), HC2.out.below HBW.out hpl.out⟩

set_option maxRecDepth 100000 in
set_option maxHeartbeats 1000000 in
theorem refdithfn_any (seed : Int) (s : Nat) (X Y : Int) (Wn Hn : Nat) (x y : Int) (b o c q pa pb : Nat) (l : List Nat) (w : World) (hl : SRow w (some ⟨b, o, none⟩) l) (hr : Right X Y Wn Hn l) (hx : X ≤ x) (hx' : x < X + Wn) (hy : Y ≤ y) (hy' : y < Y + Hn) (hT : TerOk s 0)
    (hq : Fld w q X Y Wn Hn (.slice (some ⟨b, o, none⟩) l.length c)) (ha : Blk w pa #[.float .f32 s] 28) (hb : Blk w pb #[.int .u32 seed] 27) :
    Calls Try.prog 31 #[.int .i64 x, .int .i64 y, .pointer (some ⟨q, 0, none⟩), .pointer (some ⟨pa, 0, none⟩), .pointer (some ⟨pb, 0, none⟩)] w fun e w' => e = .returned (.float .f32 (ditF s (l.getD (cellNo X Y Wn x y).toNat 0) (hsF seed x y 8))) ∧ Below w.heap.size w w' := by
  have KA := Lib.hid (fun w hl => at_right X Y Wn Hn x y b o c l w hl hr hx hx' hy hy')
  have hv := hr.bd (cellNo X Y Wn x y).toNat
  have HL := Lib.hid hl
  generalize l.getD (cellNo X Y Wn x y).toNat 0 = v at *
  have hd := dit_ok hT hv
  have KF := Lib.hid (fun w => reffloor_any (ter1 s v) hd.a1 hd.l1 w)
  change Hid (∀ w, Calls Try.prog 34 #[.float .f32 (ter1 s v)] w fun e w' => e = .returned (.float .f32 (ter2 s v)) ∧ w = w') at KF
  have KH := Lib.hid (fun w => hash2_bel seed x y 8 w)
  have KU := Lib.hid (fun w => refunit_word seed x y 8 w)
  have k1 := Lib.hid (fun w' => ref_div_ok v s w' hd.v0 hd.s0 hd.s1 hd.a1)
  have k2 := Lib.hid (fun w' => ref_sub_ok (ter1 s v) (ter2 s v) w' hd.a1 hd.a2 hd.a3)
  have k3 := Lib.hid (fun w' => ref_add_ok (ter2 s v) 1065353216 w' hd.a2 const_1.1 hd.a5)
  have k4 := Lib.hid (fun w' => ref_mul_ok (addF (ter2 s v) 1065353216) s w' hd.a5 hd.s0 hd.a6)
  have k5 := Lib.hid (fun w' => ref_mul_ok (ter2 s v) s w' hd.a2 hd.s0 hd.a4)
  change Hid (∀ w', Calls Try.prog 32 #[.float .f32 v, .float .f32 s] w' fun en w2 => en = .returned (.float .f32 (ter1 s v)) ∧ w' = w2) at k1
  change Hid (∀ w', Calls Try.prog 37 #[.float .f32 (ter1 s v), .float .f32 (ter2 s v)] w' fun en w2 => en = .returned (.float .f32 (ter3 s v)) ∧ w' = w2) at k2
  obtain ⟨c0, c1, c2, c3, c4⟩ := hq.cells
  have da : w.cell? ⟨pa, 0, none⟩ = some (.float .f32 s) := ha.cell 0
  have db : w.cell? ⟨pb, 0, none⟩ = some (.int .u32 seed) := hb.cell 0
  have l1 := hq.lt
  have l2 := ha.lt
  have l3 := hb.lt
  clear hl hr hx hx' hy hy' hT hq ha hb hv hd
  unfold ditF
  cases hc : lss (hsF seed x y 8) (ter3 s v) with
  | true =>
    rw [if_pos rfl]
    change (FloatKind.f32.format.order (hsF seed x y 8) (ter3 s v) == some .lt) = true at hc
    generalize hashTo seed x y 8 3 = hh at *
    generalize mulF (addF (ter2 s v) 1065353216) s = z6 at *
    generalize addF (ter2 s v) 1065353216 = z5 at *
    generalize mulF (ter2 s v) s = z4 at *
    generalize ter3 s v = z3 at *
    generalize ter2 s v = z2 at *
    generalize ter1 s v = z1 at *
    generalize hsF seed x y 8 = u at *
    go_enter Try.func31, Try.ntmps31
    go_wp2_with fail
    go_region_held3 (fun w' => w'.cell? ⟨q, 0, none⟩ = some (.int .i64 X) ∧ w'.cell? ⟨q, 1, none⟩ = some (.int .i64 Y) ∧ w'.cell? ⟨q, 2, none⟩ = some (.int .i64 Wn) ∧ w'.cell? ⟨q, 3, none⟩ = some (.int .i64 Hn) ∧ w'.cell? ⟨q, 4, none⟩ = some (.slice (some ⟨b, o, none⟩) l.length c) ∧ w'.cell? ⟨pa, 0, none⟩ = some (.float .f32 s) ∧ w'.cell? ⟨pb, 0, none⟩ = some (.int .u32 seed) ∧ Below w.heap.size w w')
      (first
        | exact ⟨c0, c1, c2, c3, c4, da, db, (Below.refl _ _).drew⟩
        | (go_split_ands
           have hs := hb.size
           have hs2 := (show Below w.heap.size w _ by assumption).size
           refine ⟨?_, ?_, ?_, ?_, ?_, ?_, ?_, ?_⟩
           all_goals first
             | (rw [hb.cell (by simp; omega)]; assumption)
             | exact Below.trans (by assumption) (hb.mono (by omega)))
        | (go_split_ands; refine ⟨?_, ?_, ?_, ?_, ?_, ?_, ?_, ?_⟩ <;> assumption))
      (first
        | (go_at_call 33; go_split_ands; refine (KA.out _ (HL.out.below (by assumption))).mono ?_; rintro e2 w2 ⟨rfl, hb⟩)
        | (go_at_call 32; go_split_ands; refine (k1.out _).mono ?_; rintro e2 w2 ⟨rfl, rfl⟩))
    rename_i hHeld
    clear hb
    obtain ⟨w3, rfl⟩ : ∃ w3 : World, w3 = w2 := ⟨_, rfl⟩
    obtain ⟨_, _, _, _, _, da3, db3, hB⟩ := hHeld
    have HB3 := Lib.hid hB
    have l8 : pa < w3.heap.size := by have := hB.size; omega
    have l9 : pb < w3.heap.size := by have := hB.size; omega
    clear c0 c1 c2 c3 c4 da db l1 l2 l3 hB
    go_wp2_with fail
    refine (KF.out _).mono ?_
    rintro en wz ⟨rfl, rfl⟩
    go_wp2_with fail
    refine (KH.out _).mono ?_
    rintro en w4 ⟨rfl, b4⟩
    have HB4 := Lib.hid (HB3.out.trans (b4.mono HB3.out.size))
    have da4 := (b4.cell (p := ⟨pa, 0, none⟩) (by simpa using l8)).trans da3
    have l8' : pa < w4.heap.size := Nat.lt_of_lt_of_le l8 b4.size
    clear b4 da3 db3 l8 l9
    go_wp2_with fail
    refine (KU.out _).mono ?_
    rintro en wz ⟨rfl, rfl⟩
    go_wp2_with fail
    refine (k2.out _).mono ?_
    rintro en wz ⟨rfl, rfl⟩
    go_wp2_with fail
    refine (k3.out _).mono ?_
    rintro en wz ⟨rfl, rfl⟩
    go_wp2_with fail
    refine (k4.out _).mono ?_
    rintro en wz ⟨rfl, rfl⟩
    go_wp2_with fail
    go_ret
    exact ⟨rfl, HB4.out⟩
  | false =>
    rw [if_neg (by decide)]
    change (FloatKind.f32.format.order (hsF seed x y 8) (ter3 s v) == some .lt) = false at hc
    generalize hashTo seed x y 8 3 = hh at *
    generalize mulF (addF (ter2 s v) 1065353216) s = z6 at *
    generalize addF (ter2 s v) 1065353216 = z5 at *
    generalize mulF (ter2 s v) s = z4 at *
    generalize ter3 s v = z3 at *
    generalize ter2 s v = z2 at *
    generalize ter1 s v = z1 at *
    generalize hsF seed x y 8 = u at *
    go_enter Try.func31, Try.ntmps31
    go_wp2_with fail
    go_region_held3 (fun w' => w'.cell? ⟨q, 0, none⟩ = some (.int .i64 X) ∧ w'.cell? ⟨q, 1, none⟩ = some (.int .i64 Y) ∧ w'.cell? ⟨q, 2, none⟩ = some (.int .i64 Wn) ∧ w'.cell? ⟨q, 3, none⟩ = some (.int .i64 Hn) ∧ w'.cell? ⟨q, 4, none⟩ = some (.slice (some ⟨b, o, none⟩) l.length c) ∧ w'.cell? ⟨pa, 0, none⟩ = some (.float .f32 s) ∧ w'.cell? ⟨pb, 0, none⟩ = some (.int .u32 seed) ∧ Below w.heap.size w w')
      (first
        | exact ⟨c0, c1, c2, c3, c4, da, db, (Below.refl _ _).drew⟩
        | (go_split_ands
           have hs := hb.size
           have hs2 := (show Below w.heap.size w _ by assumption).size
           refine ⟨?_, ?_, ?_, ?_, ?_, ?_, ?_, ?_⟩
           all_goals first
             | (rw [hb.cell (by simp; omega)]; assumption)
             | exact Below.trans (by assumption) (hb.mono (by omega)))
        | (go_split_ands; refine ⟨?_, ?_, ?_, ?_, ?_, ?_, ?_, ?_⟩ <;> assumption))
      (first
        | (go_at_call 33; go_split_ands; refine (KA.out _ (HL.out.below (by assumption))).mono ?_; rintro e2 w2 ⟨rfl, hb⟩)
        | (go_at_call 32; go_split_ands; refine (k1.out _).mono ?_; rintro e2 w2 ⟨rfl, rfl⟩))
    rename_i hHeld
    clear hb
    obtain ⟨w3, rfl⟩ : ∃ w3 : World, w3 = w2 := ⟨_, rfl⟩
    obtain ⟨_, _, _, _, _, da3, db3, hB⟩ := hHeld
    have HB3 := Lib.hid hB
    have l8 : pa < w3.heap.size := by have := hB.size; omega
    have l9 : pb < w3.heap.size := by have := hB.size; omega
    clear c0 c1 c2 c3 c4 da db l1 l2 l3 hB
    go_wp2_with fail
    refine (KF.out _).mono ?_
    rintro en wz ⟨rfl, rfl⟩
    go_wp2_with fail
    refine (KH.out _).mono ?_
    rintro en w4 ⟨rfl, b4⟩
    have HB4 := Lib.hid (HB3.out.trans (b4.mono HB3.out.size))
    have da4 := (b4.cell (p := ⟨pa, 0, none⟩) (by simpa using l8)).trans da3
    have l8' : pa < w4.heap.size := Nat.lt_of_lt_of_le l8 b4.size
    clear b4 da3 db3 l8 l9
    go_wp2_with fail
    refine (KU.out _).mono ?_
    rintro en wz ⟨rfl, rfl⟩
    go_wp2_with fail
    refine (k2.out _).mono ?_
    rintro en wz ⟨rfl, rfl⟩
    go_wp2_with fail
    refine (k5.out _).mono ?_
    rintro en wz ⟨rfl, rfl⟩
    go_wp2_with fail
    go_ret
    exact ⟨rfl, HB4.out⟩
end Go.Proofs.Ytlpbofhmpfilnaa

namespace Go.Proofs.Ytlpbofhmpfilnaa
open Go.ChangeShapes Go.WideShapes Go.ChangeAt Go.RowKit
open Ieee.Format (fin finE htE allFin allHt all_true all_false mulF subF addF Ht Bd divF rootF floorF easeF mixF)
set_option linter.unusedVariables false

/-- what Dither gives of each cell -/
def ditA (seed : Int) (s : Nat) (x y : Int) (v : Nat) : Nat := ditF s v (hsF seed x y 8)
theorem box_fd (w : World) (X Y W H : Int) (v : Value) (c1 : Array Value) (t1 : TypeId) (c2 : Array Value) (t2 : TypeId) : ∀ W0, W0 = (((w.alloc (.cells #[.int .i64 X, .int .i64 Y, .int .i64 W, .int .i64 H, v] 26)).alloc (.cells c1 t1)).alloc (.cells c2 t2)).alloc (.cells #[.int .i64 0, .int .i64 0, .int .i64 0, .int .i64 0, .slice none 0 0] 26) →
    Fld W0 w.heap.size X Y W H v ∧ Blk W0 (w.heap.size + 1) c1 t1 ∧ Blk W0 (w.heap.size + 1 + 1) c2 t2 ∧ Fld W0 (w.heap.size + 1 + 1 + 1) 0 0 0 0 (.slice none 0 0) ∧ Below w.heap.size w W0 := by
  rintro _ rfl
  refine ⟨(((Fld.new w X Y W H v).alloc _).alloc _).alloc _, ?_, ?_, ?_, (by repeat (first | with_reducible exact Below.refl _ _ | with_reducible apply Below.drew | with_reducible refine below_drewN ?_ _ | (with_reducible refine Below.setCell ?_ ?_ _; rotate_left; focus (first | omega | (simp <;> omega))) | (with_reducible refine Below.alloc ?_ ?_ _; rotate_left; focus (first | omega | (simp <;> omega)))))⟩
  · have := ((Blk.new (w.alloc (.cells #[.int .i64 X, .int .i64 Y, .int .i64 W, .int .i64 H, v] 26)) c1 t1).alloc (.cells c2 t2)).alloc (.cells #[.int .i64 0, .int .i64 0, .int .i64 0, .int .i64 0, .slice none 0 0] 26)
    simpa using this
  · have := (Blk.new ((w.alloc (.cells #[.int .i64 X, .int .i64 Y, .int .i64 W, .int .i64 H, v] 26)).alloc (.cells c1 t1)) c2 t2).alloc (.cells #[.int .i64 0, .int .i64 0, .int .i64 0, .int .i64 0, .slice none 0 0] 26)
    simpa using this
  · have := Fld.new (((w.alloc (.cells #[.int .i64 X, .int .i64 Y, .int .i64 W, .int .i64 H, v] 26)).alloc (.cells c1 t1)).alloc (.cells c2 t2)) 0 0 0 0 (.slice none 0 0)
    simpa using this

set_option maxRecDepth 100000 in
theorem dither_bad (X Y : Int) (Wn Hn : Nat) (b o c : Nat) (l : List Nat) (seed : Int) (s : Nat) (w : World) (hl : SRow w (some ⟨b, o, none⟩) l) (hr : Right X Y Wn Hn l) (hs : s < 4294967296) (hz : dithE s ≠ 0) :
    Calls Try.prog 7 #[fldV X Y Wn Hn (some ⟨b, o, none⟩) l.length c, .int .u32 seed, .float .f32 s] w fun e w' => e = .returned (.tuple #[fldV 0 0 0 0 none 0 0, .int .i64 (dithE s)]) ∧ Below w.heap.size w w' := by
  have K := Lib.hid (fun w h => check_field X Y Wn Hn (some ⟨b, o, none⟩) c l w h)
  rw [hr.chk] at K
  have HL := Lib.hid hl
  have KC := Lib.hid (fun w => checkstep_all s w hs)
  clear hl hr hs
  generalize dithE s = a at *
  have hb' : (a != 0) = true := by rw [bne_iff_ne]; exact hz
  clear hz
  go_enter Try.func7, Try.ntmps7
  go_wp2_with fail
  generalize hW0 : (((w.alloc (.cells #[.int .i64 X, .int .i64 Y, .int .i64 Wn, .int .i64 Hn, .slice (some ⟨b, o, none⟩) l.length c] 26)).alloc (.cells #[.int .u32 seed] 27)).alloc (.cells #[.float .f32 s] 28)).alloc (.cells #[.int .i64 0, .int .i64 0, .int .i64 0, .int .i64 0, .slice none 0 0] 26) = W0 at *
  obtain ⟨E0, P0, Q0, F0, B0⟩ := box_fd w X Y Wn Hn (.slice (some ⟨b, o, none⟩) l.length c) #[.int .u32 seed] 27 #[.float .f32 s] 28 W0 hW0.symm
  clear hW0
  refine (K.out _ (HL.out.below B0)).mono ?_
  rintro e w1 ⟨rfl, b1⟩
  have HE1 := Lib.hid (E0.below b1 E0.lt)
  have HP1 := Lib.hid (P0.below b1 P0.lt)
  have HQ1 := Lib.hid (Q0.below b1 Q0.lt)
  have HF1 := Lib.hid (F0.below b1 F0.lt)
  have HL1 := Lib.hid ((HL.out.below B0).below b1)
  have HB1 := Lib.hid (B0.trans (b1.mono B0.size))
  clear b1 B0 F0 E0 P0 Q0 K HL
  have p1 : w1.cell? ⟨w.heap.size + 1 + 1, 0, none⟩ = some (.float .f32 s) := HQ1.out.cell 0
  have l3 : w.heap.size + 1 + 1 + 1 < w1.heap.size := HF1.out.lt
  have l2 : w.heap.size + 1 + 1 < w1.heap.size := by omega
  go_wp2_with fail
  refine (KC.out _).mono ?_
  rintro e w2 ⟨rfl, b2⟩
  have HE2 := Lib.hid (HE1.out.below b2 HE1.out.lt)
  have HP2 := Lib.hid (HP1.out.below b2 HP1.out.lt)
  have HQ2 := Lib.hid (HQ1.out.below b2 HQ1.out.lt)
  have HF2 := Lib.hid (HF1.out.below b2 HF1.out.lt)
  have HL2 := Lib.hid (HL1.out.below b2)
  have HB2 := Lib.hid (HB1.out.trans (b2.mono HB1.out.size))
  clear b2 p1 l3 l2 HE1 HP1 HQ1 HF1 HL1 HB1
  obtain ⟨d0, d1, d2, d3, d4⟩ := HF2.out.cells
  have qf0 := HF2.out.frozen 0
  have qf1 := HF2.out.frozen 1
  have qf2 := HF2.out.frozen 2
  have qf3 := HF2.out.frozen 3
  have qf4 := HF2.out.frozen 4
  have lz := HF2.out.lt
  go_wp2_with fail
  have B3 := HB2.out
  exact bodyPost_ret (v := .tuple #[fldV 0 0 0 0 none 0 0, .int .i64 a]) (by simp [results, Try.results7, go_sem, *]) rfl ⟨rfl, (by have hszz := B3.size; repeat (first | with_reducible exact B3 | with_reducible apply Below.drew | with_reducible refine below_drewN ?_ _ | (with_reducible refine Below.setCell ?_ ?_ _; rotate_left; focus (first | omega | (simp <;> omega))) | (with_reducible refine Below.alloc ?_ ?_ _; rotate_left; focus (first | omega | (simp <;> omega)))))⟩

set_option maxRecDepth 100000 in
set_option maxHeartbeats 1000000 in
theorem dither_ok (X Y : Int) (Wn Hn : Nat) (b o c : Nat) (l : List Nat) (seed : Int) (s : Nat) (w : World) (hl : SRow w (some ⟨b, o, none⟩) l) (hr : Right X Y Wn Hn l) (hs : s < 4294967296) (hz : dithE s = 0) :
    Calls Try.prog 7 #[fldV X Y Wn Hn (some ⟨b, o, none⟩) l.length c, .int .u32 seed, .float .f32 s] w fun e w' => OpP (resC (addL (ditA seed s) X Y Wn Hn l)) X Y Wn Hn (addL (ditA seed s) X Y Wn Hn l) w e w' := by
  have K := Lib.hid (fun w h => check_field X Y Wn Hn (some ⟨b, o, none⟩) c l w h)
  rw [hr.chk] at K
  have HL := Lib.hid hl
  have KC := Lib.hid (fun w => checkstep_all s w hs)
  rw [hz] at KC
  have hT := dith_zero hz
  have HBL : Hid (b < w.heap.size) := SRow.blt hl hr.pos
  have g1 := hr.w1; have g2 := hr.w2; have g3 := hr.h1; have g4 := hr.h2; have g5 := hr.x1; have g6 := hr.x2; have g7 := hr.y1; have g8 := hr.y2
  have KM := Lib.hid (fun p q pa pb w1 (hl1 : SRow w1 (some ⟨b, o, none⟩) l) (hq : Fld w1 q X Y Wn Hn (.slice (some ⟨b, o, none⟩) l.length c)) (ha : Blk w1 pa #[.float .f32 s] 28) (hb : Blk w1 pb #[.int .u32 seed] 27) (hp : CntAt w1 p (-1)) (qp : q ≠ p) (bp : b ≠ p) (pap : pa ≠ p) (pbp : pb ≠ p) =>
    make_cnt 26 #[.pointer (some ⟨p, 0, none⟩), .pointer (some ⟨q, 0, none⟩), .pointer (some ⟨pa, 0, none⟩), .pointer (some ⟨pb, 0, none⟩)] p (fun x y => ditA seed s x y (l.getD (cellNo X Y Wn x y).toNat 0)) X Y Wn Hn w1 (by omega) (by omega) (by omega) (by omega) (by omega) (by omega) (by omega) (by omega)
      (enters_of Try.func26 (by kernel_rfl) rfl) hp (fun x y => ditF_lt _ _ _)
      (fun i j k hi hj hk W' hb' hcnt => by
        have hpl := hp.lt
        have hpl' := hcnt.lt
        have e := cell_ij (X := X) (Y := Y) hk
        have hkl : k < l.length := by rw [hr.len]; exact cell_lt hi hj hk
        show Calls Try.prog _ _ W' fun e w' => e = .returned (.float .f32 (ditA seed s (X + (i : Int)) (Y + (j : Int)) (l.getD (cellNo X Y Wn (X + (i : Int)) (Y + (j : Int))).toNat 0))) ∧ _
        rw [e]
        exact dithfn_any seed s (X + (i : Int)) (Y + (j : Int)) p q b o c pa pb k X Y Wn Hn l W' ⟨hcnt, hq.but hb' hq.lt qp, SRow.but hl1 hb' (SRow.blt hl1 hr.pos) bp, qp, bp, hkl, by have := hb'.size; have := SRow.blt hl1 hr.pos; omega⟩ (hr.bd k) hT (ha.but hb' ha.lt pap) (hb.but hb' hb.lt pbp) pap pbp))
  have KR := Lib.hid (fun X1 Y1 W1 H1 g cap B w ho => result_any X1 Y1 W1 H1 g cap B (addL (ditA seed s) X Y Wn Hn l) w ho (addL_small (ditA seed s) hr))
  change Hid (∀ p q pa pb w1 (hl1 : SRow w1 (some ⟨b, o, none⟩) l) (hq : Fld w1 q X Y Wn Hn (.slice (some ⟨b, o, none⟩) l.length c)) (ha : Blk w1 pa #[.float .f32 s] 28) (hb : Blk w1 pb #[.int .u32 seed] 27) (hp : CntAt w1 p (-1)) (qp : q ≠ p) (bp : b ≠ p) (pap : pa ≠ p) (pbp : pb ≠ p),
    Calls Try.prog 25 #[reg X Y Wn Hn, .func (.func 26) #[] #[.pointer (some ⟨p, 0, none⟩), .pointer (some ⟨q, 0, none⟩), .pointer (some ⟨pa, 0, none⟩), .pointer (some ⟨pb, 0, none⟩)]] w1 fun e w' => MakeCP p X Y Wn Hn (addL (ditA seed s) X Y Wn Hn l) w1 e w') at KM
  clear hl hr hs hz hT g1 g2 g3 g4 g5 g6 g7 g8
  generalize addL (ditA seed s) X Y Wn Hn l = S at *
  generalize resC S = C at *
  go_enter Try.func7, Try.ntmps7
  go_wp2_with fail
  generalize hW0 : (((w.alloc (.cells #[.int .i64 X, .int .i64 Y, .int .i64 Wn, .int .i64 Hn, .slice (some ⟨b, o, none⟩) l.length c] 26)).alloc (.cells #[.int .u32 seed] 27)).alloc (.cells #[.float .f32 s] 28)).alloc (.cells #[.int .i64 0, .int .i64 0, .int .i64 0, .int .i64 0, .slice none 0 0] 26) = W0 at *
  obtain ⟨E0, P0, Q0, F0, B0⟩ := box_fd w X Y Wn Hn (.slice (some ⟨b, o, none⟩) l.length c) #[.int .u32 seed] 27 #[.float .f32 s] 28 W0 hW0.symm
  clear hW0
  refine (K.out _ (HL.out.below B0)).mono ?_
  rintro e w1 ⟨rfl, b1⟩
  have HE1 := Lib.hid (E0.below b1 E0.lt)
  have HP1 := Lib.hid (P0.below b1 P0.lt)
  have HQ1 := Lib.hid (Q0.below b1 Q0.lt)
  have HF1 := Lib.hid (F0.below b1 F0.lt)
  have HL1 := Lib.hid ((HL.out.below B0).below b1)
  have HB1 := Lib.hid (B0.trans (b1.mono B0.size))
  clear b1 B0 F0 E0 P0 Q0 K HL
  have p1 : w1.cell? ⟨w.heap.size + 1 + 1, 0, none⟩ = some (.float .f32 s) := HQ1.out.cell 0
  have l3 : w.heap.size + 1 + 1 + 1 < w1.heap.size := HF1.out.lt
  have l2 : w.heap.size + 1 + 1 < w1.heap.size := by omega
  go_wp2_with fail
  refine (KC.out _).mono ?_
  rintro e w2 ⟨rfl, b2⟩
  have HE2 := Lib.hid (HE1.out.below b2 HE1.out.lt)
  have HP2 := Lib.hid (HP1.out.below b2 HP1.out.lt)
  have HQ2 := Lib.hid (HQ1.out.below b2 HQ1.out.lt)
  have HF2 := Lib.hid (HF1.out.below b2 HF1.out.lt)
  have HL2 := Lib.hid (HL1.out.below b2)
  have HB2 := Lib.hid (HB1.out.trans (b2.mono HB1.out.size))
  clear b2 p1 l3 l2 HE1 HP1 HQ1 HF1 HL1 HB1
  have l3 : w.heap.size + 1 + 1 + 1 < w2.heap.size := HF2.out.lt
  obtain ⟨c0, c1, c2, c3, c4⟩ := HE2.out.cells
  have l0 := HE2.out.lt
  go_wp2_with fail
  generalize hW3 : w2.alloc (.cells #[.int .i64 (-1)] 3) = W3 at *
  obtain ⟨n3, B3, z3⟩ := cnt_world1 w2 W3 hW3.symm
  clear hW3
  have HE3 := Lib.hid (HE2.out.below B3 HE2.out.lt)
  have HP3 := Lib.hid (HP2.out.below B3 HP2.out.lt)
  have HQ3 := Lib.hid (HQ2.out.below B3 HQ2.out.lt)
  have HF3 := Lib.hid (HF2.out.below B3 HF2.out.lt)
  have HL3 := Lib.hid (HL2.out.below B3)
  have HB3 := Lib.hid (HB2.out.trans (B3.mono HB2.out.size))
  refine (KM.out _ _ _ _ _ HL3.out HE3.out HQ3.out HP3.out n3 (by omega) (by have := HBL.out; omega) (by omega) (by omega)).mono ?_
  rintro e w4 ⟨⟨g, cap, rfl, ho⟩, b4⟩
  have HF4 := Lib.hid (HF3.out.below b4 (by omega))
  have HB4 := Lib.hid (HB3.out.trans (b4.mono (by omega)))
  have HO4 := Lib.hid ho
  have HZ3 : Hid (w.heap.size + 1 + 1 + 1 < W3.heap.size) := HF3.out.lt
  clear ho b4 KM HE3 HP3 HQ3 HL3 HB3 B3 n3 z3 HF3 HE2 HP2 HQ2 HF2 HL2 HB2 c0 c1 c2 c3 c4 l0 l3
  go_wp2_with fail
  refine (KR.out _ _ _ _ _ _ _ _ HO4.out).mono ?_
  rintro e w7 ⟨⟨x, y, p, q, a, m, k, rfl, o7⟩, b7⟩
  have HOZ := Lib.hid o7
  have HFZ := Lib.hid (HF4.out.below b7 HF4.out.lt)
  have HBZ := Lib.hid (HB4.out.trans (b7.mono HB4.out.size))
  have HZB : Hid (w.heap.size + 1 + 1 + 1 < W3.heap.size) := HZ3.out
  have HBB : Hid (w.heap.size ≤ W3.heap.size) := by have := HZB.out; unfold Hid; omega
  clear o7 b7 KR HO4 HF4 HB4
  obtain ⟨d0, d1, d2, d3, d4⟩ := HFZ.out.cells
  have qf0 := HFZ.out.frozen 0
  have qf1 := HFZ.out.frozen 1
  have qf2 := HFZ.out.frozen 2
  have qf3 := HFZ.out.frozen 3
  have qf4 := HFZ.out.frozen 4
  have lz := HFZ.out.lt
  go_wp2_with fail
  generalize hW5 : ((((w7.setCell ⟨w.heap.size + 1 + 1 + 1, 0, none⟩ (.int .i64 x)).setCell ⟨w.heap.size + 1 + 1 + 1, 1, none⟩ (.int .i64 y)).setCell ⟨w.heap.size + 1 + 1 + 1, 2, none⟩ (.int .i64 p)).setCell ⟨w.heap.size + 1 + 1 + 1, 3, none⟩ (.int .i64 q)).setCell ⟨w.heap.size + 1 + 1 + 1, 4, none⟩ (.slice a m k) = W5 at *
  obtain ⟨f5, bb5, oo5, _, z5⟩ := fld_store w7 (w.heap.size + 1 + 1 + 1) 0 0 0 0 _ x y p q (.slice a m k) HFZ.out W5 hW5.symm
  have hO5 := (HOZ.out.set oo5 HZB.out).base HBB.out
  have hB5 := HBZ.out.trans (bb5.mono (by omega))
  clear d0 d1 d2 d3 d4 qf0 qf1 qf2 qf3 qf4 hW5 oo5
  obtain ⟨d0, d1, d2, d3, d4⟩ := f5.cells
  exact bodyPost_ret (v := .tuple #[fldV x y p q a m k, .int .i64 C]) (by simp [results, Try.results7, go_sem, *]) rfl ⟨⟨x, y, p, q, a, m, k, rfl, hO5⟩, hB5⟩
end Go.Proofs.Ytlpbofhmpfilnaa

namespace Go.Proofs.Ytlpbofhmpfilnaa
open Go.ChangeShapes Go.WideShapes Go.ChangeAt Go.RowKit
open Ieee.Format (fin finE htE allFin allHt all_true all_false mulF subF addF Ht Bd divF rootF floorF easeF mixF)
set_option linter.unusedVariables false

theorem box_fd1 (w : World) (X Y W H : Int) (v : Value) (c1 : Array Value) (t1 : TypeId) (c2 : Array Value) (t2 : TypeId) (o : Obj) : ∀ W0, W0 = ((((w.alloc (.cells #[.int .i64 X, .int .i64 Y, .int .i64 W, .int .i64 H, v] 26)).alloc (.cells c1 t1)).alloc (.cells c2 t2)).alloc (.cells #[.int .i64 0, .int .i64 0, .int .i64 0, .int .i64 0, .slice none 0 0] 26)).alloc o →
    Fld W0 w.heap.size X Y W H v ∧ Blk W0 (w.heap.size + 1) c1 t1 ∧ Blk W0 (w.heap.size + 1 + 1) c2 t2 ∧ Fld W0 (w.heap.size + 1 + 1 + 1) 0 0 0 0 (.slice none 0 0) ∧ Below w.heap.size w W0 ∧ W0.heap.size = w.heap.size + 1 + 1 + 1 + 1 + 1 := by
  rintro _ rfl
  obtain ⟨a1, a2, a3, a4, a5⟩ := box_fd w X Y W H v c1 t1 c2 t2 _ rfl
  exact ⟨a1.alloc _, a2.alloc _, a3.alloc _, a4.alloc _, (by repeat (first | with_reducible exact Below.refl _ _ | with_reducible apply Below.drew | with_reducible refine below_drewN ?_ _ | (with_reducible refine Below.setCell ?_ ?_ _; rotate_left; focus (first | omega | (simp <;> omega))) | (with_reducible refine Below.alloc ?_ ?_ _; rotate_left; focus (first | omega | (simp <;> omega))))), by simp⟩

/-- the reference's answer to a step -/
theorem dith_code {s : Nat} (h : htE [s] = 0) : dithE s = stepC s := by
  have := dithE_ht s
  rw [if_neg (by omega)] at this
  exact this.symm
set_option maxRecDepth 100000 in
theorem refdither_bad (X Y : Int) (Wn Hn : Nat) (b o c : Nat) (l : List Nat) (seed : Int) (s : Nat) (w : World) (hl : SRow w (some ⟨b, o, none⟩) l) (hs : s < 4294967296) (hz : dithE s ≠ 0) :
    Calls Try.prog 8 #[fldV X Y Wn Hn (some ⟨b, o, none⟩) l.length c, .int .u32 seed, .float .f32 s] w fun e w' => e = .returned (.tuple #[fldV 0 0 0 0 none 0 0, .int .i64 (dithE s)]) ∧ Below w.heap.size w w' := by
  have HL := Lib.hid hl
  have KH := Lib.hid (fun W g h => refheight_one W g s hs h)
  by_cases h0 : htE [s] = 0
  · rw [h0] at KH
    rw [dith_code h0] at hz ⊢
    unfold stepC at hz ⊢
    clear hl hs h0
    cases h1 : lss s 981467136 with
    | true =>
      rw [if_pos rfl]
      clear hz
      change (FloatKind.f32.format.order s 981467136 == some .lt) = true at h1
      go_enter Try.func8, Try.ntmps8
      go_wp2_with fail
      generalize hW0 : ((((w.alloc (.cells #[.int .i64 X, .int .i64 Y, .int .i64 Wn, .int .i64 Hn, .slice (some ⟨b, o, none⟩) l.length c] 26)).alloc (.cells #[.int .u32 seed] 27)).alloc (.cells #[.float .f32 s] 28)).alloc (.cells #[.int .i64 0, .int .i64 0, .int .i64 0, .int .i64 0, .slice none 0 0] 26)).alloc (.cells #[.float .f32 s] 28) = W0 at *
      obtain ⟨E0, P0, Q0, F0, B0, n0⟩ := box_fd1 w X Y Wn Hn (.slice (some ⟨b, o, none⟩) l.length c) #[.int .u32 seed] 27 #[.float .f32 s] 28 (.cells #[.float .f32 s] 28) W0 hW0.symm
      have hN : W0.cell? ⟨w.heap.size + 1 + 1 + 1 + 1, 0, none⟩ = some (.float .f32 s) := by subst hW0; simp [go_sem]
      clear hW0
      refine (KH.out _ _ hN).mono ?_
      rintro e w2 ⟨rfl, rfl⟩
      have HE2 := Lib.hid E0
      have HP2 := Lib.hid P0
      have HQ2 := Lib.hid Q0
      have HF2 := Lib.hid F0
      have HL2 := Lib.hid (HL.out.below B0)
      have HB2 := Lib.hid B0
      clear B0 F0 E0 P0 Q0 HL hN
      have p1 : W0.cell? ⟨w.heap.size + 1 + 1, 0, none⟩ = some (.float .f32 s) := HQ2.out.cell 0
      have l3 : w.heap.size + 1 + 1 + 1 < W0.heap.size := HF2.out.lt
      have l2 : w.heap.size + 1 + 1 < W0.heap.size := by omega
      obtain ⟨d0, d1, d2, d3, d4⟩ := HF2.out.cells
      have qf0 := HF2.out.frozen 0
      have qf1 := HF2.out.frozen 1
      have qf2 := HF2.out.frozen 2
      have qf3 := HF2.out.frozen 3
      have qf4 := HF2.out.frozen 4
      go_wp2_with fail
      have B3 := HB2.out
      exact bodyPost_ret (v := .tuple #[fldV 0 0 0 0 none 0 0, .int .i64 3]) (by simp [results, Try.results8, go_sem, *]) rfl ⟨rfl, (by have hszz := B3.size; repeat (first | with_reducible exact B3 | with_reducible apply Below.drew | with_reducible refine below_drewN ?_ _ | (with_reducible refine Below.setCell ?_ ?_ _; rotate_left; focus (first | omega | (simp <;> omega))) | (with_reducible refine Below.alloc ?_ ?_ _; rotate_left; focus (first | omega | (simp <;> omega)))))⟩
    | false =>
      rw [h1, if_neg (by decide)] at hz
      rw [if_neg (by decide)]
      change (FloatKind.f32.format.order s 981467136 == some .lt) = false at h1
      cases h2 : gtr s 1149239296 with
      | true =>
        rw [if_pos rfl]
        clear hz
        change (FloatKind.f32.format.order s 1149239296 == some .gt) = true at h2
        go_enter Try.func8, Try.ntmps8
        go_wp2_with fail
        generalize hW0 : ((((w.alloc (.cells #[.int .i64 X, .int .i64 Y, .int .i64 Wn, .int .i64 Hn, .slice (some ⟨b, o, none⟩) l.length c] 26)).alloc (.cells #[.int .u32 seed] 27)).alloc (.cells #[.float .f32 s] 28)).alloc (.cells #[.int .i64 0, .int .i64 0, .int .i64 0, .int .i64 0, .slice none 0 0] 26)).alloc (.cells #[.float .f32 s] 28) = W0 at *
        obtain ⟨E0, P0, Q0, F0, B0, n0⟩ := box_fd1 w X Y Wn Hn (.slice (some ⟨b, o, none⟩) l.length c) #[.int .u32 seed] 27 #[.float .f32 s] 28 (.cells #[.float .f32 s] 28) W0 hW0.symm
        have hN : W0.cell? ⟨w.heap.size + 1 + 1 + 1 + 1, 0, none⟩ = some (.float .f32 s) := by subst hW0; simp [go_sem]
        clear hW0
        refine (KH.out _ _ hN).mono ?_
        rintro e w2 ⟨rfl, rfl⟩
        have HE2 := Lib.hid E0
        have HP2 := Lib.hid P0
        have HQ2 := Lib.hid Q0
        have HF2 := Lib.hid F0
        have HL2 := Lib.hid (HL.out.below B0)
        have HB2 := Lib.hid B0
        clear B0 F0 E0 P0 Q0 HL hN
        have p1 : W0.cell? ⟨w.heap.size + 1 + 1, 0, none⟩ = some (.float .f32 s) := HQ2.out.cell 0
        have l3 : w.heap.size + 1 + 1 + 1 < W0.heap.size := HF2.out.lt
        have l2 : w.heap.size + 1 + 1 < W0.heap.size := by omega
        obtain ⟨d0, d1, d2, d3, d4⟩ := HF2.out.cells
        have qf0 := HF2.out.frozen 0
        have qf1 := HF2.out.frozen 1
        have qf2 := HF2.out.frozen 2
        have qf3 := HF2.out.frozen 3
        have qf4 := HF2.out.frozen 4
        go_wp2_with fail
        have B3 := HB2.out
        exact bodyPost_ret (v := .tuple #[fldV 0 0 0 0 none 0 0, .int .i64 3]) (by simp [results, Try.results8, go_sem, *]) rfl ⟨rfl, (by have hszz := B3.size; repeat (first | with_reducible exact B3 | with_reducible apply Below.drew | with_reducible refine below_drewN ?_ _ | (with_reducible refine Below.setCell ?_ ?_ _; rotate_left; focus (first | omega | (simp <;> omega))) | (with_reducible refine Below.alloc ?_ ?_ _; rotate_left; focus (first | omega | (simp <;> omega)))))⟩
      | false =>
        rw [h2, if_neg (by decide)] at hz
        exact absurd rfl hz
  · have e := dithE_ht s
    rw [if_pos h0] at e
    rw [← e]
    generalize htE [s] = a at *
    have hb' : (a != 0) = true := by rw [bne_iff_ne]; exact h0
    clear hl hs h0 hz e
    go_enter Try.func8, Try.ntmps8
    go_wp2_with fail
    generalize hW0 : ((((w.alloc (.cells #[.int .i64 X, .int .i64 Y, .int .i64 Wn, .int .i64 Hn, .slice (some ⟨b, o, none⟩) l.length c] 26)).alloc (.cells #[.int .u32 seed] 27)).alloc (.cells #[.float .f32 s] 28)).alloc (.cells #[.int .i64 0, .int .i64 0, .int .i64 0, .int .i64 0, .slice none 0 0] 26)).alloc (.cells #[.float .f32 s] 28) = W0 at *
    obtain ⟨E0, P0, Q0, F0, B0, n0⟩ := box_fd1 w X Y Wn Hn (.slice (some ⟨b, o, none⟩) l.length c) #[.int .u32 seed] 27 #[.float .f32 s] 28 (.cells #[.float .f32 s] 28) W0 hW0.symm
    have hN : W0.cell? ⟨w.heap.size + 1 + 1 + 1 + 1, 0, none⟩ = some (.float .f32 s) := by subst hW0; simp [go_sem]
    clear hW0
    refine (KH.out _ _ hN).mono ?_
    rintro e w2 ⟨rfl, rfl⟩
    have HE2 := Lib.hid E0
    have HP2 := Lib.hid P0
    have HQ2 := Lib.hid Q0
    have HF2 := Lib.hid F0
    have HL2 := Lib.hid (HL.out.below B0)
    have HB2 := Lib.hid B0
    clear B0 F0 E0 P0 Q0 HL hN
    have p1 : W0.cell? ⟨w.heap.size + 1 + 1, 0, none⟩ = some (.float .f32 s) := HQ2.out.cell 0
    have l3 : w.heap.size + 1 + 1 + 1 < W0.heap.size := HF2.out.lt
    have l2 : w.heap.size + 1 + 1 < W0.heap.size := by omega
    obtain ⟨d0, d1, d2, d3, d4⟩ := HF2.out.cells
    have qf0 := HF2.out.frozen 0
    have qf1 := HF2.out.frozen 1
    have qf2 := HF2.out.frozen 2
    have qf3 := HF2.out.frozen 3
    have qf4 := HF2.out.frozen 4
    go_wp2_with fail
    have B3 := HB2.out
    exact bodyPost_ret (v := .tuple #[fldV 0 0 0 0 none 0 0, .int .i64 a]) (by simp [results, Try.results8, go_sem, *]) rfl ⟨rfl, (by have hszz := B3.size; repeat (first | with_reducible exact B3 | with_reducible apply Below.drew | with_reducible refine below_drewN ?_ _ | (with_reducible refine Below.setCell ?_ ?_ _; rotate_left; focus (first | omega | (simp <;> omega))) | (with_reducible refine Below.alloc ?_ ?_ _; rotate_left; focus (first | omega | (simp <;> omega)))))⟩

set_option maxRecDepth 100000 in
set_option maxHeartbeats 1000000 in
theorem refdither_ok (X Y : Int) (Wn Hn : Nat) (b o c : Nat) (l : List Nat) (seed : Int) (s : Nat) (w : World) (hl : SRow w (some ⟨b, o, none⟩) l) (hr : Right X Y Wn Hn l) (hs : s < 4294967296) (hz : dithE s = 0) :
    Calls Try.prog 8 #[fldV X Y Wn Hn (some ⟨b, o, none⟩) l.length c, .int .u32 seed, .float .f32 s] w fun e w' => OpP (resC (addL (ditA seed s) X Y Wn Hn l)) X Y Wn Hn (addL (ditA seed s) X Y Wn Hn l) w e w' := by
  have HL := Lib.hid hl
  have hT := dith_zero hz
  have KH := Lib.hid (fun W g h => refheight_one W g s hs h)
  have hh : htE [s] = 0 := by
    apply Classical.byContradiction
    intro h0
    have e := dithE_ht s
    rw [if_pos h0, hz] at e
    exact h0 e
  rw [hh] at KH
  have hst := dith_code hh
  rw [hz] at hst
  have KA := Lib.hid (fun q pa pb w (hl : SRow w (some ⟨b, o, none⟩) l) (hq : Fld w q X Y Wn Hn (.slice (some ⟨b, o, none⟩) l.length c)) (ha : Blk w pa #[.float .f32 s] 28) (hb : Blk w pb #[.int .u32 seed] 27) => made_add 31 #[.pointer (some ⟨q, 0, none⟩), .pointer (some ⟨pa, 0, none⟩), .pointer (some ⟨pb, 0, none⟩)] (ditA seed s) X Y Wn Hn l w hr (enters_of Try.func31 (by kernel_rfl) rfl) (fun x y v => ditF_lt _ _ _)
    (fun x y h1 h2 h3 h4 W' hb' => refdithfn_any seed s X Y Wn Hn x y b o c q pa pb l W' (SRow.below hl hb') hr h1 h2 h3 h4 hT (hq.below hb' hq.lt) (ha.below hb' ha.lt) (hb.below hb' hb.lt)))
  clear hl hr hs hz hT hh
  generalize addL (ditA seed s) X Y Wn Hn l = S at *
  generalize resC S = C at *
  cases h1 : lss s 981467136 with
  | true => unfold stepC at hst; rw [h1, if_pos rfl] at hst; omega
  | false =>
    cases h2 : gtr s 1149239296 with
    | true => unfold stepC at hst; rw [h1, if_neg (by decide), h2, if_pos rfl] at hst; omega
    | false =>
      clear hst
      change (FloatKind.f32.format.order s 981467136 == some .lt) = false at h1
      change (FloatKind.f32.format.order s 1149239296 == some .gt) = false at h2
      go_enter Try.func8, Try.ntmps8
      go_wp2_with fail
      generalize hW0 : ((((w.alloc (.cells #[.int .i64 X, .int .i64 Y, .int .i64 Wn, .int .i64 Hn, .slice (some ⟨b, o, none⟩) l.length c] 26)).alloc (.cells #[.int .u32 seed] 27)).alloc (.cells #[.float .f32 s] 28)).alloc (.cells #[.int .i64 0, .int .i64 0, .int .i64 0, .int .i64 0, .slice none 0 0] 26)).alloc (.cells #[.float .f32 s] 28) = W0 at *
      obtain ⟨E0, P0, Q0, F0, B0, n0⟩ := box_fd1 w X Y Wn Hn (.slice (some ⟨b, o, none⟩) l.length c) #[.int .u32 seed] 27 #[.float .f32 s] 28 (.cells #[.float .f32 s] 28) W0 hW0.symm
      have hN : W0.cell? ⟨w.heap.size + 1 + 1 + 1 + 1, 0, none⟩ = some (.float .f32 s) := by subst hW0; simp [go_sem]
      clear hW0
      refine (KH.out _ _ hN).mono ?_
      rintro e w2 ⟨rfl, rfl⟩
      have HE2 := Lib.hid E0
      have HP2 := Lib.hid P0
      have HQ2 := Lib.hid Q0
      have HF2 := Lib.hid F0
      have HL2 := Lib.hid (HL.out.below B0)
      have HB2 := Lib.hid B0
      clear B0 F0 E0 P0 Q0 HL hN
      have p1 : W0.cell? ⟨w.heap.size + 1 + 1, 0, none⟩ = some (.float .f32 s) := HQ2.out.cell 0
      have l3 : w.heap.size + 1 + 1 + 1 < W0.heap.size := HF2.out.lt
      have l2 : w.heap.size + 1 + 1 < W0.heap.size := by omega
      obtain ⟨c0, c1, c2, c3, c4⟩ := HE2.out.cells
      have l0 := HE2.out.lt
      go_wp2_with fail
      refine (KA.out _ _ _ _ HL2.out HE2.out HQ2.out HP2.out).mono ?_
      rintro e w7 ⟨⟨x, y, p, q, a, m, k, rfl, o7⟩, b7⟩
      have HOZ := Lib.hid o7
      have HFZ := Lib.hid (HF2.out.below b7 HF2.out.lt)
      have HBZ := Lib.hid (HB2.out.trans (b7.mono HB2.out.size))
      have HZB : Hid (w.heap.size + 1 + 1 + 1 < W0.heap.size) := HF2.out.lt
      have HBB : Hid (w.heap.size ≤ W0.heap.size) := HB2.out.size
      clear o7 b7 KA HE2 HP2 HQ2 HF2 HL2 HB2 c0 c1 c2 c3 c4 l0 l2 l3 p1
      obtain ⟨d0, d1, d2, d3, d4⟩ := HFZ.out.cells
      have qf0 := HFZ.out.frozen 0
      have qf1 := HFZ.out.frozen 1
      have qf2 := HFZ.out.frozen 2
      have qf3 := HFZ.out.frozen 3
      have qf4 := HFZ.out.frozen 4
      have lz := HFZ.out.lt
      go_wp2_with fail
      generalize hW5 : ((((w7.setCell ⟨w.heap.size + 1 + 1 + 1, 0, none⟩ (.int .i64 x)).setCell ⟨w.heap.size + 1 + 1 + 1, 1, none⟩ (.int .i64 y)).setCell ⟨w.heap.size + 1 + 1 + 1, 2, none⟩ (.int .i64 p)).setCell ⟨w.heap.size + 1 + 1 + 1, 3, none⟩ (.int .i64 q)).setCell ⟨w.heap.size + 1 + 1 + 1, 4, none⟩ (.slice a m k) = W5 at *
      obtain ⟨f5, bb5, oo5, _, z5⟩ := fld_store w7 (w.heap.size + 1 + 1 + 1) 0 0 0 0 _ x y p q (.slice a m k) HFZ.out W5 hW5.symm
      have hO5 := (HOZ.out.set oo5 HZB.out).base HBB.out
      have hB5 := HBZ.out.trans (bb5.mono (by omega))
      clear d0 d1 d2 d3 d4 qf0 qf1 qf2 qf3 qf4 hW5 oo5
      obtain ⟨d0, d1, d2, d3, d4⟩ := f5.cells
      exact bodyPost_ret (v := .tuple #[fldV x y p q a m k, .int .i64 C]) (by simp [results, Try.results8, go_sem, *]) rfl ⟨⟨x, y, p, q, a, m, k, rfl, hO5⟩, hB5⟩

theorem dither_pair (seed : Int) (s : Nat) (hs : s < 4294967296) (X Y : Int) (Wn Hn : Nat) (b o c : Nat) (l : List Nat) (hr : Right X Y Wn Hn l) :
    ∃ (C X1 Y1 W1 H1 : Int) (S : List Nat), S.length ≤ 1099511627776 ∧
      (∀ w, SRow w (some ⟨b, o, none⟩) l → Calls Try.prog 7 #[fldV X Y Wn Hn (some ⟨b, o, none⟩) l.length c, .int .u32 seed, .float .f32 s] w fun e w' => OpP C X1 Y1 W1 H1 S w e w') ∧
      (∀ w, SRow w (some ⟨b, o, none⟩) l → Calls Try.prog 8 #[fldV X Y Wn Hn (some ⟨b, o, none⟩) l.length c, .int .u32 seed, .float .f32 s] w fun e w' => OpP C X1 Y1 W1 H1 S w e w') := by
  by_cases h : dithE s = 0
  · exact ⟨_, X, Y, Wn, Hn, _, addL_small (ditA seed s) hr, fun w hl => dither_ok X Y Wn Hn b o c l seed s w hl hr hs h, fun w hl => refdither_ok X Y Wn Hn b o c l seed s w hl hr hs h⟩
  · refine ⟨dithE s, 0, 0, 0, 0, [], by simp, fun w hl => ?_, fun w hl => ?_⟩
    · exact (dither_bad X Y Wn Hn b o c l seed s w hl hr hs h).mono fun e w' ⟨a1, a2⟩ => OpP.err h a1 a2
    · exact (refdither_bad X Y Wn Hn b o c l seed s w hl hs h).mono fun e w' ⟨a1, a2⟩ => OpP.err h a1 a2
end Go.Proofs.Ytlpbofhmpfilnaa

namespace Go.Proofs.Ytlpbofhmpfilnaa
open Go.ChangeShapes Go.WideShapes Go.ChangeAt Go.RowKit
open Ieee.Format (fin finE htE allFin allHt all_true all_false mulF subF addF Ht Bd divF rootF floorF easeF mixF)
set_option linter.unusedVariables false

theorem shareE_eq (t : Nat) : shareE2 t 1065353216 = shareE t := by
  unfold shareE2 shareE
  by_cases hf : fin Ieee.single t
  · rw [if_pos hf]
    by_cases ht : htE [t] = 0
    · rw [if_neg (by omega)]
      cases lss t 0 <;> cases gtr t 1065353216 <;> rfl
    · rw [if_pos ht]
      have a1 : allFin [t] = true := by unfold allFin; simp [hf]
      have n1 : ¬ Ht t := fun hc => ht (Ieee.Format.htE_of_ht (Ieee.Format.allHt_iff.2 (by simpa using hc)))
      have h3 : htE [t] = 3 := Ieee.Format.htE_far a1 (by cases hh : allHt [t]; rfl; exact absurd (Ieee.Format.allHt_iff.1 hh t (by simp)) n1)
      rw [h3]
      cases h : (lss t 0 || gtr t 1065353216) with
      | true => rfl
      | false =>
        exfalso
        obtain ⟨_, b1, b2⟩ := share_of hf h
        have p := Ieee.P2_mono (show (0 : Int) ≤ 20 by omega)
        rw [Ieee.P2_zero] at p
        exact n1 (Ieee.Format.Ht.of ⟨by grind, by grind⟩)
  · rw [if_neg hf]
    have h0 : htE [t] = 2 := Ieee.Format.htE_bad (by unfold allFin; simp [hf])
    rw [h0]; rfl

set_option maxRecDepth 100000 in
theorem specklefn_any (seed : Int) (p : Nat) (x y : Int) (pa pb : Nat) (w : World) (ha : Blk w pa #[.int .u32 seed] 27) (hb : Blk w pb #[.float .f32 p] 28) :
    Calls Try.prog 42 #[.int .i64 x, .int .i64 y, .pointer (some ⟨pa, 0, none⟩), .pointer (some ⟨pb, 0, none⟩)] w fun e w' => e = .returned (.float .f32 (spkF p (hsF seed x y 9))) ∧ Below w.heap.size w w' := by
  have KH := Lib.hid (fun w => hash1 seed x y 9 w)
  have KU := Lib.hid (fun w => unit_word seed x y 9 w)
  have da : w.cell? ⟨pa, 0, none⟩ = some (.int .u32 seed) := ha.cell 0
  have db : w.cell? ⟨pb, 0, none⟩ = some (.float .f32 p) := hb.cell 0
  have l2 := ha.lt
  have l3 := hb.lt
  clear ha hb
  unfold spkF
  cases hc : lss (hsF seed x y 9) p with
  | true =>
    rw [if_pos rfl]
    change (FloatKind.f32.format.order (hsF seed x y 9) p == some .lt) = true at hc
    generalize hashTo seed x y 9 3 = hh at *
    generalize hsF seed x y 9 = u at *
    go_enter Try.func42, Try.ntmps42
    go_wp2_with fail
    go_quiet ((first
      | (go_at_call 29; with_reducible exact Calls.quiet_of_same ((KH.out _).mono fun _ _ h => ⟨h.1, h.2.symm⟩))
      | (go_at_call 28; with_reducible exact Calls.quiet_of_same ((KU.out _).mono fun _ _ h => ⟨h.1, h.2.symm⟩))))
    go_wp2_with fail
    go_ret
    exact ⟨rfl, (by repeat (first | with_reducible exact Below.refl _ _ | with_reducible apply Below.drew | with_reducible refine below_drewN ?_ _ | (with_reducible refine Below.setCell ?_ ?_ _; rotate_left; focus (first | omega | (simp <;> omega))) | (with_reducible refine Below.alloc ?_ ?_ _; rotate_left; focus (first | omega | (simp <;> omega)))))⟩
  | false =>
    rw [if_neg (by decide)]
    change (FloatKind.f32.format.order (hsF seed x y 9) p == some .lt) = false at hc
    generalize hashTo seed x y 9 3 = hh at *
    generalize hsF seed x y 9 = u at *
    go_enter Try.func42, Try.ntmps42
    go_wp2_with fail
    go_quiet ((first
      | (go_at_call 29; with_reducible exact Calls.quiet_of_same ((KH.out _).mono fun _ _ h => ⟨h.1, h.2.symm⟩))
      | (go_at_call 28; with_reducible exact Calls.quiet_of_same ((KU.out _).mono fun _ _ h => ⟨h.1, h.2.symm⟩))))
    go_wp2_with fail
    go_ret
    exact ⟨rfl, (by repeat (first | with_reducible exact Below.refl _ _ | with_reducible apply Below.drew | with_reducible refine below_drewN ?_ _ | (with_reducible refine Below.setCell ?_ ?_ _; rotate_left; focus (first | omega | (simp <;> omega))) | (with_reducible refine Below.alloc ?_ ?_ _; rotate_left; focus (first | omega | (simp <;> omega)))))⟩

set_option maxRecDepth 100000 in
theorem refspecklefn_any (seed : Int) (p : Nat) (x y : Int) (pa pb : Nat) (w : World) (ha : Blk w pa #[.int .u32 seed] 27) (hb : Blk w pb #[.float .f32 p] 28) :
    Calls Try.prog 45 #[.int .i64 x, .int .i64 y, .pointer (some ⟨pa, 0, none⟩), .pointer (some ⟨pb, 0, none⟩)] w fun e w' => e = .returned (.float .f32 (spkF p (hsF seed x y 9))) ∧ Below w.heap.size w w' := by
  have KH := Lib.hid (fun w => hash2_bel seed x y 9 w)
  have KU := Lib.hid (fun w => refunit_word seed x y 9 w)
  have da : w.cell? ⟨pa, 0, none⟩ = some (.int .u32 seed) := ha.cell 0
  have db : w.cell? ⟨pb, 0, none⟩ = some (.float .f32 p) := hb.cell 0
  have l2 := ha.lt
  have l3 := hb.lt
  clear ha hb
  unfold spkF
  cases hc : lss (hsF seed x y 9) p with
  | true =>
    rw [if_pos rfl]
    change (FloatKind.f32.format.order (hsF seed x y 9) p == some .lt) = true at hc
    generalize hashTo seed x y 9 3 = hh at *
    generalize hsF seed x y 9 = u at *
    go_enter Try.func45, Try.ntmps45
    go_wp2_with fail
    go_region_held3 (fun w' => w'.cell? ⟨pa, 0, none⟩ = some (.int .u32 seed) ∧ w'.cell? ⟨pb, 0, none⟩ = some (.float .f32 p) ∧ Below w.heap.size w w')
      (first
        | exact ⟨da, db, (Below.refl _ _).drew⟩
        | (go_split_ands
           have hs := hb.size
           have hs2 := (show Below w.heap.size w _ by assumption).size
           refine ⟨?_, ?_, ?_⟩
           all_goals first
             | (rw [hb.cell (by simp; omega)]; assumption)
             | exact Below.trans (by assumption) (hb.mono (by omega)))
        | (go_split_ands; refine ⟨?_, ?_, ?_⟩ <;> assumption))
      (first
        | (go_at_call 36; go_split_ands; refine (KH.out _).mono ?_; rintro e2 w2 ⟨rfl, hb⟩)
        | (go_at_call 35; go_split_ands; refine (KU.out _).mono ?_; rintro e2 w2 ⟨rfl, rfl⟩))
    rename_i hHeld
    have HB := Lib.hid hHeld.2.2
    clear hHeld
    go_wp2_with fail
    go_ret
    exact ⟨rfl, HB.out⟩
  | false =>
    rw [if_neg (by decide)]
    change (FloatKind.f32.format.order (hsF seed x y 9) p == some .lt) = false at hc
    generalize hashTo seed x y 9 3 = hh at *
    generalize hsF seed x y 9 = u at *
    go_enter Try.func45, Try.ntmps45
    go_wp2_with fail
    go_region_held3 (fun w' => w'.cell? ⟨pa, 0, none⟩ = some (.int .u32 seed) ∧ w'.cell? ⟨pb, 0, none⟩ = some (.float .f32 p) ∧ Below w.heap.size w w')
      (first
        | exact ⟨da, db, (Below.refl _ _).drew⟩
        | (go_split_ands
           have hs := hb.size
           have hs2 := (show Below w.heap.size w _ by assumption).size
           refine ⟨?_, ?_, ?_⟩
           all_goals first
             | (rw [hb.cell (by simp; omega)]; assumption)
             | exact Below.trans (by assumption) (hb.mono (by omega)))
        | (go_split_ands; refine ⟨?_, ?_, ?_⟩ <;> assumption))
      (first
        | (go_at_call 36; go_split_ands; refine (KH.out _).mono ?_; rintro e2 w2 ⟨rfl, hb⟩)
        | (go_at_call 35; go_split_ands; refine (KU.out _).mono ?_; rintro e2 w2 ⟨rfl, rfl⟩))
    rename_i hHeld
    have HB := Lib.hid hHeld.2.2
    clear hHeld
    go_wp2_with fail
    go_ret
    exact ⟨rfl, HB.out⟩

/-- what Speckle makes -/
def spkL (seed : Int) (p : Nat) (X Y : Int) (Wn Hn : Nat) : List Nat := madeL (fun x y => spkF p (hsF seed x y 9)) X Y Wn (Hn * Wn)
theorem spk_res (seed : Int) (p : Nat) (X Y : Int) (Wn Hn : Nat) : resC (spkL seed p X Y Wn Hn) = 0 := by
  unfold resC
  rw [if_pos]
  refine Ieee.Format.allHt_iff.2 fun x hx => ?_
  unfold spkL madeL at hx
  obtain ⟨k, _, rfl⟩ := List.mem_map.1 hx
  exact spkF_ht _ _

theorem box_sp (w : World) (X Y W H : Int) (c1 : Array Value) (t1 : TypeId) (c2 : Array Value) (t2 : TypeId) : ∀ W0, W0 = (((w.alloc (.cells #[.int .i64 X, .int .i64 Y, .int .i64 W, .int .i64 H] 23)).alloc (.cells c1 t1)).alloc (.cells c2 t2)).alloc (.cells #[.int .i64 0, .int .i64 0, .int .i64 0, .int .i64 0, .slice none 0 0] 26) →
    Reg W0 w.heap.size X Y W H ∧ Blk W0 (w.heap.size + 1) c1 t1 ∧ Blk W0 (w.heap.size + 1 + 1) c2 t2 ∧ Fld W0 (w.heap.size + 1 + 1 + 1) 0 0 0 0 (.slice none 0 0) ∧ Below w.heap.size w W0 := by
  rintro _ rfl
  refine ⟨(((Reg.new w X Y W H).alloc _).alloc _).alloc _, ?_, ?_, ?_, (by repeat (first | with_reducible exact Below.refl _ _ | with_reducible apply Below.drew | with_reducible refine below_drewN ?_ _ | (with_reducible refine Below.setCell ?_ ?_ _; rotate_left; focus (first | omega | (simp <;> omega))) | (with_reducible refine Below.alloc ?_ ?_ _; rotate_left; focus (first | omega | (simp <;> omega)))))⟩
  · have := ((Blk.new (w.alloc (.cells #[.int .i64 X, .int .i64 Y, .int .i64 W, .int .i64 H] 23)) c1 t1).alloc (.cells c2 t2)).alloc (.cells #[.int .i64 0, .int .i64 0, .int .i64 0, .int .i64 0, .slice none 0 0] 26)
    simpa using this
  · have := (Blk.new ((w.alloc (.cells #[.int .i64 X, .int .i64 Y, .int .i64 W, .int .i64 H] 23)).alloc (.cells c1 t1)) c2 t2).alloc (.cells #[.int .i64 0, .int .i64 0, .int .i64 0, .int .i64 0, .slice none 0 0] 26)
    simpa using this
  · have := Fld.new (((w.alloc (.cells #[.int .i64 X, .int .i64 Y, .int .i64 W, .int .i64 H] 23)).alloc (.cells c1 t1)).alloc (.cells c2 t2)) 0 0 0 0 (.slice none 0 0)
    simpa using this

theorem chk_right {X Y : Int} {Wn Hn : Nat} {l : List Nat} (h : Right X Y Wn Hn l) : chk X Y Wn Hn = 0 := by
  have h1 := h.w1; have h2 := h.w2; have h3 := h.h1; have h4 := h.h2; have h5 := h.x1; have h6 := h.x2; have h7 := h.y1; have h8 := h.y2
  have h9 := h.wh
  have h9' : (Wn : Int) * (Hn : Int) ≤ 65536 := by rw [← Int.natCast_mul]; omega
  unfold chk
  rw [if_neg (by omega), if_neg (by omega), if_neg (by omega)]
set_option maxRecDepth 100000 in
theorem speckle_bad (X Y : Int) (Wn Hn : Nat) (l : List Nat) (seed : Int) (p : Nat) (w : World) (hr : Right X Y Wn Hn l) (hp : p < 4294967296) (hz : shareE p ≠ 0) :
    Calls Try.prog 10 #[reg X Y Wn Hn, .int .u32 seed, .float .f32 p] w fun e w' => e = .returned (.tuple #[fldV 0 0 0 0 none 0 0, .int .i64 (shareE p)]) ∧ Below w.heap.size w w' := by
  have K := Lib.hid (fun w => check1 X Y Wn Hn w)
  rw [chk_right hr] at K
  have KC := Lib.hid (fun w => share_any p hp w)
  clear hr hp
  generalize shareE p = a at *
  have hb' : (a != 0) = true := by rw [bne_iff_ne]; exact hz
  clear hz
  go_enter Try.func10, Try.ntmps10
  go_wp2_with fail
  generalize hW0 : (((w.alloc (.cells #[.int .i64 X, .int .i64 Y, .int .i64 Wn, .int .i64 Hn] 23)).alloc (.cells #[.int .u32 seed] 27)).alloc (.cells #[.float .f32 p] 28)).alloc (.cells #[.int .i64 0, .int .i64 0, .int .i64 0, .int .i64 0, .slice none 0 0] 26) = W0 at *
  obtain ⟨E0, P0, Q0, F0, B0⟩ := box_sp w X Y Wn Hn #[.int .u32 seed] 27 #[.float .f32 p] 28 W0 hW0.symm
  clear hW0
  refine (K.out _).mono ?_
  rintro e w1 ⟨rfl, b1⟩
  have HE1 := Lib.hid (E0.below b1 E0.lt)
  have HP1 := Lib.hid (P0.below b1 P0.lt)
  have HQ1 := Lib.hid (Q0.below b1 Q0.lt)
  have HF1 := Lib.hid (F0.below b1 F0.lt)
  have HB1 := Lib.hid (B0.trans (b1.mono B0.size))
  clear b1 B0 F0 E0 P0 Q0 K
  have p1 : w1.cell? ⟨w.heap.size + 1 + 1, 0, none⟩ = some (.float .f32 p) := HQ1.out.cell 0
  have l3 : w.heap.size + 1 + 1 + 1 < w1.heap.size := HF1.out.lt
  have l2 : w.heap.size + 1 + 1 < w1.heap.size := by omega
  go_wp2_with fail
  refine (KC.out _).mono ?_
  rintro e w2 ⟨rfl, b2⟩
  have HE2 := Lib.hid (HE1.out.below b2 HE1.out.lt)
  have HP2 := Lib.hid (HP1.out.below b2 HP1.out.lt)
  have HQ2 := Lib.hid (HQ1.out.below b2 HQ1.out.lt)
  have HF2 := Lib.hid (HF1.out.below b2 HF1.out.lt)
  have HB2 := Lib.hid (HB1.out.trans (b2.mono HB1.out.size))
  clear b2 p1 l3 l2 HE1 HP1 HQ1 HF1 HB1
  obtain ⟨d0, d1, d2, d3, d4⟩ := HF2.out.cells
  have qf0 := HF2.out.frozen 0
  have qf1 := HF2.out.frozen 1
  have qf2 := HF2.out.frozen 2
  have qf3 := HF2.out.frozen 3
  have qf4 := HF2.out.frozen 4
  have lz := HF2.out.lt
  go_wp2_with fail
  have B3 := HB2.out
  exact bodyPost_ret (v := .tuple #[fldV 0 0 0 0 none 0 0, .int .i64 a]) (by simp [results, Try.results10, go_sem, *]) rfl ⟨rfl, (by have hszz := B3.size; repeat (first | with_reducible exact B3 | with_reducible apply Below.drew | with_reducible refine below_drewN ?_ _ | (with_reducible refine Below.setCell ?_ ?_ _; rotate_left; focus (first | omega | (simp <;> omega))) | (with_reducible refine Below.alloc ?_ ?_ _; rotate_left; focus (first | omega | (simp <;> omega)))))⟩
set_option maxRecDepth 100000 in
theorem refspeckle_bad (X Y : Int) (Wn Hn : Nat) (l : List Nat) (seed : Int) (p : Nat) (w : World) (hr : Right X Y Wn Hn l) (hp : p < 4294967296) (hz : shareE p ≠ 0) :
    Calls Try.prog 11 #[reg X Y Wn Hn, .int .u32 seed, .float .f32 p] w fun e w' => e = .returned (.tuple #[fldV 0 0 0 0 none 0 0, .int .i64 (shareE p)]) ∧ Below w.heap.size w w' := by
  have K := Lib.hid (fun w => check2 X Y Wn Hn w)
  rw [chk_right hr] at K
  have KC := Lib.hid (fun w => refshare_any p 1065353216 hp w)
  rw [shareE_eq] at KC
  clear hr hp
  generalize shareE p = a at *
  have hb' : (a != 0) = true := by rw [bne_iff_ne]; exact hz
  clear hz
  go_enter Try.func11, Try.ntmps11
  go_wp2_with fail
  generalize hW0 : (((w.alloc (.cells #[.int .i64 X, .int .i64 Y, .int .i64 Wn, .int .i64 Hn] 23)).alloc (.cells #[.int .u32 seed] 27)).alloc (.cells #[.float .f32 p] 28)).alloc (.cells #[.int .i64 0, .int .i64 0, .int .i64 0, .int .i64 0, .slice none 0 0] 26) = W0 at *
  obtain ⟨E0, P0, Q0, F0, B0⟩ := box_sp w X Y Wn Hn #[.int .u32 seed] 27 #[.float .f32 p] 28 W0 hW0.symm
  clear hW0
  refine (K.out _).mono ?_
  rintro e w1 ⟨rfl, b1⟩
  have HE1 := Lib.hid (E0.below b1 E0.lt)
  have HP1 := Lib.hid (P0.below b1 P0.lt)
  have HQ1 := Lib.hid (Q0.below b1 Q0.lt)
  have HF1 := Lib.hid (F0.below b1 F0.lt)
  have HB1 := Lib.hid (B0.trans (b1.mono B0.size))
  clear b1 B0 F0 E0 P0 Q0 K
  have p1 : w1.cell? ⟨w.heap.size + 1 + 1, 0, none⟩ = some (.float .f32 p) := HQ1.out.cell 0
  have l3 : w.heap.size + 1 + 1 + 1 < w1.heap.size := HF1.out.lt
  have l2 : w.heap.size + 1 + 1 < w1.heap.size := by omega
  go_wp2_with fail
  refine (KC.out _).mono ?_
  rintro e w2 ⟨rfl, b2⟩
  have HE2 := Lib.hid (HE1.out.below b2 HE1.out.lt)
  have HP2 := Lib.hid (HP1.out.below b2 HP1.out.lt)
  have HQ2 := Lib.hid (HQ1.out.below b2 HQ1.out.lt)
  have HF2 := Lib.hid (HF1.out.below b2 HF1.out.lt)
  have HB2 := Lib.hid (HB1.out.trans (b2.mono HB1.out.size))
  clear b2 p1 l3 l2 HE1 HP1 HQ1 HF1 HB1
  obtain ⟨d0, d1, d2, d3, d4⟩ := HF2.out.cells
  have qf0 := HF2.out.frozen 0
  have qf1 := HF2.out.frozen 1
  have qf2 := HF2.out.frozen 2
  have qf3 := HF2.out.frozen 3
  have qf4 := HF2.out.frozen 4
  have lz := HF2.out.lt
  go_wp2_with fail
  have B3 := HB2.out
  exact bodyPost_ret (v := .tuple #[fldV 0 0 0 0 none 0 0, .int .i64 a]) (by simp [results, Try.results11, go_sem, *]) rfl ⟨rfl, (by have hszz := B3.size; repeat (first | with_reducible exact B3 | with_reducible apply Below.drew | with_reducible refine below_drewN ?_ _ | (with_reducible refine Below.setCell ?_ ?_ _; rotate_left; focus (first | omega | (simp <;> omega))) | (with_reducible refine Below.alloc ?_ ?_ _; rotate_left; focus (first | omega | (simp <;> omega)))))⟩

theorem MakeP.outv {X Y W H : Int} {m : List Nat} {w : World} {e : Ending} {w' : World} (h : MakeP X Y W H m w e w') : (∃ x y p q a n k, e = .returned (fldV x y p q a n k) ∧ OutV 0 X Y W H m w' w.heap.size x y p q a n k) ∧ Below w.heap.size w w' := by
  obtain ⟨⟨g, cap, he, ho⟩, hb⟩ := h
  exact ⟨⟨X, Y, W, H, _, _, cap, he, .inr ⟨rfl, rfl, rfl, rfl, rfl, g, rfl, rfl, ho⟩⟩, hb⟩
theorem spkL_small {X Y : Int} {Wn Hn : Nat} {l : List Nat} (hr : Right X Y Wn Hn l) (seed : Int) (p : Nat) : (spkL seed p X Y Wn Hn).length ≤ 1099511627776 := by
  unfold spkL
  rw [madeL_len]
  have := hr.small
  rw [hr.len] at this
  exact this
set_option maxRecDepth 100000 in
set_option maxHeartbeats 1000000 in
theorem speckle_ok (X Y : Int) (Wn Hn : Nat) (l : List Nat) (seed : Int) (p : Nat) (w : World) (hr : Right X Y Wn Hn l) (hp : p < 4294967296) (hz : shareE p = 0) :
    Calls Try.prog 10 #[reg X Y Wn Hn, .int .u32 seed, .float .f32 p] w fun e w' => OpP 0 X Y Wn Hn (spkL seed p X Y Wn Hn) w e w' := by
  have K := Lib.hid (fun w => check1 X Y Wn Hn w)
  rw [chk_right hr] at K
  have KC := Lib.hid (fun w => share_any p hp w)
  rw [hz] at KC
  have g1 := hr.w1; have g2 := hr.w2; have g3 := hr.h1; have g4 := hr.h2; have g5 := hr.x1; have g6 := hr.x2; have g7 := hr.y1; have g8 := hr.y2
  have KM := Lib.hid (fun pa pb w1 (ha : Blk w1 pa #[.int .u32 seed] 27) (hb : Blk w1 pb #[.float .f32 p] 28) => (make_any 42 #[.pointer (some ⟨pa, 0, none⟩), .pointer (some ⟨pb, 0, none⟩)] (fun x y => spkF p (hsF seed x y 9)) X Y Wn Hn w1 (by omega) (by omega) (by omega) (by omega) (by omega) (by omega) (by omega) (by omega)
    (enters_of Try.func42 (by kernel_rfl) rfl) (fun x y _ _ _ _ => spkF_lt _ _) (fun x y _ _ _ _ W' hb' => specklefn_any seed p x y pa pb W' (ha.below hb' ha.lt) (hb.below hb' hb.lt))).mono fun e w' h => MakeP.outv h)
  change Hid (∀ pa pb w1 (ha : Blk w1 pa #[.int .u32 seed] 27) (hb : Blk w1 pb #[.float .f32 p] 28), Calls Try.prog 25 #[reg X Y Wn Hn, .func (.func 42) #[] #[.pointer (some ⟨pa, 0, none⟩), .pointer (some ⟨pb, 0, none⟩)]] w1 fun e w' => (∃ x y pp q a n k, e = .returned (fldV x y pp q a n k) ∧ OutV 0 X Y Wn Hn (spkL seed p X Y Wn Hn) w' w1.heap.size x y pp q a n k) ∧ Below w1.heap.size w1 w') at KM
  clear hr hp hz g1 g2 g3 g4 g5 g6 g7 g8
  generalize spkL seed p X Y Wn Hn = S at *
  go_enter Try.func10, Try.ntmps10
  go_wp2_with fail
  generalize hW0 : (((w.alloc (.cells #[.int .i64 X, .int .i64 Y, .int .i64 Wn, .int .i64 Hn] 23)).alloc (.cells #[.int .u32 seed] 27)).alloc (.cells #[.float .f32 p] 28)).alloc (.cells #[.int .i64 0, .int .i64 0, .int .i64 0, .int .i64 0, .slice none 0 0] 26) = W0 at *
  obtain ⟨E0, P0, Q0, F0, B0⟩ := box_sp w X Y Wn Hn #[.int .u32 seed] 27 #[.float .f32 p] 28 W0 hW0.symm
  clear hW0
  refine (K.out _).mono ?_
  rintro e w1 ⟨rfl, b1⟩
  have HE1 := Lib.hid (E0.below b1 E0.lt)
  have HP1 := Lib.hid (P0.below b1 P0.lt)
  have HQ1 := Lib.hid (Q0.below b1 Q0.lt)
  have HF1 := Lib.hid (F0.below b1 F0.lt)
  have HB1 := Lib.hid (B0.trans (b1.mono B0.size))
  clear b1 B0 F0 E0 P0 Q0 K
  have p1 : w1.cell? ⟨w.heap.size + 1 + 1, 0, none⟩ = some (.float .f32 p) := HQ1.out.cell 0
  have l3 : w.heap.size + 1 + 1 + 1 < w1.heap.size := HF1.out.lt
  have l2 : w.heap.size + 1 + 1 < w1.heap.size := by omega
  go_wp2_with fail
  refine (KC.out _).mono ?_
  rintro e w2 ⟨rfl, b2⟩
  have HE2 := Lib.hid (HE1.out.below b2 HE1.out.lt)
  have HP2 := Lib.hid (HP1.out.below b2 HP1.out.lt)
  have HQ2 := Lib.hid (HQ1.out.below b2 HQ1.out.lt)
  have HF2 := Lib.hid (HF1.out.below b2 HF1.out.lt)
  have HB2 := Lib.hid (HB1.out.trans (b2.mono HB1.out.size))
  clear b2 p1 l3 l2 HE1 HP1 HQ1 HF1 HB1
  have l3 : w.heap.size + 1 + 1 + 1 < w2.heap.size := HF2.out.lt
  obtain ⟨c0, c1, c2, c3⟩ := HE2.out.cells
  have l0 := HE2.out.lt
  go_wp2_with fail
  generalize p = part at *
  refine (KM.out _ _ _ HP2.out HQ2.out).mono ?_
  rintro e w7 ⟨⟨x, y, p, q, a, m, k, rfl, o7⟩, b7⟩
  have HOZ := Lib.hid o7
  have HFZ := Lib.hid (HF2.out.below b7 HF2.out.lt)
  have HBZ := Lib.hid (HB2.out.trans (b7.mono HB2.out.size))
  have HZB : Hid (w.heap.size + 1 + 1 + 1 < w2.heap.size) := HF2.out.lt
  have HBB : Hid (w.heap.size ≤ w2.heap.size) := HB2.out.size
  clear o7 b7 KM HE2 HP2 HQ2 HF2 HB2 c0 c1 c2 c3 l0 l3
  obtain ⟨d0, d1, d2, d3, d4⟩ := HFZ.out.cells
  have qf0 := HFZ.out.frozen 0
  have qf1 := HFZ.out.frozen 1
  have qf2 := HFZ.out.frozen 2
  have qf3 := HFZ.out.frozen 3
  have qf4 := HFZ.out.frozen 4
  have lz := HFZ.out.lt
  go_wp2_with fail
  generalize hW5 : ((((w7.setCell ⟨w.heap.size + 1 + 1 + 1, 0, none⟩ (.int .i64 x)).setCell ⟨w.heap.size + 1 + 1 + 1, 1, none⟩ (.int .i64 y)).setCell ⟨w.heap.size + 1 + 1 + 1, 2, none⟩ (.int .i64 p)).setCell ⟨w.heap.size + 1 + 1 + 1, 3, none⟩ (.int .i64 q)).setCell ⟨w.heap.size + 1 + 1 + 1, 4, none⟩ (.slice a m k) = W5 at *
  obtain ⟨f5, bb5, oo5, _, z5⟩ := fld_store w7 (w.heap.size + 1 + 1 + 1) 0 0 0 0 _ x y p q (.slice a m k) HFZ.out W5 hW5.symm
  have hO5 := (HOZ.out.set oo5 HZB.out).base HBB.out
  have hB5 := HBZ.out.trans (bb5.mono (by omega))
  clear d0 d1 d2 d3 d4 qf0 qf1 qf2 qf3 qf4 hW5 oo5
  obtain ⟨d0, d1, d2, d3, d4⟩ := f5.cells
  exact bodyPost_ret (v := .tuple #[fldV x y p q a m k, .int .i64 0]) (by simp [results, Try.results10, go_sem, *]) rfl ⟨⟨x, y, p, q, a, m, k, rfl, hO5⟩, hB5⟩

set_option maxRecDepth 100000 in
set_option maxHeartbeats 1000000 in
theorem refspeckle_ok (X Y : Int) (Wn Hn : Nat) (l : List Nat) (seed : Int) (p : Nat) (w : World) (hr : Right X Y Wn Hn l) (hp : p < 4294967296) (hz : shareE p = 0) :
    Calls Try.prog 11 #[reg X Y Wn Hn, .int .u32 seed, .float .f32 p] w fun e w' => OpP 0 X Y Wn Hn (spkL seed p X Y Wn Hn) w e w' := by
  have K := Lib.hid (fun w => check2 X Y Wn Hn w)
  rw [chk_right hr] at K
  have KC := Lib.hid (fun w => refshare_any p 1065353216 hp w)
  rw [shareE_eq, hz] at KC
  have g1 := hr.w1; have g2 := hr.w2; have g3 := hr.h1; have g4 := hr.h2; have g5 := hr.x1; have g6 := hr.x2; have g7 := hr.y1; have g8 := hr.y2
  have KA : Hid (∀ pa pb w1 (ha : Blk w1 pa #[.int .u32 seed] 27) (hb : Blk w1 pb #[.float .f32 p] 28), Calls Try.prog 30 #[reg X Y Wn Hn, .func (.func 45) #[] #[.pointer (some ⟨pa, 0, none⟩), .pointer (some ⟨pb, 0, none⟩)]] w1 fun e w' => OpP 0 X Y Wn Hn (spkL seed p X Y Wn Hn) w1 e w') := by
    intro pa pb w1 ha hb
    have := made_any 45 #[.pointer (some ⟨pa, 0, none⟩), .pointer (some ⟨pb, 0, none⟩)] (fun x y => spkF p (hsF seed x y 9)) X Y Wn Hn w1 (by omega) (by omega) (by omega) (by omega) (by omega) (by omega) (by omega) (by omega) (enters_of Try.func45 (by kernel_rfl) rfl) (fun x y _ _ _ _ => spkF_lt _ _) (fun x y _ _ _ _ W' hb' => refspecklefn_any seed p x y pa pb W' (ha.below hb' ha.lt) (hb.below hb' hb.lt))
    have e := spk_res seed p X Y Wn Hn
    refine this.mono fun e' w' h => ?_
    have h2 := h.res.op
    unfold resC at e
    change OpP (if allHt (spkL seed p X Y Wn Hn) = true then 0 else 3) X Y Wn Hn (spkL seed p X Y Wn Hn) w1 e' w' at h2
    rw [e] at h2
    exact h2
  clear hr hp hz g1 g2 g3 g4 g5 g6 g7 g8
  generalize spkL seed p X Y Wn Hn = S at *
  go_enter Try.func11, Try.ntmps11
  go_wp2_with fail
  generalize hW0 : (((w.alloc (.cells #[.int .i64 X, .int .i64 Y, .int .i64 Wn, .int .i64 Hn] 23)).alloc (.cells #[.int .u32 seed] 27)).alloc (.cells #[.float .f32 p] 28)).alloc (.cells #[.int .i64 0, .int .i64 0, .int .i64 0, .int .i64 0, .slice none 0 0] 26) = W0 at *
  obtain ⟨E0, P0, Q0, F0, B0⟩ := box_sp w X Y Wn Hn #[.int .u32 seed] 27 #[.float .f32 p] 28 W0 hW0.symm
  clear hW0
  refine (K.out _).mono ?_
  rintro e w1 ⟨rfl, b1⟩
  have HE1 := Lib.hid (E0.below b1 E0.lt)
  have HP1 := Lib.hid (P0.below b1 P0.lt)
  have HQ1 := Lib.hid (Q0.below b1 Q0.lt)
  have HF1 := Lib.hid (F0.below b1 F0.lt)
  have HB1 := Lib.hid (B0.trans (b1.mono B0.size))
  clear b1 B0 F0 E0 P0 Q0 K
  have p1 : w1.cell? ⟨w.heap.size + 1 + 1, 0, none⟩ = some (.float .f32 p) := HQ1.out.cell 0
  have l3 : w.heap.size + 1 + 1 + 1 < w1.heap.size := HF1.out.lt
  have l2 : w.heap.size + 1 + 1 < w1.heap.size := by omega
  go_wp2_with fail
  refine (KC.out _).mono ?_
  rintro e w2 ⟨rfl, b2⟩
  have HE2 := Lib.hid (HE1.out.below b2 HE1.out.lt)
  have HP2 := Lib.hid (HP1.out.below b2 HP1.out.lt)
  have HQ2 := Lib.hid (HQ1.out.below b2 HQ1.out.lt)
  have HF2 := Lib.hid (HF1.out.below b2 HF1.out.lt)
  have HB2 := Lib.hid (HB1.out.trans (b2.mono HB1.out.size))
  clear b2 p1 l3 l2 HE1 HP1 HQ1 HF1 HB1
  have l3 : w.heap.size + 1 + 1 + 1 < w2.heap.size := HF2.out.lt
  obtain ⟨c0, c1, c2, c3⟩ := HE2.out.cells
  have l0 := HE2.out.lt
  go_wp2_with fail
  generalize p = part at *
  refine (KA.out _ _ _ HP2.out HQ2.out).mono ?_
  rintro e w7 ⟨⟨x, y, p, q, a, m, k, rfl, o7⟩, b7⟩
  have HOZ := Lib.hid o7
  have HFZ := Lib.hid (HF2.out.below b7 HF2.out.lt)
  have HBZ := Lib.hid (HB2.out.trans (b7.mono HB2.out.size))
  have HZB : Hid (w.heap.size + 1 + 1 + 1 < w2.heap.size) := HF2.out.lt
  have HBB : Hid (w.heap.size ≤ w2.heap.size) := HB2.out.size
  clear o7 b7 KA HE2 HP2 HQ2 HF2 HB2 c0 c1 c2 c3 l0 l3
  obtain ⟨d0, d1, d2, d3, d4⟩ := HFZ.out.cells
  have qf0 := HFZ.out.frozen 0
  have qf1 := HFZ.out.frozen 1
  have qf2 := HFZ.out.frozen 2
  have qf3 := HFZ.out.frozen 3
  have qf4 := HFZ.out.frozen 4
  have lz := HFZ.out.lt
  go_wp2_with fail
  generalize hW5 : ((((w7.setCell ⟨w.heap.size + 1 + 1 + 1, 0, none⟩ (.int .i64 x)).setCell ⟨w.heap.size + 1 + 1 + 1, 1, none⟩ (.int .i64 y)).setCell ⟨w.heap.size + 1 + 1 + 1, 2, none⟩ (.int .i64 p)).setCell ⟨w.heap.size + 1 + 1 + 1, 3, none⟩ (.int .i64 q)).setCell ⟨w.heap.size + 1 + 1 + 1, 4, none⟩ (.slice a m k) = W5 at *
  obtain ⟨f5, bb5, oo5, _, z5⟩ := fld_store w7 (w.heap.size + 1 + 1 + 1) 0 0 0 0 _ x y p q (.slice a m k) HFZ.out W5 hW5.symm
  have hO5 := (HOZ.out.set oo5 HZB.out).base HBB.out
  have hB5 := HBZ.out.trans (bb5.mono (by omega))
  clear d0 d1 d2 d3 d4 qf0 qf1 qf2 qf3 qf4 hW5 oo5
  obtain ⟨d0, d1, d2, d3, d4⟩ := f5.cells
  exact bodyPost_ret (v := .tuple #[fldV x y p q a m k, .int .i64 0]) (by simp [results, Try.results11, go_sem, *]) rfl ⟨⟨x, y, p, q, a, m, k, rfl, hO5⟩, hB5⟩

theorem speckle_pair (seed : Int) (p : Nat) (hp : p < 4294967296) (X Y : Int) (Wn Hn : Nat) (l : List Nat) (hr : Right X Y Wn Hn l) :
    ∃ (C X1 Y1 W1 H1 : Int) (S : List Nat), S.length ≤ 1099511627776 ∧
      (∀ w, Calls Try.prog 10 #[reg X Y Wn Hn, .int .u32 seed, .float .f32 p] w fun e w' => OpP C X1 Y1 W1 H1 S w e w') ∧
      (∀ w, Calls Try.prog 11 #[reg X Y Wn Hn, .int .u32 seed, .float .f32 p] w fun e w' => OpP C X1 Y1 W1 H1 S w e w') := by
  by_cases h : shareE p = 0
  · exact ⟨0, X, Y, Wn, Hn, _, spkL_small hr seed p, fun w => speckle_ok X Y Wn Hn l seed p w hr hp h, fun w => refspeckle_ok X Y Wn Hn l seed p w hr hp h⟩
  · refine ⟨shareE p, 0, 0, 0, 0, [], by simp, fun w => ?_, fun w => ?_⟩
    · exact (speckle_bad X Y Wn Hn l seed p w hr hp h).mono fun e w' ⟨a1, a2⟩ => OpP.err h a1 a2
    · exact (refspeckle_bad X Y Wn Hn l seed p w hr hp h).mono fun e w' ⟨a1, a2⟩ => OpP.err h a1 a2
end Go.Proofs.Ytlpbofhmpfilnaa

namespace Go.Proofs.Ytlpbofhmpfilnaa
open Go.ChangeShapes Go.WideShapes Go.ChangeAt Go.RowKit
open Ieee.Format (fin finE htE allFin allHt all_true all_false mulF subF addF Ht Bd divF rootF floorF easeF mixF)
set_option linter.unusedVariables false

set_option maxRecDepth 100000 in
set_option maxHeartbeats 2000000 in
theorem dithers_law (X Y A B : Int) (a : Option Addr) (l : List Nat) (cap : Nat) (seed : Int) (u1 : Nat) (w : World) (hl : Row63 w a l) (h1 : u1 < 4294967296) :
    Calls Try.prog 3 #[fldV X Y A B a l.length cap, .int .u32 seed, .float .f32 u1] w fun e w' => e = .returned (.bool true) ∧ Below w.heap.size w w' := by
  have HL := Lib.hid hl
  have Q1 := Lib.hid (fun X Y Wn Hn b o c l hr => dither_pair seed u1 h1 X Y Wn Hn b o c l hr)
  have Q2 := Lib.hid (fun X Y Wn Hn l hr => speckle_pair seed u1 h1 X Y Wn Hn l hr)
  clear hl h1
  go_enter Try.func3, Try.ntmps3
  go_wp2_with fail
  generalize hW0 : w.alloc (.cells #[.int .i64 X, .int .i64 Y, .int .i64 A, .int .i64 B, .slice a l.length cap] 26) = W0 at *
  have F0 : Fld W0 w.heap.size X Y A B (.slice a l.length cap) := by subst hW0; exact Fld.new _ _ _ _ _ _
  have B0 : Below w.heap.size w W0 := by subst hW0; exact (by repeat (first | with_reducible exact Below.refl _ _ | with_reducible apply Below.drew | with_reducible refine below_drewN ?_ _ | (with_reducible refine Below.setCell ?_ ?_ _; rotate_left; focus (first | omega | (simp <;> omega))) | (with_reducible refine Below.alloc ?_ ?_ _; rotate_left; focus (first | omega | (simp <;> omega)))))
  clear hW0
  refine (landed_bel _).mono ?_
  rintro e w1 ⟨rfl, b1⟩
  have F1 := F0.below b1 F0.lt
  have B1 := Lib.hid (B0.trans (b1.mono B0.size))
  clear b1 F0 B0
  obtain ⟨c0, c1, c2, c3, c4⟩ := F1.cells
  have HF1 := Lib.hid F1
  clear F1
  go_wp2_with fail
  refine (fit_any X Y A B a cap l w1 (HL.out.below B1.out)).mono ?_
  rintro e w2 ⟨X', Y', Wn, Hn, g, cap', l', rfl, hr, hsm, ho, b2⟩
  have F2 := HF1.out.below b2 HF1.out.lt
  have B2 := Lib.hid (B1.out.trans (b2.mono B1.out.size))
  have HG : Hid (g ≠ w.heap.size) := by have := ho.lt.1; have := HF1.out.lt; unfold Hid; omega
  have HO := Lib.hid ho
  have HML : Hid (l'.length ≤ 1099511627776) := by
    have h1 := Nat.mul_le_mul hr.h2 hr.w2
    rw [← hr.len] at h1
    unfold Hid; omega
  obtain ⟨C, X1, Y1, W1, H1, S, hS, hp1, hp2⟩ := Q1.out X' Y' Wn Hn g 0 cap' l' hr
  obtain ⟨D, X2, Y2, W2, H2, T, hT, hp3, hp4⟩ := Q2.out X' Y' Wn Hn l' hr
  have P1 := Lib.hid hp1
  have P2 := Lib.hid hp2
  have P3 := Lib.hid hp3
  have P4 := Lib.hid hp4
  have HS := Lib.hid hS
  have HT := Lib.hid hT
  clear hp1 hp2 hp3 hp4 hS hT Q1 Q2
  clear b2 hr ho c0 c1 c2 c3 c4 hsm
  obtain ⟨c0, c1, c2, c3, c4⟩ := F2.cells
  have qf0 := F2.frozen 0
  have qf1 := F2.frozen 1
  have qf2 := F2.frozen 2
  have qf3 := F2.frozen 3
  have qf4 := F2.frozen 4
  have HF2 := Lib.hid F2
  clear F2
  go_wp2_with fail
  generalize hW3 : ((((w2.setCell ⟨w.heap.size, 0, none⟩ (.int .i64 X')).setCell ⟨w.heap.size, 1, none⟩ (.int .i64 Y')).setCell ⟨w.heap.size, 2, none⟩ (.int .i64 (Wn : Int))).setCell ⟨w.heap.size, 3, none⟩ (.int .i64 (Hn : Int))).setCell ⟨w.heap.size, 4, none⟩ (.slice (some ⟨g, 0, none⟩) l'.length cap') = W3 at *
  obtain ⟨f3, bb3, oo3, _, z3⟩ := fld_store w2 w.heap.size X Y A B _ X' Y' Wn Hn (.slice (some ⟨g, 0, none⟩) l'.length cap') HF2.out W3 hW3.symm
  have HF3 := Lib.hid f3
  have HB3 := Lib.hid (B2.out.trans bb3)
  have HO3 := Lib.hid (oo3 _ _ _ _ HO.out HG.out)
  have HQ3 := Lib.hid (HO3.out.row HML.out)
  clear hW3 f3 bb3 oo3 z3 HO HF2 HF1 B1 B2 c0 c1 c2 c3 c4 qf0 qf1 qf2 qf3 qf4 HL HG
  refine (P1.out W3 HQ3.out).mono ?_
  rintro e w4 ⟨⟨x, y, p, q, aa, n1, k, rfl, o4⟩, b4⟩
  have F4 := HF3.out.below b4 HF3.out.lt
  have HB4 := Lib.hid (HB3.out.trans (b4.mono HB3.out.size))
  have HQ4 := Lib.hid (HQ3.out.below b4)
  have HV4 := Lib.hid o4
  have HGK : Hid (g < w4.heap.size) := Nat.lt_of_lt_of_le HO3.out.lt.2 b4.size
  clear b4 o4
  obtain ⟨c0, c1, c2, c3, c4⟩ := F4.cells
  have HF4 := Lib.hid F4
  clear F4
  have hk0 : w.heap.size < w4.heap.size := HF4.out.lt
  go_wp2_with fail
  generalize hW5 : w4.alloc (.cells #[.int .i64 x, .int .i64 y, .int .i64 p, .int .i64 q, .slice aa n1 k] 26) = W5 at *
  have P5 : Fld W5 w4.heap.size x y p q (.slice aa n1 k) := by subst hW5; exact Fld.new _ _ _ _ _ _
  have B5 : Below w4.heap.size w4 W5 := by subst hW5; exact (by repeat (first | with_reducible exact Below.refl _ _ | with_reducible apply Below.drew | with_reducible refine below_drewN ?_ _ | (with_reducible refine Below.setCell ?_ ?_ _; rotate_left; focus (first | omega | (simp <;> omega))) | (with_reducible refine Below.alloc ?_ ?_ _; rotate_left; focus (first | omega | (simp <;> omega)))))
  have HF5 := Lib.hid (HF4.out.below B5 HF4.out.lt)
  have HB5 := Lib.hid (HB4.out.trans (B5.mono HB4.out.size))
  have HQ5 := Lib.hid (HQ4.out.below B5)
  have HV5 := Lib.hid (HV4.out.below B5)
  have HP5 := Lib.hid P5
  clear hW5 P5 B5 HB4 HQ4 HV4 HF4 HB3 HQ3 HO3 HF3 c0 c1 c2 c3 c4
  have HK := Lib.hid hk0
  generalize w4.heap.size = k7 at *
  refine (P2.out W5 HQ5.out).mono ?_
  rintro e w6 ⟨⟨x2, y2, p2, q2, aa2, n2, k2, rfl, o6⟩, b6⟩
  have P6 := HP5.out.below b6 HP5.out.lt
  have HF6 := Lib.hid (HF5.out.below b6 HF5.out.lt)
  have HQ6 := Lib.hid (HQ5.out.below b6)
  have HB6 := Lib.hid (HB5.out.trans (b6.mono HB5.out.size))
  have HV6 := Lib.hid (HV5.out.below b6)
  have HU6 := Lib.hid o6
  clear b6 o6
  obtain ⟨d0, d1, d2, d3, d4⟩ := P6.cells
  have HP6 := Lib.hid P6
  have lz1 : k7 < w6.heap.size := P6.lt
  have lz0 : w.heap.size < w6.heap.size := HF6.out.lt
  clear P6 HV5 HP5 HQ5 HB5 HF5 hk0
  go_wp2_with fail
  generalize hW7 : w6.alloc (.cells #[.int .i64 x2, .int .i64 y2, .int .i64 p2, .int .i64 q2, .slice aa2 n2 k2] 26) = W7 at *
  have B7 : Below w6.heap.size w6 W7 := by subst hW7; exact (by repeat (first | with_reducible exact Below.refl _ _ | with_reducible apply Below.drew | with_reducible refine below_drewN ?_ _ | (with_reducible refine Below.setCell ?_ ?_ _; rotate_left; focus (first | omega | (simp <;> omega))) | (with_reducible refine Below.alloc ?_ ?_ _; rotate_left; focus (first | omega | (simp <;> omega)))))
  have HB7 := Lib.hid (HB6.out.trans (B7.mono HB6.out.size))
  have HV7 := Lib.hid (HV6.out.below B7)
  have HU7 := Lib.hid (HU6.out.below B7)
  have HF7 := Lib.hid (HF6.out.below B7 HF6.out.lt)
  have HQ7 := Lib.hid (HQ6.out.below B7)
  have HP7 := Lib.hid (HP6.out.below B7 HP6.out.lt)
  have HR7 : Hid (Fld W7 w6.heap.size x2 y2 p2 q2 (.slice aa2 n2 k2)) := by subst hW7; exact Fld.new _ _ _ _ _ _
  clear hW7 B7 HB6 HV6 HU6 HP6 HF6 HQ6 d0 d1 d2 d3 d4
  have hk97 : Hid (k7 < w6.heap.size) := lz1
  have hk90 : Hid (w.heap.size < w6.heap.size) := lz0
  generalize w6.heap.size = k9 at *
  refine (same_out HV7.out HU7.out HS.out).mono ?_
  rintro e w8 ⟨rfl, b8⟩
  have F8 := HF7.out.below b8 HF7.out.lt
  have P8 := HP7.out.below b8 HP7.out.lt
  have R8 := HR7.out.below b8 HR7.out.lt
  have HB8 := Lib.hid (HB7.out.trans (b8.mono HB7.out.size))
  have HQ8 := Lib.hid (HQ7.out.below b8)
  clear b8 HV7 HU7 HF7 HP7 HR7 HQ7 HB7
  obtain ⟨c0, c1, c2, c3, c4⟩ := F8.cells
  have HF8 := Lib.hid F8
  have HP8 := Lib.hid P8
  have HR8 := Lib.hid R8
  have hk08 : w.heap.size < w8.heap.size := F8.lt
  clear F8 P8 R8 lz0 lz1 P1 P2
  go_wp2_with fail
  refine (P3.out w8).mono ?_
  rintro e w9 ⟨⟨x3, y3, p3, q3, aa3, n3, k3, rfl, o9⟩, b9⟩
  have F9 := HF8.out.below b9 HF8.out.lt
  have P9 := HP8.out.below b9 HP8.out.lt
  have HR9 := Lib.hid (HR8.out.below b9 HR8.out.lt)
  have HB9 := Lib.hid (HB8.out.trans (b9.mono HB8.out.size))
  have HQ9 := Lib.hid (HQ8.out.below b9)
  have HU9 := Lib.hid o9
  have hk98 : Hid (k9 < w8.heap.size) := HR8.out.lt
  have hk78 : Hid (k7 < w8.heap.size) := HP8.out.lt
  clear b9 o9 c0 c1 c2 c3 c4
  obtain ⟨c0, c1, c2, c3, c4⟩ := F9.cells
  obtain ⟨d0, d1, d2, d3, d4⟩ := P9.cells
  have qf0 := P9.frozen 0
  have qf1 := P9.frozen 1
  have qf2 := P9.frozen 2
  have qf3 := P9.frozen 3
  have qf4 := P9.frozen 4
  have HF9 := Lib.hid F9
  have HP9 := Lib.hid P9
  have lz0 : w.heap.size < w9.heap.size := F9.lt
  have lz1 : k7 < w9.heap.size := P9.lt
  clear F9 P9 HF8 HP8 HR8 HQ8 HB8 hk08
  have hk0 : w.heap.size < k7 := HK.out
  go_wp2_with fail
  generalize hWA : ((((w9.setCell ⟨k7, 0, none⟩ (.int .i64 x3)).setCell ⟨k7, 1, none⟩ (.int .i64 y3)).setCell ⟨k7, 2, none⟩ (.int .i64 p3)).setCell ⟨k7, 3, none⟩ (.int .i64 q3)).setCell ⟨k7, 4, none⟩ (.slice aa3 n3 k3) = WA at *
  obtain ⟨fA, bbA, ooA, ppA, zA⟩ := fld_store w9 k7 x y p q _ x3 y3 p3 q3 (.slice aa3 n3 k3) HP9.out WA hWA.symm
  have FA := ppA _ _ _ _ _ _ HF9.out (by have := HK.out; omega)
  have RA := ppA _ _ _ _ _ _ HR9.out (by have := hk97.out; omega)
  have HPA := Lib.hid fA
  have HFA := Lib.hid FA
  have HRA := Lib.hid RA
  have HBA := Lib.hid (HB9.out.trans (bbA.mono (Nat.le_of_lt HK.out)))
  have HQA := Lib.hid (SRow.under HQ9.out bbA HGK.out)
  have HUA := Lib.hid (HU9.out.set ooA hk78.out)
  clear hWA fA bbA ooA ppA zA FA RA HP9 HF9 HR9 HB9 HQ9 HU9 c0 c1 c2 c3 c4 d0 d1 d2 d3 d4 qf0 qf1 qf2 qf3 qf4 lz0 lz1
  obtain ⟨c0, c1, c2, c3, c4⟩ := HFA.out.cells
  have lz0 : w.heap.size < WA.heap.size := HFA.out.lt
  go_wp2_with fail
  refine (P4.out WA).mono ?_
  rintro e w11 ⟨⟨x4, y4, p4, q4, aa4, n4, k4, rfl, o11⟩, b11⟩
  have P11 := HPA.out.below b11 HPA.out.lt
  have R11 := HRA.out.below b11 HRA.out.lt
  have HB11 := Lib.hid (HBA.out.trans (b11.mono HBA.out.size))
  have HU11 := Lib.hid (HUA.out.below b11)
  have HT11 := Lib.hid o11
  have hk9A : Hid (k9 < WA.heap.size) := HRA.out.lt
  clear b11 o11 HPA HRA HBA HUA HQA HFA c0 c1 c2 c3 c4
  obtain ⟨d0, d1, d2, d3, d4⟩ := P11.cells
  have qf0 := R11.frozen 0
  have qf1 := R11.frozen 1
  have qf2 := R11.frozen 2
  have qf3 := R11.frozen 3
  have qf4 := R11.frozen 4
  obtain ⟨c0, c1, c2, c3, c4⟩ := R11.cells
  have lz1 : k9 < w11.heap.size := R11.lt
  have lz2 : k7 < w11.heap.size := P11.lt
  have hk7 : k7 < k9 := hk97.out
  have HP11 := Lib.hid P11
  have HR11 := Lib.hid R11
  clear P11 R11
  go_wp2_with fail
  generalize hWB : ((((w11.setCell ⟨k9, 0, none⟩ (.int .i64 x4)).setCell ⟨k9, 1, none⟩ (.int .i64 y4)).setCell ⟨k9, 2, none⟩ (.int .i64 p4)).setCell ⟨k9, 3, none⟩ (.int .i64 q4)).setCell ⟨k9, 4, none⟩ (.slice aa4 n4 k4) = WB at *
  obtain ⟨fB, bbB, ooB, ppB, zB⟩ := fld_store w11 k9 x2 y2 p2 q2 _ x4 y4 p4 q4 (.slice aa4 n4 k4) HR11.out WB hWB.symm
  have HBB := Lib.hid (HB11.out.trans (bbB.mono (Nat.le_of_lt hk90.out)))
  have HUB := Lib.hid (HU11.out.set ooB (by have := hk98.out; exact this))
  have HTB := Lib.hid (HT11.out.set ooB hk9A.out)
  have HPB := Lib.hid (ppB _ _ _ _ _ _ HP11.out (by have := hk97.out; omega))
  have HRB := Lib.hid fB
  clear hWB fB bbB ooB ppB zB HP11 HR11 HB11 HU11 HT11 c0 c1 c2 c3 c4 d0 d1 d2 d3 d4 lz0 lz1 lz2 qf0 qf1 qf2 qf3 qf4
  obtain ⟨c0, c1, c2, c3, c4⟩ := HRB.out.cells
  obtain ⟨d0, d1, d2, d3, d4⟩ := HPB.out.cells
  have lz1 : k9 < WB.heap.size := HRB.out.lt
  have lz2 : k7 < WB.heap.size := HPB.out.lt
  go_wp2_with fail
  refine (same_out HUB.out HTB.out HT.out).mono ?_
  rintro e w12 ⟨rfl, b12⟩
  have B12 := HBB.out.trans (b12.mono HBB.out.size)
  clear b12
  go_wp2_with fail
  go_ret
  exact ⟨rfl, B12⟩
end Go.Proofs.Ytlpbofhmpfilnaa
