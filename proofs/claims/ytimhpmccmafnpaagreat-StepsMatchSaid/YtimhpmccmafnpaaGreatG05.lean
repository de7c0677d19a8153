import Derived.Test.YtimhpmccmafnpaaGreatG04
import Derived.BigQuiet
import Derived.Deep.CutBlock
import Derived.Deep.QuietTactic
import Derived.Deep.DeepCutAuto
import Derived.StillTailTactics
import Derived.IntWalk
namespace Go.Proofs.YtimhpmccmafnpaaGreat
open Go.ChangeShapes Go.WideShapes Go.ChangeAt Go.RowKit
set_option linter.unusedVariables false

/-! ### the form of a node -/
structure NdAt (w : World) (p : Nat) (s : ByteArray) (ia : Option Addr) (nin cin : Nat) (la : Option Addr) (nI cI : Nat) (ra : Option Addr) (nR cR : Nat) : Prop where
  blk : w.heap[p]? = some (.cells (ndC s ia nin cin la nI cI ra nR cR) 25 (0, 0))
section
variable {s : ByteArray} {ia la ra : Option Addr} {nin cin nI cI nR cR p : Nat} {w : World}
theorem NdAt.lt (h : NdAt w p s ia nin cin la nI cI ra nR cR) : p < w.heap.size := by
  rcases Nat.lt_or_ge p w.heap.size with hlt | hge
  · exact hlt
  · have := h.blk; rw [Array.getElem?_eq_none hge] at this; cases this
theorem NdAt.below (h : NdAt w p s ia nin cin la nI cI ra nR cR) {w' : World} {B : Nat} (hb : Below B w w') (hp : p < B) : NdAt w' p s ia nin cin la nI cI ra nR cR := ⟨(hb.block p hp).trans h.blk⟩
theorem NdAt.new (w : World) (s : ByteArray) (ia : Option Addr) (nin cin : Nat) (la : Option Addr) (nI cI : Nat) (ra : Option Addr) (nR cR : Nat) :
    NdAt (w.alloc (.cells #[.string s, .slice ia nin cin, .slice la nI cI, .slice ra nR cR] 25)) w.heap.size s ia nin cin la nI cI ra nR cR := ⟨heap_alloc_new w _⟩
theorem NdAt.cells (h : NdAt w p s ia nin cin la nI cI ra nR cR) : w.cell? ⟨p, 0, none⟩ = some (.string s) ∧ w.cell? ⟨p, 1, none⟩ = some (.slice ia nin cin) ∧ w.cell? ⟨p, 2, none⟩ = some (.slice la nI cI) ∧ w.cell? ⟨p, 3, none⟩ = some (.slice ra nR cR) :=
  ⟨cell_of_row w p 0 _ _ _ h.blk, cell_of_row w p 1 _ _ _ h.blk, cell_of_row w p 2 _ _ _ h.blk, cell_of_row w p 3 _ _ _ h.blk⟩
end

set_option maxRecDepth 100000 in
set_option maxHeartbeats 1000000 in
theorem checkform_o (s : ByteArray) (hs : s.size ≤ maxLen) (ia : Option Addr) (nin cin : Nat) (la : Option Addr) (nI cI : Nat) (ra : Option Addr) (nR cR : Nat) (hz : (s.toList == kwKernel) = false) (w : World) :
    Calls Tryz.prog 8 #[ndV s ia nin cin la nI cI ra nR cR] w fun e w' => e = .returned (.int .i64 (fmE s.toList nin nI nR 0)) ∧ Below w.heap.size w w' := by
  have KF := Lib.hid (fun w => formOf_any s hs w)
  clear hs
  go_enter Tryz.func8, Tryz.ntmps8
  go_upto_region 1 with fail
  generalize hW0 : w.alloc (.cells #[.string s, .slice ia nin cin, .slice la nI cI, .slice ra nR cR] 25) = W0
  have A0 : NdAt W0 w.heap.size s ia nin cin la nI cI ra nR cR := by subst hW0; exact NdAt.new _ _ _ _ _ _ _ _ _ _ _
  have b0 : Below w.heap.size w W0 := by subst hW0; exact (by repeat (first | with_reducible exact Below.refl _ _ | with_reducible apply Below.drew | with_reducible refine below_drewN ?_ _ | (with_reducible refine Below.setCell ?_ ?_ _; rotate_left; focus (first | omega | (simp <;> omega))) | (with_reducible refine Below.alloc ?_ ?_ _; rotate_left; focus (first | omega | (simp <;> omega)))))
  have HB0 := Lib.hid b0
  have HA0 := Lib.hid A0
  clear b0 hW0 A0
  obtain ⟨p0, p1, p2, p3⟩ := HA0.out.cells
  go_wp2_with fail
  refine (KF.out _).mono ?_
  rintro e w1 ⟨rfl, b1⟩
  have HB1 := Lib.hid (HB0.out.trans (b1.mono HB0.out.size))
  have HA1 := Lib.hid (HA0.out.below b1 HA0.out.lt)
  clear b1 HB0 HA0 p0 p1 p2 p3
  obtain ⟨p0, p1, p2, p3⟩ := HA1.out.cells
  have l1 := HA1.out.lt
  cases hK : fmK s.toList with
  | false =>
    go_wp2_with fail
    go_ret
    have hb := HB1.out
    refine ⟨congrArg (fun x => Ending.returned (.int .i64 x)) ?_, (by have hszz := hb.size; repeat (first | with_reducible exact hb | with_reducible apply Below.drew | with_reducible refine below_drewN ?_ _ | (with_reducible refine Below.setCell ?_ ?_ _; rotate_left; focus (first | omega | (simp <;> omega))) | (with_reducible refine Below.alloc ?_ ?_ _; rotate_left; focus (first | omega | (simp <;> omega)))))⟩
    simp [fmE, *]
  | true =>
    go_wp2_with fail
    all_goals go_ret
    all_goals have hb := HB1.out
    all_goals refine ⟨congrArg (fun x => Ending.returned (.int .i64 x)) ?_, (by have hszz := hb.size; repeat (first | with_reducible exact hb | with_reducible apply Below.drew | with_reducible refine below_drewN ?_ _ | (with_reducible refine Below.setCell ?_ ?_ _; rotate_left; focus (first | omega | (simp <;> omega))) | (with_reducible refine Below.alloc ?_ ?_ _; rotate_left; focus (first | omega | (simp <;> omega)))))⟩
    all_goals simp_all [fmE]

theorem kern_fm : fmA kwKernel = 1 ∧ fmB kwKernel = 1 ∧ fmC kwKernel = 0 ∧ fmK kwKernel = true := ⟨rfl, rfl, rfl, rfl⟩
set_option maxRecDepth 100000 in
set_option maxHeartbeats 1000000 in
theorem checkform_k (s : ByteArray) (hs : s.size ≤ maxLen) (ia : Option Addr) (nin cin : Nat) (la : Option Addr) (nI cI : Nat) (ra : Option Addr) (nR cR : Nat) (hz : s.toList = kwKernel) (hn : nI ≠ 1) (k : Int) (w : World) :
    Calls Tryz.prog 8 #[ndV s ia nin cin la nI cI ra nR cR] w fun e w' => e = .returned (.int .i64 (fmE s.toList nin nI nR k)) ∧ Below w.heap.size w w' := by
  have hC : fmE kwKernel nin nI nR k = 2 := by
    obtain ⟨f1, f2, f3, f4⟩ := kern_fm
    unfold fmE
    rw [f1, f2, f4, if_neg (by decide)]
    by_cases h : (nin : Int) = 1
    · rw [if_neg (by omega), if_pos (by omega)]
    · rw [if_pos h]
  rw [hz, hC]
  clear hC
  have KF := Lib.hid (fun w => formOf_any s hs w)
  rw [hz] at KF
  obtain ⟨f1, f2, f3, f4⟩ := kern_fm
  rw [f1, f2, f3, f4] at KF
  clear hs f1 f2 f3 f4
  go_enter Tryz.func8, Tryz.ntmps8
  go_upto_region 1 with fail
  generalize hW0 : w.alloc (.cells #[.string s, .slice ia nin cin, .slice la nI cI, .slice ra nR cR] 25) = W0
  have A0 : NdAt W0 w.heap.size s ia nin cin la nI cI ra nR cR := by subst hW0; exact NdAt.new _ _ _ _ _ _ _ _ _ _ _
  have b0 : Below w.heap.size w W0 := by subst hW0; exact (by repeat (first | with_reducible exact Below.refl _ _ | with_reducible apply Below.drew | with_reducible refine below_drewN ?_ _ | (with_reducible refine Below.setCell ?_ ?_ _; rotate_left; focus (first | omega | (simp <;> omega))) | (with_reducible refine Below.alloc ?_ ?_ _; rotate_left; focus (first | omega | (simp <;> omega)))))
  have HB0 := Lib.hid b0
  have HA0 := Lib.hid A0
  clear b0 hW0 A0
  obtain ⟨p0, p1, p2, p3⟩ := HA0.out.cells
  go_wp2_with fail
  refine (KF.out _).mono ?_
  rintro e w1 ⟨rfl, b1⟩
  have HB1 := Lib.hid (HB0.out.trans (b1.mono HB0.out.size))
  have HA1 := Lib.hid (HA0.out.below b1 HA0.out.lt)
  clear b1 HB0 HA0 p0 p1 p2 p3
  obtain ⟨p0, p1, p2, p3⟩ := HA1.out.cells
  have l1 := HA1.out.lt
  have hn2 : ((nI : Int) != 1) = true := by simp; omega
  by_cases hq : (nin : Int) = 1
  · go_wp2_with fail
    go_ret
    have hb := HB1.out
    exact ⟨rfl, (by have hszz := hb.size; repeat (first | with_reducible exact hb | with_reducible apply Below.drew | with_reducible refine below_drewN ?_ _ | (with_reducible refine Below.setCell ?_ ?_ _; rotate_left; focus (first | omega | (simp <;> omega))) | (with_reducible refine Below.alloc ?_ ?_ _; rotate_left; focus (first | omega | (simp <;> omega)))))⟩
  · go_wp2_with fail
    go_ret
    have hb := HB1.out
    exact ⟨rfl, (by have hszz := hb.size; repeat (first | with_reducible exact hb | with_reducible apply Below.drew | with_reducible refine below_drewN ?_ _ | (with_reducible refine Below.setCell ?_ ?_ _; rotate_left; focus (first | omega | (simp <;> omega))) | (with_reducible refine Below.alloc ?_ ?_ _; rotate_left; focus (first | omega | (simp <;> omega)))))⟩
set_option maxRecDepth 100000 in
set_option maxHeartbeats 1000000 in
theorem checkform_k1 (s : ByteArray) (hs : s.size ≤ maxLen) (ia : Option Addr) (nin cin : Nat) (b o cI : Nat) (ra : Option Addr) (nR cR : Nat) (hz : s.toList = kwKernel) (k : Int) (w : World) (hI : ZRow w (some ⟨b, o, none⟩) [k]) :
    Calls Tryz.prog 8 #[ndV s ia nin cin (some ⟨b, o, none⟩) 1 cI ra nR cR] w fun e w' => e = .returned (.int .i64 (fmE s.toList nin 1 nR k)) ∧ Below w.heap.size w w' := by
  have HI0 := Lib.hid hI
  have KS := Lib.hid (fun w => side_any k w)
  clear hI
  rw [hz]
  have KF := Lib.hid (fun w => formOf_any s hs w)
  rw [hz] at KF
  obtain ⟨f1, f2, f3, f4⟩ := kern_fm
  rw [f1, f2, f3, f4] at KF
  clear hs f1 f2 f3 f4
  go_enter Tryz.func8, Tryz.ntmps8
  go_upto_region 1 with fail
  obtain ⟨la, hla⟩ : ∃ la, la = some (Addr.mk b o none) := ⟨_, rfl⟩
  obtain ⟨nI, hnI⟩ : ∃ nI, nI = 1 := ⟨_, rfl⟩
  generalize hW0 : w.alloc (.cells #[.string s, .slice ia nin cin, .slice (some ⟨b, o, none⟩) 1 cI, .slice ra nR cR] 25) = W0
  rw [← hla, ← hnI] at hW0
  have A0 : NdAt W0 w.heap.size s ia nin cin la nI cI ra nR cR := by subst hW0; exact NdAt.new _ _ _ _ _ _ _ _ _ _ _
  have b0 : Below w.heap.size w W0 := by subst hW0; exact (by repeat (first | with_reducible exact Below.refl _ _ | with_reducible apply Below.drew | with_reducible refine below_drewN ?_ _ | (with_reducible refine Below.setCell ?_ ?_ _; rotate_left; focus (first | omega | (simp <;> omega))) | (with_reducible refine Below.alloc ?_ ?_ _; rotate_left; focus (first | omega | (simp <;> omega)))))
  have HB0 := Lib.hid b0
  have HA0 := Lib.hid A0
  clear b0 hW0 A0
  obtain ⟨p0, p1, p2, p3⟩ := HA0.out.cells
  go_wp2_with fail
  refine (KF.out _).mono ?_
  rintro e w1 ⟨rfl, b1⟩
  have HB1 := Lib.hid (HB0.out.trans (b1.mono HB0.out.size))
  have HA1 := Lib.hid (HA0.out.below b1 HA0.out.lt)
  have HI1 := Lib.hid ((HI0.out.below (by have := HB0.out; exact this)).below b1)
  clear b1 HB0 HA0 p0 p1 p2 p3 HI0
  obtain ⟨p0, p1, p2, p3⟩ := HA1.out.cells
  rw [hla, hnI] at p2
  have l1 := HA1.out.lt
  have i0 : w1.cell? ⟨b, o, none⟩ = some (.int .i64 k) := HI1.out.at_ 0 (by simp)
  have lb : b < w1.heap.size := HI1.out.lt (by simp)
  have HLA := Lib.hid hla
  have HNI := Lib.hid hnI
  clear hla hnI
  by_cases hq : (nin : Int) = 1
  · go_wp2_with fail
    refine (KS.out _).mono ?_
    rintro e w2 ⟨rfl, rfl⟩
    cases hS : sideB k with
    | false =>
      go_wp2_with fail
      go_ret
      have hb := HB1.out
      refine ⟨congrArg (fun x => Ending.returned (.int .i64 x)) ?_, (by have hszz := hb.size; repeat (first | with_reducible exact hb | with_reducible apply Below.drew | with_reducible refine below_drewN ?_ _ | (with_reducible refine Below.setCell ?_ ?_ _; rotate_left; focus (first | omega | (simp <;> omega))) | (with_reducible refine Below.alloc ?_ ?_ _; rotate_left; focus (first | omega | (simp <;> omega)))))⟩
      simp_all [fmE, kern_fm]
    | true =>
      have HS := Lib.hid hS
      go_upto_region 9 with fail
      clear hS
      generalize hW2 : w1.alloc (.cells #[.int .i64 1, .int .i64 1, .int .i64 0] 38) = W2
      have B2 : Below w1.heap.size w1 W2 := by subst hW2; exact (by repeat (first | with_reducible exact Below.refl _ _ | with_reducible apply Below.drew | with_reducible refine below_drewN ?_ _ | (with_reducible refine Below.setCell ?_ ?_ _; rotate_left; focus (first | omega | (simp <;> omega))) | (with_reducible refine Below.alloc ?_ ?_ _; rotate_left; focus (first | omega | (simp <;> omega)))))
      have hk : W2.heap[w1.heap.size]? = some (.cells #[.int .i64 1, .int .i64 1, .int .i64 0] 38 (0, 0)) := by subst hW2; exact heap_alloc_new w1 _
      have HA2 := Lib.hid (HA1.out.below B2 HA1.out.lt)
      have HB2 := Lib.hid (HB1.out.trans (B2.mono HB1.out.size))
      have HI2 := Lib.hid (HI1.out.below B2)
      have lt2 : w1.heap.size < W2.heap.size := by subst hW2; simp
      have HL : Hid (w.heap.size < w1.heap.size) := l1
      clear hW2 B2 p0 p1 p2 p3 i0 lb l1 HB1 HA1 HI1
      generalize w1.heap.size = f at *
      obtain ⟨p0, p1, p2, p3⟩ := HA2.out.cells
      rw [HLA.out, HNI.out] at p2
      have i0 : W2.cell? ⟨b, o, none⟩ = some (.int .i64 k) := HI2.out.at_ 0 (by simp)
      have d2 : W2.cell? ⟨f, 2, none⟩ = some (.int .i64 0) := cell_of_row W2 _ 2 _ _ _ hk
      have q2 : W2.frozen? ⟨f, 2, none⟩ = false := frozen_of_row W2 _ 2 _ _ hk
      have lf := HA2.out.lt
      have hkk : IntKind.i64.wrap (k * k) = k * k := by
        have hS := HS.out
        unfold sideB at hS
        simp at hS
        have h1 := Int.mul_le_mul hS.1.2 hS.1.2 (by omega) (by omega : (0 : Int) ≤ 15)
        have h2 := Int.mul_nonneg (by omega : 0 ≤ k) (by omega : 0 ≤ k)
        exact IntWalk.i64_in _ (by omega)
      clear hk
      have hl := HL.out
      have HK := Lib.hid hkk
      go_still_tail 10, (by kernel_rfl)
      clear hkk
      change wpList _ _ _ _ _ W2.drew
      have HB3 : Hid (Below w.heap.size w W2.drew) := HB2.out.drew
      clear HB2 HI2 i0 p0 p1 p2 HA2 HLA HNI
      change W2.drew.cell? _ = _ at p3
      change W2.drew.cell? _ = _ at d2
      change W2.drew.frozen? _ = _ at q2
      change _ < W2.drew.heap.size at lf
      change _ < W2.drew.heap.size at lt2
      generalize W2.drew = W3 at *
      go_wp2_with fail
      all_goals go_ret
      all_goals have hb := HB3.out
      all_goals refine ⟨congrArg (fun x => Ending.returned (.int .i64 x)) ?_, (by have hszz := hb.size; repeat (first | with_reducible exact hb | with_reducible apply Below.drew | with_reducible refine below_drewN ?_ _ | (with_reducible refine Below.setCell ?_ ?_ _; rotate_left; focus (first | omega | (simp <;> omega))) | (with_reducible refine Below.alloc ?_ ?_ _; rotate_left; focus (first | omega | (simp <;> omega)))))⟩
      all_goals have hS := HS.out
      all_goals clear HS HB3 HK HL KS KF d2 q2 p3
      all_goals simp_all [fmE, kern_fm]
  · go_wp2_with fail
    go_ret
    have hb := HB1.out
    refine ⟨congrArg (fun x => Ending.returned (.int .i64 x)) ?_, (by have hszz := hb.size; repeat (first | with_reducible exact hb | with_reducible apply Below.drew | with_reducible refine below_drewN ?_ _ | (with_reducible refine Below.setCell ?_ ?_ _; rotate_left; focus (first | omega | (simp <;> omega))) | (with_reducible refine Below.alloc ?_ ?_ _; rotate_left; focus (first | omega | (simp <;> omega)))))⟩
    simp_all [fmE, kern_fm]
end Go.Proofs.YtimhpmccmafnpaaGreat

namespace Go.Proofs.YtimhpmccmafnpaaGreat
open Go.ChangeShapes Go.WideShapes Go.ChangeAt Go.RowKit
set_option linter.unusedVariables false

set_option maxRecDepth 100000 in
set_option maxHeartbeats 1000000 in
theorem refcount_o (s : ByteArray) (ia : Option Addr) (nin cin : Nat) (la : Option Addr) (nI cI : Nat) (ra : Option Addr) (nR cR : Nat) (hz : (s.toList == kwKernel) = false) (w : World) :
    Calls Tryz.prog 33 #[ndV s ia nin cin la nI cI ra nR cR] w fun e w' => e = .returned (.int .i64 (fmE s.toList nin nI nR 0)) ∧ Below w.heap.size w w' := by
  have KF := Lib.hid (fun w => refform_any s w)
  go_enter Tryz.func33, Tryz.ntmps33
  go_upto_region 1 with fail
  generalize hW0 : w.alloc (.cells #[.string s, .slice ia nin cin, .slice la nI cI, .slice ra nR cR] 25) = W0
  have A0 : NdAt W0 w.heap.size s ia nin cin la nI cI ra nR cR := by subst hW0; exact NdAt.new _ _ _ _ _ _ _ _ _ _ _
  have b0 : Below w.heap.size w W0 := by subst hW0; exact (by repeat (first | with_reducible exact Below.refl _ _ | with_reducible apply Below.drew | with_reducible refine below_drewN ?_ _ | (with_reducible refine Below.setCell ?_ ?_ _; rotate_left; focus (first | omega | (simp <;> omega))) | (with_reducible refine Below.alloc ?_ ?_ _; rotate_left; focus (first | omega | (simp <;> omega)))))
  have HB0 := Lib.hid b0
  have HA0 := Lib.hid A0
  clear b0 hW0 A0
  obtain ⟨p0, p1, p2, p3⟩ := HA0.out.cells
  have l0 := HA0.out.lt
  go_wp2_with fail
  refine (KF.out _).mono ?_
  rintro e w1 ⟨rfl, rfl⟩
  cases hK : fmK s.toList with
  | false =>
    go_wp2_with fail
    go_ret
    have hb := HB0.out
    refine ⟨congrArg (fun x => Ending.returned (.int .i64 x)) ?_, (by have hszz := hb.size; repeat (first | with_reducible exact hb | with_reducible apply Below.drew | with_reducible refine below_drewN ?_ _ | (with_reducible refine Below.setCell ?_ ?_ _; rotate_left; focus (first | omega | (simp <;> omega))) | (with_reducible refine Below.alloc ?_ ?_ _; rotate_left; focus (first | omega | (simp <;> omega)))))⟩
    simp [fmE, *]
  | true =>
    by_cases h1 : (nin : Int) = fmA s.toList
    · by_cases h2 : (nI : Int) = fmB s.toList
      · by_cases h3 : (nR : Int) = fmC s.toList
        · have HC : Hid (fmE s.toList nin nI nR 0 = 0) := by unfold fmE Hid; rw [if_neg (by simp [hK]), if_neg (by simpa using h1), if_neg (by simpa using h2), hz, if_neg (by decide), if_neg (by simpa using h3)]
          have hn1 : ((nin : Int) != fmA s.toList) = false := by simpa using h1
          have hn2 : ((nI : Int) != fmB s.toList) = false := by simpa using h2
          have hn3 : ((nR : Int) != fmC s.toList) = false := by simpa using h3
          clear h1 h2 h3
          go_wp2_with fail
          go_ret
          have hb := HB0.out
          refine ⟨congrArg (fun x => Ending.returned (.int .i64 x)) ?_, (by have hszz := hb.size; repeat (first | with_reducible exact hb | with_reducible apply Below.drew | with_reducible refine below_drewN ?_ _ | (with_reducible refine Below.setCell ?_ ?_ _; rotate_left; focus (first | omega | (simp <;> omega))) | (with_reducible refine Below.alloc ?_ ?_ _; rotate_left; focus (first | omega | (simp <;> omega)))))⟩
          exact HC.out.symm
        · have HC : Hid (fmE s.toList nin nI nR 0 = 2) := by unfold fmE Hid; rw [if_neg (by simp [hK]), if_neg (by simpa using h1), if_neg (by simpa using h2), hz, if_neg (by decide), if_pos (by simpa using h3)]
          have hn1 : ((nin : Int) != fmA s.toList) = false := by simpa using h1
          have hn2 : ((nI : Int) != fmB s.toList) = false := by simpa using h2
          have hn3 : ((nR : Int) != fmC s.toList) = true := by simpa using h3
          clear h1 h2 h3
          go_wp2_with fail
          go_ret
          have hb := HB0.out
          refine ⟨congrArg (fun x => Ending.returned (.int .i64 x)) ?_, (by have hszz := hb.size; repeat (first | with_reducible exact hb | with_reducible apply Below.drew | with_reducible refine below_drewN ?_ _ | (with_reducible refine Below.setCell ?_ ?_ _; rotate_left; focus (first | omega | (simp <;> omega))) | (with_reducible refine Below.alloc ?_ ?_ _; rotate_left; focus (first | omega | (simp <;> omega)))))⟩
          exact HC.out.symm
      · have HC : Hid (fmE s.toList nin nI nR 0 = 2) := by unfold fmE Hid; rw [if_neg (by simp [hK]), if_neg (by simpa using h1), if_pos (by simpa using h2)]
        have hn1 : ((nin : Int) != fmA s.toList) = false := by simpa using h1
        have hn2 : ((nI : Int) != fmB s.toList) = true := by simpa using h2
        clear h1 h2
        go_wp2_with fail
        go_ret
        have hb := HB0.out
        refine ⟨congrArg (fun x => Ending.returned (.int .i64 x)) ?_, (by have hszz := hb.size; repeat (first | with_reducible exact hb | with_reducible apply Below.drew | with_reducible refine below_drewN ?_ _ | (with_reducible refine Below.setCell ?_ ?_ _; rotate_left; focus (first | omega | (simp <;> omega))) | (with_reducible refine Below.alloc ?_ ?_ _; rotate_left; focus (first | omega | (simp <;> omega)))))⟩
        exact HC.out.symm
    · have HC : Hid (fmE s.toList nin nI nR 0 = 2) := by unfold fmE Hid; rw [if_neg (by simp [hK]), if_pos (by simpa using h1)]
      have hn1 : ((nin : Int) != fmA s.toList) = true := by simpa using h1
      clear h1
      go_wp2_with fail
      go_ret
      have hb := HB0.out
      refine ⟨congrArg (fun x => Ending.returned (.int .i64 x)) ?_, (by have hszz := hb.size; repeat (first | with_reducible exact hb | with_reducible apply Below.drew | with_reducible refine below_drewN ?_ _ | (with_reducible refine Below.setCell ?_ ?_ _; rotate_left; focus (first | omega | (simp <;> omega))) | (with_reducible refine Below.alloc ?_ ?_ _; rotate_left; focus (first | omega | (simp <;> omega)))))⟩
      exact HC.out.symm
set_option maxRecDepth 100000 in
set_option maxHeartbeats 1000000 in
theorem refcount_k (s : ByteArray) (ia : Option Addr) (nin cin : Nat) (la : Option Addr) (nI cI : Nat) (ra : Option Addr) (nR cR : Nat) (hz : s.toList = kwKernel) (hn : nI ≠ 1) (k : Int) (w : World) :
    Calls Tryz.prog 33 #[ndV s ia nin cin la nI cI ra nR cR] w fun e w' => e = .returned (.int .i64 (fmE s.toList nin nI nR k)) ∧ Below w.heap.size w w' := by
  have hC : fmE kwKernel nin nI nR k = 2 := by
    obtain ⟨f1, f2, f3, f4⟩ := kern_fm
    unfold fmE
    rw [f1, f2, f4, if_neg (by decide)]
    by_cases h : (nin : Int) = 1
    · rw [if_neg (by omega), if_pos (by omega)]
    · rw [if_pos h]
  rw [hz, hC]
  clear hC
  have KF := Lib.hid (fun w => refform_any s w)
  rw [hz] at KF
  obtain ⟨f1, f2, f3, f4⟩ := kern_fm
  rw [f1, f2, f3, f4] at KF
  clear f1 f2 f3 f4
  go_enter Tryz.func33, Tryz.ntmps33
  go_upto_region 1 with fail
  generalize hW0 : w.alloc (.cells #[.string s, .slice ia nin cin, .slice la nI cI, .slice ra nR cR] 25) = W0
  have A0 : NdAt W0 w.heap.size s ia nin cin la nI cI ra nR cR := by subst hW0; exact NdAt.new _ _ _ _ _ _ _ _ _ _ _
  have b0 : Below w.heap.size w W0 := by subst hW0; exact (by repeat (first | with_reducible exact Below.refl _ _ | with_reducible apply Below.drew | with_reducible refine below_drewN ?_ _ | (with_reducible refine Below.setCell ?_ ?_ _; rotate_left; focus (first | omega | (simp <;> omega))) | (with_reducible refine Below.alloc ?_ ?_ _; rotate_left; focus (first | omega | (simp <;> omega)))))
  have HB0 := Lib.hid b0
  have HA0 := Lib.hid A0
  clear b0 hW0 A0
  obtain ⟨p0, p1, p2, p3⟩ := HA0.out.cells
  have l0 := HA0.out.lt
  go_wp2_with fail
  refine (KF.out _).mono ?_
  rintro e w1 ⟨rfl, rfl⟩
  have hn2 : ((nI : Int) != 1) = true := by simp; omega
  by_cases hq : (nin : Int) = 1
  · go_wp2_with fail
    go_ret
    have hb := HB0.out
    refine ⟨congrArg (fun x => Ending.returned (.int .i64 x)) ?_, (by have hszz := hb.size; repeat (first | with_reducible exact hb | with_reducible apply Below.drew | with_reducible refine below_drewN ?_ _ | (with_reducible refine Below.setCell ?_ ?_ _; rotate_left; focus (first | omega | (simp <;> omega))) | (with_reducible refine Below.alloc ?_ ?_ _; rotate_left; focus (first | omega | (simp <;> omega)))))⟩
    rfl
  · go_wp2_with fail
    go_ret
    have hb := HB0.out
    refine ⟨congrArg (fun x => Ending.returned (.int .i64 x)) ?_, (by have hszz := hb.size; repeat (first | with_reducible exact hb | with_reducible apply Below.drew | with_reducible refine below_drewN ?_ _ | (with_reducible refine Below.setCell ?_ ?_ _; rotate_left; focus (first | omega | (simp <;> omega))) | (with_reducible refine Below.alloc ?_ ?_ _; rotate_left; focus (first | omega | (simp <;> omega)))))⟩
    rfl
set_option maxRecDepth 100000 in
set_option maxHeartbeats 1000000 in
theorem refcount_k1 (s : ByteArray) (ia : Option Addr) (nin cin : Nat) (b o cI : Nat) (ra : Option Addr) (nR cR : Nat) (hz : s.toList = kwKernel) (k : Int) (w : World) (hI : ZRow w (some ⟨b, o, none⟩) [k]) :
    Calls Tryz.prog 33 #[ndV s ia nin cin (some ⟨b, o, none⟩) 1 cI ra nR cR] w fun e w' => e = .returned (.int .i64 (fmE s.toList nin 1 nR k)) ∧ Below w.heap.size w w' := by
  have HI0 := Lib.hid hI
  have KS := Lib.hid (fun w => refside_any k w)
  clear hI
  rw [hz]
  have KF := Lib.hid (fun w => refform_any s w)
  rw [hz] at KF
  obtain ⟨f1, f2, f3, f4⟩ := kern_fm
  rw [f1, f2, f3, f4] at KF
  clear f1 f2 f3 f4
  go_enter Tryz.func33, Tryz.ntmps33
  go_upto_region 1 with fail
  obtain ⟨la, hla⟩ : ∃ la, la = some (Addr.mk b o none) := ⟨_, rfl⟩
  obtain ⟨nI, hnI⟩ : ∃ nI, nI = 1 := ⟨_, rfl⟩
  rw [show w.alloc (.cells #[.string s, .slice ia nin cin, .slice (some ⟨b, o, none⟩) 1 cI, .slice ra nR cR] 25) = w.alloc (.cells #[.string s, .slice ia nin cin, .slice la nI cI, .slice ra nR cR] 25) from by rw [hla, hnI]]
  generalize hW0 : w.alloc (.cells #[.string s, .slice ia nin cin, .slice la nI cI, .slice ra nR cR] 25) = W0
  have A0 : NdAt W0 w.heap.size s ia nin cin la nI cI ra nR cR := by subst hW0; exact NdAt.new _ _ _ _ _ _ _ _ _ _ _
  have b0 : Below w.heap.size w W0 := by subst hW0; exact (by repeat (first | with_reducible exact Below.refl _ _ | with_reducible apply Below.drew | with_reducible refine below_drewN ?_ _ | (with_reducible refine Below.setCell ?_ ?_ _; rotate_left; focus (first | omega | (simp <;> omega))) | (with_reducible refine Below.alloc ?_ ?_ _; rotate_left; focus (first | omega | (simp <;> omega)))))
  have HB0 := Lib.hid b0
  have HA0 := Lib.hid A0
  clear b0 hW0 A0
  obtain ⟨p0, p1, p2, p3⟩ := HA0.out.cells
  have l0 := HA0.out.lt
  rw [hla, hnI] at p2
  have HI1 := Lib.hid (HI0.out.below HB0.out)
  have i0 : W0.cell? ⟨b, o, none⟩ = some (.int .i64 k) := HI1.out.at_ 0 (by simp)
  have lb : b < W0.heap.size := HI1.out.lt (by simp)
  clear HI0 HI1 HA0 hla hnI
  go_wp2_with fail
  refine (KF.out _).mono ?_
  rintro e w1 ⟨rfl, rfl⟩
  by_cases hq : (nin : Int) = 1
  · go_wp2_with fail
    refine (KS.out _).mono ?_
    rintro e w2 ⟨rfl, rfl⟩
    cases hS : sideB k with
    | false =>
      go_wp2_with fail
      go_ret
      have hb := HB0.out
      refine ⟨congrArg (fun x => Ending.returned (.int .i64 x)) ?_, (by have hszz := hb.size; repeat (first | with_reducible exact hb | with_reducible apply Below.drew | with_reducible refine below_drewN ?_ _ | (with_reducible refine Below.setCell ?_ ?_ _; rotate_left; focus (first | omega | (simp <;> omega))) | (with_reducible refine Below.alloc ?_ ?_ _; rotate_left; focus (first | omega | (simp <;> omega)))))⟩
      simp_all [fmE, kern_fm]
    | true =>
      have HS := Lib.hid hS
      have hkk : IntKind.i64.wrap (k * k) = k * k := by
        have hS := HS.out
        unfold sideB at hS
        simp at hS
        have h1 := Int.mul_le_mul hS.1.2 hS.1.2 (by omega) (by omega : (0 : Int) ≤ 15)
        have h2 := Int.mul_nonneg (by omega : 0 ≤ k) (by omega : 0 ≤ k)
        exact IntWalk.i64_in _ (by omega)
      go_wp2_with fail
      go_quiet (fail)
      go_wp2_with fail
      all_goals go_ret
      all_goals have hb := HB0.out
      all_goals refine ⟨congrArg (fun x => Ending.returned (.int .i64 x)) ?_, (by have hszz := hb.size; repeat (first | with_reducible exact hb | with_reducible apply Below.drew | with_reducible refine below_drewN ?_ _ | (with_reducible refine Below.setCell ?_ ?_ _; rotate_left; focus (first | omega | (simp <;> omega))) | (with_reducible refine Below.alloc ?_ ?_ _; rotate_left; focus (first | omega | (simp <;> omega)))))⟩
      all_goals clear hkk hb HS p0 p1 p2 p3 i0 KS KF
      all_goals simp_all [fmE, kern_fm]
  · go_wp2_with fail
    go_ret
    have hb := HB0.out
    refine ⟨congrArg (fun x => Ending.returned (.int .i64 x)) ?_, (by have hszz := hb.size; repeat (first | with_reducible exact hb | with_reducible apply Below.drew | with_reducible refine below_drewN ?_ _ | (with_reducible refine Below.setCell ?_ ?_ _; rotate_left; focus (first | omega | (simp <;> omega))) | (with_reducible refine Below.alloc ?_ ?_ _; rotate_left; focus (first | omega | (simp <;> omega)))))⟩
    simp_all [fmE, kern_fm]
end Go.Proofs.YtimhpmccmafnpaaGreat
