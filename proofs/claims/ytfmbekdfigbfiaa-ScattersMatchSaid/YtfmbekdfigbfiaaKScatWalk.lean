import Derived.Test.YtfmbekdfigbfiaaKScatLaw
import Derived.BigQuiet
import Derived.Deep.DeepCutAuto
import Derived.Deep.CutBlock
namespace Go.Proofs.Ytfmbekdfigbfiaa
open Go.ChangeShapes Go.WideShapes Go.ChangeAt Go.RowKit
open Ieee.Format (fin finE htE allFin allHt all_true all_false mulF subF addF Ht Bd divF rootF floorF easeF mixF)
set_option linter.unusedVariables false
open Wide

set_option maxRecDepth 100000 in
set_option maxHeartbeats 4000000 in
theorem scat_bad1 (seed c : Int) (sh : Nat) (ap X Y A B T0 T1 T2 T3 : Int) (p q : Nat) (hp : p ≤ 31) (hq : q ≤ 31) (eA : bits .and .i64 A 31 = (p : Int)) (eB : bits .and .i64 B 31 = (q : Int)) (E : Int) (hE : (E != 0) = true) (hE2 : (E == 0) = false)  (w : World)
    (KC1 : Hid (∀ w, Calls Try.prog 45 #[scV seed c sh ap] w fun e w' => e = .returned (.int .i64 E) ∧ Below w.heap.size w w'))
    (KC2 : Hid (∀ w, Calls Try.prog 44 #[scV seed c sh ap] w fun e w' => e = .returned (.int .i64 E) ∧ Below w.heap.size w w'))
    (KS : Hid (∀ w, Calls Try.prog 46 #[scV seed c sh ap, reg X Y (1 + (p : Int)) (1 + (q : Int))] w fun e w' => e = .returned (.tuple #[.slice none 0 0, .int .i64 E]) ∧ Below w.heap.size w w')) :
    Calls Try.prog 7 #[scV seed c sh ap, reg X Y A B, reg T0 T1 T2 T3] w fun e w' => e = .returned (.bool true) ∧ Below w.heap.size w w' := by
  have hEE : (E != E) = false := by simp
  have hEQ : (E == E) = true := by simp
  unfold scV scC at *
  go_enter Try.func7, Try.ntmps7
  go_upto_region 1 with fail
  generalize hW0 : ((w.alloc (.cells #[.int .u32 seed, .int .i64 c, .float .f32 sh, .int .i64 ap] 93)).alloc (.cells #[.int .i64 X, .int .i64 Y, .int .i64 A, .int .i64 B] 23)).alloc (.cells #[.int .i64 T0, .int .i64 T1, .int .i64 T2, .int .i64 T3] 23) = W0 at *
  have S0 := Lib.hid (sc_start w seed c sh ap X Y A B T0 T1 T2 T3 W0 hW0.symm)
  clear hW0
  go_wp2_with fail
  refine (landed_bel _).mono ?_
  rintro e w1 ⟨rfl, b1⟩
  have S1 := Lib.hid (S0.out.below b1)
  clear b1 S0
  have s0 := S1.out.s.cell 0
  have s1 := S1.out.s.cell 1
  have s2 := S1.out.s.cell 2
  have s3 := S1.out.s.cell 3
  unfold scC at s0 s1 s2 s3
  simp at s0 s1 s2 s3
  have ls := S1.out.s.lt
  go_wp2_with fail
  refine (KC2.out _).mono ?_
  rintro e w2 ⟨rfl, b2⟩
  have S2 := Lib.hid (S1.out.below b2)
  clear b2 S1 s0 s1 s2 s3 ls KC2
  have s0 := S2.out.s.cell 0
  have s1 := S2.out.s.cell 1
  have s2 := S2.out.s.cell 2
  have s3 := S2.out.s.cell 3
  unfold scC at s0 s1 s2 s3
  simp at s0 s1 s2 s3
  have ls := S2.out.s.lt
  go_wp2_with fail
  refine (KC1.out _).mono ?_
  rintro e w3 ⟨rfl, b3⟩
  have S3 := Lib.hid (S2.out.below b3)
  clear b3 S2 s0 s1 s2 s3 ls KC1
  obtain ⟨r0, r1, r2, r3⟩ := S3.out.r.cells
  have lr := S3.out.r.lt
  have f2 := frozen_of_row _ _ 2 _ _ S3.out.r
  have f3 := frozen_of_row _ _ 3 _ _ S3.out.r
  have v1 : IntKind.i64.wrap (1 + (p : Int)) = 1 + (p : Int) := IntWalk.i64_in _ (by omega)
  have v2 : IntKind.i64.wrap (1 + (q : Int)) = 1 + (q : Int) := IntWalk.i64_in _ (by omega)
  go_upto_region 7 with fail
  have S4 := Lib.hid (S3.out.store (1 + (p : Int)) (1 + (q : Int)))
  generalize (w3.setCell ⟨w.heap.size + 1, 2, none⟩ (.int .i64 (1 + (p : Int)))).setCell ⟨w.heap.size + 1, 3, none⟩ (.int .i64 (1 + (q : Int))) = w4 at *
  clear r0 r1 r2 r3 f2 f3 lr S3
  obtain ⟨r0, r1, r2, r3⟩ := S4.out.r.cells
  have lr := S4.out.r.lt
  have s0 := S4.out.s.cell 0
  have s1 := S4.out.s.cell 1
  have s2 := S4.out.s.cell 2
  have s3 := S4.out.s.cell 3
  unfold scC at s0 s1 s2 s3
  simp at s0 s1 s2 s3
  have ls := S4.out.s.lt
  go_wp2_with fail
  refine (KS.out _).mono ?_
  rintro e w5 ⟨rfl, b5⟩
  have S5 := Lib.hid (S4.out.below b5)
  clear b5 S4 s0 s1 s2 s3 ls r0 r1 r2 r3 lr KS
  go_wp2_with fail
  go_ret
  exact ⟨rfl, S5.out.b⟩
set_option maxRecDepth 100000 in
set_option maxHeartbeats 4000000 in
theorem scat_bad2 (seed c : Int) (sh : Nat) (ap X Y A B T0 T1 T2 T3 : Int) (p q : Nat) (hp : p ≤ 31) (hq : q ≤ 31) (eA : bits .and .i64 A 31 = (p : Int)) (eB : bits .and .i64 B 31 = (q : Int)) (E : Int) (hE : (E != 0) = true) (hE2 : (E == 0) = false) (w : World)
    (KC1 : Hid (∀ w, Calls Try.prog 45 #[scV seed c sh ap] w fun e w' => e = .returned (.int .i64 0) ∧ Below w.heap.size w w'))
    (KC2 : Hid (∀ w, Calls Try.prog 44 #[scV seed c sh ap] w fun e w' => e = .returned (.int .i64 0) ∧ Below w.heap.size w w'))
    (KS : Hid (∀ w, Calls Try.prog 46 #[scV seed c sh ap, reg X Y (1 + (p : Int)) (1 + (q : Int))] w fun e w' => e = .returned (.tuple #[.slice none 0 0, .int .i64 E]) ∧ Below w.heap.size w w'))
    (KR : Hid (∀ w, Calls Try.prog 47 #[reg X Y (1 + (p : Int)) (1 + (q : Int))] w fun e w' => e = .returned (.int .i64 E) ∧ Below w.heap.size w w')) :
    Calls Try.prog 7 #[scV seed c sh ap, reg X Y A B, reg T0 T1 T2 T3] w fun e w' => e = .returned (.bool true) ∧ Below w.heap.size w w' := by
  have hEE : (E != E) = false := by simp
  have hEQ : (E == E) = true := by simp
  unfold scV scC at *
  go_enter Try.func7, Try.ntmps7
  go_upto_region 1 with fail
  generalize hW0 : ((w.alloc (.cells #[.int .u32 seed, .int .i64 c, .float .f32 sh, .int .i64 ap] 93)).alloc (.cells #[.int .i64 X, .int .i64 Y, .int .i64 A, .int .i64 B] 23)).alloc (.cells #[.int .i64 T0, .int .i64 T1, .int .i64 T2, .int .i64 T3] 23) = W0 at *
  have S0 := Lib.hid (sc_start w seed c sh ap X Y A B T0 T1 T2 T3 W0 hW0.symm)
  clear hW0
  go_wp2_with fail
  refine (landed_bel _).mono ?_
  rintro e w1 ⟨rfl, b1⟩
  have S1 := Lib.hid (S0.out.below b1)
  clear b1 S0
  have s0 := S1.out.s.cell 0
  have s1 := S1.out.s.cell 1
  have s2 := S1.out.s.cell 2
  have s3 := S1.out.s.cell 3
  unfold scC at s0 s1 s2 s3
  simp at s0 s1 s2 s3
  have ls := S1.out.s.lt
  go_wp2_with fail
  refine (KC2.out _).mono ?_
  rintro e w2 ⟨rfl, b2⟩
  have S2 := Lib.hid (S1.out.below b2)
  clear b2 S1 s0 s1 s2 s3 ls KC2
  have s0 := S2.out.s.cell 0
  have s1 := S2.out.s.cell 1
  have s2 := S2.out.s.cell 2
  have s3 := S2.out.s.cell 3
  unfold scC at s0 s1 s2 s3
  simp at s0 s1 s2 s3
  have ls := S2.out.s.lt
  go_wp2_with fail
  refine (KC1.out _).mono ?_
  rintro e w3 ⟨rfl, b3⟩
  have S3 := Lib.hid (S2.out.below b3)
  clear b3 S2 s0 s1 s2 s3 ls KC1
  obtain ⟨r0, r1, r2, r3⟩ := S3.out.r.cells
  have lr := S3.out.r.lt
  have f2 := frozen_of_row _ _ 2 _ _ S3.out.r
  have f3 := frozen_of_row _ _ 3 _ _ S3.out.r
  have v1 : IntKind.i64.wrap (1 + (p : Int)) = 1 + (p : Int) := IntWalk.i64_in _ (by omega)
  have v2 : IntKind.i64.wrap (1 + (q : Int)) = 1 + (q : Int) := IntWalk.i64_in _ (by omega)
  go_upto_region 7 with fail
  have S4 := Lib.hid (S3.out.store (1 + (p : Int)) (1 + (q : Int)))
  generalize (w3.setCell ⟨w.heap.size + 1, 2, none⟩ (.int .i64 (1 + (p : Int)))).setCell ⟨w.heap.size + 1, 3, none⟩ (.int .i64 (1 + (q : Int))) = w4 at *
  clear r0 r1 r2 r3 f2 f3 lr S3
  obtain ⟨r0, r1, r2, r3⟩ := S4.out.r.cells
  have lr := S4.out.r.lt
  have s0 := S4.out.s.cell 0
  have s1 := S4.out.s.cell 1
  have s2 := S4.out.s.cell 2
  have s3 := S4.out.s.cell 3
  unfold scC at s0 s1 s2 s3
  simp at s0 s1 s2 s3
  have ls := S4.out.s.lt
  go_wp2_with fail
  refine (KS.out _).mono ?_
  rintro e w5 ⟨rfl, b5⟩
  have S5 := Lib.hid (S4.out.below b5)
  clear b5 S4 s0 s1 s2 s3 ls r0 r1 r2 r3 lr KS
  obtain ⟨r0, r1, r2, r3⟩ := S5.out.r.cells
  have lr := S5.out.r.lt
  go_wp2_with fail
  refine (KR.out _).mono ?_
  rintro e w6 ⟨rfl, b6⟩
  have S6 := Lib.hid (S5.out.below b6)
  clear b6 S5 r0 r1 r2 r3 lr KR
  go_wp2_with fail
  go_ret
  exact ⟨rfl, S6.out.b⟩
end Go.Proofs.Ytfmbekdfigbfiaa
