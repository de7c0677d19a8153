import Derived.Test.YtnfebeebjelgbaaBlendFn
import Derived.Deep.RegionHeld3
namespace Go.Proofs.Ytnfebeebjelgbaa
open Go.ChangeShapes Go.WideShapes Go.ChangeAt Go.RowKit
open Ieee.Format (fin finE htE allFin allHt all_true all_false mulF subF addF Ht Bd divF rootF floorF easeF mixF)
set_option linter.unusedVariables false

theorem ck_world (w : World) (X Y : Int) (Wn Hn : Nat) (ba oa ca bb ob cb bs os cs : Nat) (A B S : List Nat) (ha : SRow w (some ⟨ba, oa, none⟩) A) (hb : SRow w (some ⟨bb, ob, none⟩) B) (hs : SRow w (some ⟨bs, os, none⟩) S)
    (ra : Right X Y Wn Hn A) (rb : Right X Y Wn Hn B) (rs : Right X Y Wn Hn S) : ∀ W0, W0 = ((((w.alloc (.cells #[.int .i64 X, .int .i64 Y, .int .i64 Wn, .int .i64 Hn, .slice (some ⟨ba, oa, none⟩) A.length ca] 36)).alloc (.cells #[.int .i64 X, .int .i64 Y, .int .i64 Wn, .int .i64 Hn, .slice (some ⟨bb, ob, none⟩) B.length cb] 36)).alloc (.cells #[.int .i64 X, .int .i64 Y, .int .i64 Wn, .int .i64 Hn, .slice (some ⟨bs, os, none⟩) S.length cs] 36)).alloc (.cells #[.int .i64 0, .int .i64 0, .int .i64 0, .int .i64 0, .slice none 0 0] 36)).alloc
      (.cells #[.int .i64 X, .int .i64 Y, .int .i64 Wn, .int .i64 Hn, .slice (some ⟨ba, oa, none⟩) A.length ca, .int .i64 X, .int .i64 Y, .int .i64 Wn, .int .i64 Hn, .slice (some ⟨bb, ob, none⟩) B.length cb, .int .i64 X, .int .i64 Y, .int .i64 Wn, .int .i64 Hn, .slice (some ⟨bs, os, none⟩) S.length cs] 36) →
    Fld W0 w.heap.size X Y Wn Hn (.slice (some ⟨ba, oa, none⟩) A.length ca) ∧ Fld W0 (w.heap.size + 1) X Y Wn Hn (.slice (some ⟨bb, ob, none⟩) B.length cb) ∧ Fld W0 (w.heap.size + 1 + 1) X Y Wn Hn (.slice (some ⟨bs, os, none⟩) S.length cs) ∧ Fld W0 (w.heap.size + 1 + 1 + 1) 0 0 0 0 (.slice none 0 0) ∧ Below w.heap.size w W0 ∧ w.heap.size + 1 + 1 + 1 + 1 < W0.heap.size ∧
      (∀ i, i < 3 → FlAt W0 (w.heap.size + 1 + 1 + 1 + 1) (0 + i * 5)) := by
  intro W0 hW
  have b0 : Below w.heap.size w W0 := by subst hW; exact (by repeat (first | with_reducible exact Below.refl _ _ | with_reducible apply Below.drew | with_reducible refine below_drewN ?_ _ | (with_reducible refine Below.setCell ?_ ?_ _; rotate_left; focus (first | omega | (simp <;> omega))) | (with_reducible refine Below.alloc ?_ ?_ _; rotate_left; focus (first | omega | (simp <;> omega)))))
  have z : w.heap.size + 1 + 1 + 1 + 1 < W0.heap.size := by subst hW; simp
  have k : Blk W0 (w.heap.size + 1 + 1 + 1 + 1) #[.int .i64 X, .int .i64 Y, .int .i64 Wn, .int .i64 Hn, .slice (some ⟨ba, oa, none⟩) A.length ca, .int .i64 X, .int .i64 Y, .int .i64 Wn, .int .i64 Hn, .slice (some ⟨bb, ob, none⟩) B.length cb, .int .i64 X, .int .i64 Y, .int .i64 Wn, .int .i64 Hn, .slice (some ⟨bs, os, none⟩) S.length cs] 36 := by
    subst hW
    have := Blk.new ((((w.alloc (.cells #[.int .i64 X, .int .i64 Y, .int .i64 Wn, .int .i64 Hn, .slice (some ⟨ba, oa, none⟩) A.length ca] 36)).alloc (.cells #[.int .i64 X, .int .i64 Y, .int .i64 Wn, .int .i64 Hn, .slice (some ⟨bb, ob, none⟩) B.length cb] 36)).alloc (.cells #[.int .i64 X, .int .i64 Y, .int .i64 Wn, .int .i64 Hn, .slice (some ⟨bs, os, none⟩) S.length cs] 36)).alloc (.cells #[.int .i64 0, .int .i64 0, .int .i64 0, .int .i64 0, .slice none 0 0] 36)) #[.int .i64 X, .int .i64 Y, .int .i64 Wn, .int .i64 Hn, .slice (some ⟨ba, oa, none⟩) A.length ca, .int .i64 X, .int .i64 Y, .int .i64 Wn, .int .i64 Hn, .slice (some ⟨bb, ob, none⟩) B.length cb, .int .i64 X, .int .i64 Y, .int .i64 Wn, .int .i64 Hn, .slice (some ⟨bs, os, none⟩) S.length cs] 36
    simpa using this
  refine ⟨?_, ?_, ?_, ?_, b0, z, ?_⟩
  · subst hW; exact ((((Fld.new w X Y Wn Hn (.slice (some ⟨ba, oa, none⟩) A.length ca)).alloc _).alloc _).alloc _).alloc _
  · subst hW
    have := (((Fld.new (w.alloc (.cells #[.int .i64 X, .int .i64 Y, .int .i64 Wn, .int .i64 Hn, .slice (some ⟨ba, oa, none⟩) A.length ca] 36)) X Y Wn Hn (.slice (some ⟨bb, ob, none⟩) B.length cb)).alloc (.cells #[.int .i64 X, .int .i64 Y, .int .i64 Wn, .int .i64 Hn, .slice (some ⟨bs, os, none⟩) S.length cs] 36)).alloc (.cells #[.int .i64 0, .int .i64 0, .int .i64 0, .int .i64 0, .slice none 0 0] 36)).alloc (.cells #[.int .i64 X, .int .i64 Y, .int .i64 Wn, .int .i64 Hn, .slice (some ⟨ba, oa, none⟩) A.length ca, .int .i64 X, .int .i64 Y, .int .i64 Wn, .int .i64 Hn, .slice (some ⟨bb, ob, none⟩) B.length cb, .int .i64 X, .int .i64 Y, .int .i64 Wn, .int .i64 Hn, .slice (some ⟨bs, os, none⟩) S.length cs] 36)
    simpa using this
  · subst hW
    have := ((Fld.new ((w.alloc (.cells #[.int .i64 X, .int .i64 Y, .int .i64 Wn, .int .i64 Hn, .slice (some ⟨ba, oa, none⟩) A.length ca] 36)).alloc (.cells #[.int .i64 X, .int .i64 Y, .int .i64 Wn, .int .i64 Hn, .slice (some ⟨bb, ob, none⟩) B.length cb] 36)) X Y Wn Hn (.slice (some ⟨bs, os, none⟩) S.length cs)).alloc (.cells #[.int .i64 0, .int .i64 0, .int .i64 0, .int .i64 0, .slice none 0 0] 36)).alloc (.cells #[.int .i64 X, .int .i64 Y, .int .i64 Wn, .int .i64 Hn, .slice (some ⟨ba, oa, none⟩) A.length ca, .int .i64 X, .int .i64 Y, .int .i64 Wn, .int .i64 Hn, .slice (some ⟨bb, ob, none⟩) B.length cb, .int .i64 X, .int .i64 Y, .int .i64 Wn, .int .i64 Hn, .slice (some ⟨bs, os, none⟩) S.length cs] 36)
    simpa using this
  · subst hW
    have := (Fld.new (((w.alloc (.cells #[.int .i64 X, .int .i64 Y, .int .i64 Wn, .int .i64 Hn, .slice (some ⟨ba, oa, none⟩) A.length ca] 36)).alloc (.cells #[.int .i64 X, .int .i64 Y, .int .i64 Wn, .int .i64 Hn, .slice (some ⟨bb, ob, none⟩) B.length cb] 36)).alloc (.cells #[.int .i64 X, .int .i64 Y, .int .i64 Wn, .int .i64 Hn, .slice (some ⟨bs, os, none⟩) S.length cs] 36)) 0 0 0 0 (.slice none 0 0)).alloc (.cells #[.int .i64 X, .int .i64 Y, .int .i64 Wn, .int .i64 Hn, .slice (some ⟨ba, oa, none⟩) A.length ca, .int .i64 X, .int .i64 Y, .int .i64 Wn, .int .i64 Hn, .slice (some ⟨bb, ob, none⟩) B.length cb, .int .i64 X, .int .i64 Y, .int .i64 Wn, .int .i64 Hn, .slice (some ⟨bs, os, none⟩) S.length cs] 36)
    simpa using this
  · intro i hi
    clear hW
    match i, hi with
    | 0, _ => exact ⟨X, Y, Wn, Hn, ba, oa, ca, A, ra, SRow.below ha b0, k.cell 0, k.cell 1, k.cell 2, k.cell 3, k.cell 4⟩
    | 1, _ => exact ⟨X, Y, Wn, Hn, bb, ob, cb, B, rb, SRow.below hb b0, k.cell 5, k.cell 6, k.cell 7, k.cell 8, k.cell 9⟩
    | 2, _ => exact ⟨X, Y, Wn, Hn, bs, os, cs, S, rs, SRow.below hs b0, k.cell 10, k.cell 11, k.cell 12, k.cell 13, k.cell 14⟩

set_option maxRecDepth 100000 in
set_option maxHeartbeats 1000000 in
theorem blend_bad (X Y : Int) (Wn Hn : Nat) (ba oa ca bb ob cb bs os cs : Nat) (A B S : List Nat) (w : World) (ha : SRow w (some ⟨ba, oa, none⟩) A) (hb : SRow w (some ⟨bb, ob, none⟩) B) (hs : SRow w (some ⟨bs, os, none⟩) S)
    (ra : Right X Y Wn Hn A) (rb : Right X Y Wn Hn B) (rs : Right X Y Wn Hn S) (hw : S.any noWt = true) :
    Calls Try.prog 36 #[fldV X Y Wn Hn (some ⟨ba, oa, none⟩) A.length ca, fldV X Y Wn Hn (some ⟨bb, ob, none⟩) B.length cb, fldV X Y Wn Hn (some ⟨bs, os, none⟩) S.length cs] w fun e w' => e = .returned (.tuple #[fldV 0 0 0 0 none 0 0, .int .i64 3]) ∧ Below w.heap.size w w' := by
  have HS := Lib.hid hs
  have CW := Lib.hid (ck_world w X Y Wn Hn ba oa ca bb ob cb bs os cs A B S ha hb hs ra rb rs)
  have KC := Lib.hid (fun w h => contains_any 114 #[] noWt (some ⟨bs, os, none⟩) cs S w h (enters_of Try.func114 (by kernel_rfl) rfl) (fun x => noWtfn_any x w))
  rw [hw] at KC
  clear ha hb hs ra rb rs hw
  go_enter Try.func36, Try.ntmps36
  go_wp2_with fail
  generalize hW0 : ((((w.alloc (.cells #[.int .i64 X, .int .i64 Y, .int .i64 Wn, .int .i64 Hn, .slice (some ⟨ba, oa, none⟩) A.length ca] 36)).alloc (.cells #[.int .i64 X, .int .i64 Y, .int .i64 Wn, .int .i64 Hn, .slice (some ⟨bb, ob, none⟩) B.length cb] 36)).alloc (.cells #[.int .i64 X, .int .i64 Y, .int .i64 Wn, .int .i64 Hn, .slice (some ⟨bs, os, none⟩) S.length cs] 36)).alloc (.cells #[.int .i64 0, .int .i64 0, .int .i64 0, .int .i64 0, .slice none 0 0] 36)).alloc (.cells #[.int .i64 X, .int .i64 Y, .int .i64 Wn, .int .i64 Hn, .slice (some ⟨ba, oa, none⟩) A.length ca, .int .i64 X, .int .i64 Y, .int .i64 Wn, .int .i64 Hn, .slice (some ⟨bb, ob, none⟩) B.length cb, .int .i64 X, .int .i64 Y, .int .i64 Wn, .int .i64 Hn, .slice (some ⟨bs, os, none⟩) S.length cs] 36) = W0
  obtain ⟨EA, EB, ES, EZ, B0, z0, hfl⟩ := CW.out W0 hW0.symm
  clear hW0 CW
  refine (checkall_any _ 0 3 3 _ z0 (by omega) hfl).mono ?_
  rintro e w1 ⟨rfl, b1⟩
  have HEA := Lib.hid (EA.below b1 EA.lt)
  have HEB := Lib.hid (EB.below b1 EB.lt)
  have HES := Lib.hid (ES.below b1 ES.lt)
  have HEZ := Lib.hid (EZ.below b1 EZ.lt)
  have HB1 := Lib.hid (B0.trans (b1.mono B0.size))
  clear EA EB ES EZ B0 z0 hfl b1
  obtain ⟨a0, a1, a2, a3, a4⟩ := HEA.out.cells
  obtain ⟨b0, b1, b2, b3, b4⟩ := HEB.out.cells
  obtain ⟨s0, s1, s2, s3, s4⟩ := HES.out.cells
  have l3 : w.heap.size + 1 + 1 + 1 < w1.heap.size := HEZ.out.lt
  have l2 : w.heap.size + 1 + 1 < w1.heap.size := by omega
  have l1 : w.heap.size + 1 < w1.heap.size := by omega
  have l0 : w.heap.size < w1.heap.size := by omega
  have kn := fun w => neqReg X Y Wn Hn X Y Wn Hn w
  have kg := fun x y w => eqGuardReg .neq x y X Y Wn Hn X Y Wn Hn w
  go_wp2_with fail
  refine (KC.out _ (HS.out.below HB1.out)).mono ?_
  rintro e w2 ⟨rfl, rfl⟩
  clear a0 a1 a2 a3 a4 b0 b1 b2 b3 b4 s0 s1 s2 s3 s4 kn kg
  obtain ⟨d0, d1, d2, d3, d4⟩ := HEZ.out.cells
  have qf0 := HEZ.out.frozen 0
  have qf1 := HEZ.out.frozen 1
  have qf2 := HEZ.out.frozen 2
  have qf3 := HEZ.out.frozen 3
  have qf4 := HEZ.out.frozen 4
  go_wp2_with fail
  have B3 := HB1.out
  exact bodyPost_ret (v := .tuple #[fldV 0 0 0 0 none 0 0, .int .i64 3]) (by simp [results, Try.results36, go_sem, *]) rfl ⟨rfl, (by have hszz := B3.size; repeat (first | with_reducible exact B3 | with_reducible apply Below.drew | with_reducible refine below_drewN ?_ _ | (with_reducible refine Below.setCell ?_ ?_ _; rotate_left; focus (first | omega | (simp <;> omega))) | (with_reducible refine Below.alloc ?_ ?_ _; rotate_left; focus (first | omega | (simp <;> omega)))))⟩
end Go.Proofs.Ytnfebeebjelgbaa
