import Derived.Test.YtnfebeebjelgbaaBlendOk
import Derived.Test.YtnfebeebjelgbaaRefBlend
namespace Go.Proofs.Ytnfebeebjelgbaa
open Go.ChangeShapes Go.WideShapes Go.ChangeAt Go.RowKit
open Ieee.Format (fin finE htE allFin allHt all_true all_false mulF subF addF Ht Bd divF rootF floorF easeF mixF)
set_option linter.unusedVariables false

theorem box_fff (w : World) (X Y W H : Int) (va vb vs : Value) : ∀ W0, W0 = (((w.alloc (.cells #[.int .i64 X, .int .i64 Y, .int .i64 W, .int .i64 H, va] 36)).alloc (.cells #[.int .i64 X, .int .i64 Y, .int .i64 W, .int .i64 H, vb] 36)).alloc (.cells #[.int .i64 X, .int .i64 Y, .int .i64 W, .int .i64 H, vs] 36)).alloc (.cells #[.int .i64 0, .int .i64 0, .int .i64 0, .int .i64 0, .slice none 0 0] 36) →
    Fld W0 w.heap.size X Y W H va ∧ Fld W0 (w.heap.size + 1) X Y W H vb ∧ Fld W0 (w.heap.size + 1 + 1) X Y W H vs ∧ Fld W0 (w.heap.size + 1 + 1 + 1) 0 0 0 0 (.slice none 0 0) ∧ Below w.heap.size w W0 := by
  rintro _ rfl
  refine ⟨(((Fld.new w X Y W H va).alloc _).alloc _).alloc _, ?_, ?_, ?_, (by repeat (first | with_reducible exact Below.refl _ _ | with_reducible apply Below.drew | with_reducible refine below_drewN ?_ _ | (with_reducible refine Below.setCell ?_ ?_ _; rotate_left; focus (first | omega | (simp <;> omega))) | (with_reducible refine Below.alloc ?_ ?_ _; rotate_left; focus (first | omega | (simp <;> omega)))))⟩
  · have := ((Fld.new (w.alloc (.cells #[.int .i64 X, .int .i64 Y, .int .i64 W, .int .i64 H, va] 36)) X Y W H vb).alloc (.cells #[.int .i64 X, .int .i64 Y, .int .i64 W, .int .i64 H, vs] 36)).alloc (.cells #[.int .i64 0, .int .i64 0, .int .i64 0, .int .i64 0, .slice none 0 0] 36)
    simpa using this
  · have := (Fld.new ((w.alloc (.cells #[.int .i64 X, .int .i64 Y, .int .i64 W, .int .i64 H, va] 36)).alloc (.cells #[.int .i64 X, .int .i64 Y, .int .i64 W, .int .i64 H, vb] 36)) X Y W H vs).alloc (.cells #[.int .i64 0, .int .i64 0, .int .i64 0, .int .i64 0, .slice none 0 0] 36)
    simpa using this
  · have := Fld.new (((w.alloc (.cells #[.int .i64 X, .int .i64 Y, .int .i64 W, .int .i64 H, va] 36)).alloc (.cells #[.int .i64 X, .int .i64 Y, .int .i64 W, .int .i64 H, vb] 36)).alloc (.cells #[.int .i64 X, .int .i64 Y, .int .i64 W, .int .i64 H, vs] 36)) 0 0 0 0 (.slice none 0 0)
    simpa using this

set_option maxRecDepth 100000 in
set_option maxHeartbeats 1000000 in
theorem refblend_bad (X Y : Int) (Wn Hn : Nat) (ba oa ca bb ob cb bs os cs : Nat) (A B S : List Nat) (w : World) (hs : SRow w (some ⟨bs, os, none⟩) S) (hw : S.any noWt = true) :
    Calls Try.prog 37 #[fldV X Y Wn Hn (some ⟨ba, oa, none⟩) A.length ca, fldV X Y Wn Hn (some ⟨bb, ob, none⟩) B.length cb, fldV X Y Wn Hn (some ⟨bs, os, none⟩) S.length cs] w fun e w' => e = .returned (.tuple #[fldV 0 0 0 0 none 0 0, .int .i64 3]) ∧ Below w.heap.size w w' := by
  have HS := Lib.hid hs
  have KC := Lib.hid (fun w h => contains_any 117 #[] noWt (some ⟨bs, os, none⟩) cs S w h (enters_of Try.func117 (by kernel_rfl) rfl) (fun x => refnoWtfn_any x w))
  rw [hw] at KC
  clear hs hw
  have kn := fun w => neqReg X Y Wn Hn X Y Wn Hn w
  have kg := fun x y w => eqGuardReg .neq x y X Y Wn Hn X Y Wn Hn w
  go_enter Try.func37, Try.ntmps37
  go_wp2_with fail
  generalize hW0 : (((w.alloc (.cells #[.int .i64 X, .int .i64 Y, .int .i64 Wn, .int .i64 Hn, .slice (some ⟨ba, oa, none⟩) A.length ca] 36)).alloc (.cells #[.int .i64 X, .int .i64 Y, .int .i64 Wn, .int .i64 Hn, .slice (some ⟨bb, ob, none⟩) B.length cb] 36)).alloc (.cells #[.int .i64 X, .int .i64 Y, .int .i64 Wn, .int .i64 Hn, .slice (some ⟨bs, os, none⟩) S.length cs] 36)).alloc (.cells #[.int .i64 0, .int .i64 0, .int .i64 0, .int .i64 0, .slice none 0 0] 36) = W0
  obtain ⟨EA, EB, ES, EZ, B0⟩ := box_fff w X Y Wn Hn (.slice (some ⟨ba, oa, none⟩) A.length ca) (.slice (some ⟨bb, ob, none⟩) B.length cb) (.slice (some ⟨bs, os, none⟩) S.length cs) W0 hW0.symm
  clear hW0 kn kg
  refine (KC.out _ (HS.out.below B0)).mono ?_
  rintro e w2 ⟨rfl, rfl⟩
  have HEZ := Lib.hid EZ
  have HB0 := Lib.hid B0
  clear EA EB ES EZ B0
  obtain ⟨d0, d1, d2, d3, d4⟩ := HEZ.out.cells
  have qf0 := HEZ.out.frozen 0
  have qf1 := HEZ.out.frozen 1
  have qf2 := HEZ.out.frozen 2
  have qf3 := HEZ.out.frozen 3
  have qf4 := HEZ.out.frozen 4
  have lz := HEZ.out.lt
  go_wp2_with fail
  have B3 := HB0.out
  exact bodyPost_ret (v := .tuple #[fldV 0 0 0 0 none 0 0, .int .i64 3]) (by simp [results, Try.results37, go_sem, *]) rfl ⟨rfl, (by have hszz := B3.size; repeat (first | with_reducible exact B3 | with_reducible apply Below.drew | with_reducible refine below_drewN ?_ _ | (with_reducible refine Below.setCell ?_ ?_ _; rotate_left; focus (first | omega | (simp <;> omega))) | (with_reducible refine Below.alloc ?_ ?_ _; rotate_left; focus (first | omega | (simp <;> omega)))))⟩

set_option maxRecDepth 100000 in
set_option maxHeartbeats 1000000 in
theorem refblend_ok (X Y : Int) (Wn Hn : Nat) (ba oa ca bb ob cb bs os cs : Nat) (A B S : List Nat) (w : World) (ha : SRow w (some ⟨ba, oa, none⟩) A) (hb : SRow w (some ⟨bb, ob, none⟩) B) (hs : SRow w (some ⟨bs, os, none⟩) S)
    (ra : Right X Y Wn Hn A) (rb : Right X Y Wn Hn B) (rs : Right X Y Wn Hn S) (hw : S.any noWt = false) :
    Calls Try.prog 37 #[fldV X Y Wn Hn (some ⟨ba, oa, none⟩) A.length ca, fldV X Y Wn Hn (some ⟨bb, ob, none⟩) B.length cb, fldV X Y Wn Hn (some ⟨bs, os, none⟩) S.length cs] w fun e w' => OpP (resC (mixL A B S)) X Y Wn Hn (mixL A B S) w e w' := by
  have HS := Lib.hid hs
  have HA := Lib.hid ha
  have HBr := Lib.hid hb
  have g1 := ra.w1; have g2 := ra.w2; have g3 := ra.h1; have g4 := ra.h2; have g5 := ra.x1; have g6 := ra.x2; have g7 := ra.y1; have g8 := ra.y2
  have KC := Lib.hid (fun w h => contains_any 117 #[] noWt (some ⟨bs, os, none⟩) cs S w h (enters_of Try.func117 (by kernel_rfl) rfl) (fun x => refnoWtfn_any x w))
  rw [hw] at KC
  have KM := Lib.hid (fun qa qb qs w (ha : SRow w (some ⟨ba, oa, none⟩) A) (hb : SRow w (some ⟨bb, ob, none⟩) B) (hs : SRow w (some ⟨bs, os, none⟩) S)
      (fa : Fld w qa X Y Wn Hn (.slice (some ⟨ba, oa, none⟩) A.length ca)) (fb : Fld w qb X Y Wn Hn (.slice (some ⟨bb, ob, none⟩) B.length cb)) (fs : Fld w qs X Y Wn Hn (.slice (some ⟨bs, os, none⟩) S.length cs)) =>
    (made_any 118 #[.pointer (some ⟨qa, 0, none⟩), .pointer (some ⟨qb, 0, none⟩), .pointer (some ⟨qs, 0, none⟩)] (mixV A B S X Y Wn) X Y Wn Hn w (by omega) (by omega) (by omega) (by omega) (by omega) (by omega) (by omega) (by omega) (enters_of Try.func118 (by kernel_rfl) rfl) (fun x y _ _ _ _ => Ieee.Format.mixF_lt _ _ _)
      (fun x y a1 a2 a3 a4 W' hb' => refblendfn_any X Y Wn Hn x y ba oa ca bb ob cb bs os cs qa qb qs A B S W' (SRow.below ha hb') (SRow.below hb hb') (SRow.below hs hb') ra rb rs hw a1 a2 a3 a4 (fa.below hb' fa.lt) (fb.below hb' fb.lt) (fs.below hb' fs.lt))).mono fun e w' h => h.res.op)
  rw [madeL_mix A B S X Y Wn Hn ra.len] at KM
  change Hid (∀ qa qb qs w (ha : SRow w (some ⟨ba, oa, none⟩) A) (hb : SRow w (some ⟨bb, ob, none⟩) B) (hs : SRow w (some ⟨bs, os, none⟩) S)
      (fa : Fld w qa X Y Wn Hn (.slice (some ⟨ba, oa, none⟩) A.length ca)) (fb : Fld w qb X Y Wn Hn (.slice (some ⟨bb, ob, none⟩) B.length cb)) (fs : Fld w qs X Y Wn Hn (.slice (some ⟨bs, os, none⟩) S.length cs)),
    Calls Try.prog 105 #[reg X Y Wn Hn, .func (.func 118) #[] #[.pointer (some ⟨qa, 0, none⟩), .pointer (some ⟨qb, 0, none⟩), .pointer (some ⟨qs, 0, none⟩)]] w fun e w' => OpP (resC (mixL A B S)) X Y Wn Hn (mixL A B S) w e w') at KM
  clear ha hb hs ra rb rs hw g1 g2 g3 g4 g5 g6 g7 g8
  generalize mixL A B S = M at *
  generalize resC M = C at *
  have kn := fun w => neqReg X Y Wn Hn X Y Wn Hn w
  have kg := fun x y w => eqGuardReg .neq x y X Y Wn Hn X Y Wn Hn w
  go_enter Try.func37, Try.ntmps37
  go_wp2_with fail
  generalize hW0 : (((w.alloc (.cells #[.int .i64 X, .int .i64 Y, .int .i64 Wn, .int .i64 Hn, .slice (some ⟨ba, oa, none⟩) A.length ca] 36)).alloc (.cells #[.int .i64 X, .int .i64 Y, .int .i64 Wn, .int .i64 Hn, .slice (some ⟨bb, ob, none⟩) B.length cb] 36)).alloc (.cells #[.int .i64 X, .int .i64 Y, .int .i64 Wn, .int .i64 Hn, .slice (some ⟨bs, os, none⟩) S.length cs] 36)).alloc (.cells #[.int .i64 0, .int .i64 0, .int .i64 0, .int .i64 0, .slice none 0 0] 36) = W0
  obtain ⟨EA, EB, ES, EZ, B0⟩ := box_fff w X Y Wn Hn (.slice (some ⟨ba, oa, none⟩) A.length ca) (.slice (some ⟨bb, ob, none⟩) B.length cb) (.slice (some ⟨bs, os, none⟩) S.length cs) W0 hW0.symm
  clear hW0 kn kg
  refine (KC.out _ (HS.out.below B0)).mono ?_
  rintro e w2 ⟨rfl, rfl⟩
  have HEA := Lib.hid EA
  have HEB := Lib.hid EB
  have HES := Lib.hid ES
  have HEZ := Lib.hid EZ
  have HB0 := Lib.hid B0
  clear EA EB ES EZ B0
  obtain ⟨a0, a1, a2, a3, a4⟩ := HEA.out.cells
  have la := HEA.out.lt
  go_wp2_with fail
  refine (KM.out _ _ _ _ (HA.out.below HB0.out) (HBr.out.below HB0.out) (HS.out.below HB0.out) HEA.out HEB.out HES.out).mono ?_
  rintro e w4 ⟨⟨x, y, p, q, a, m, k, rfl, o4⟩, b4⟩
  have HOZ := Lib.hid o4
  have HFZ := Lib.hid (HEZ.out.below b4 HEZ.out.lt)
  have HBZ := Lib.hid (HB0.out.trans (b4.mono HB0.out.size))
  have HZB : Hid (w.heap.size + 1 + 1 + 1 < W0.heap.size) := HEZ.out.lt
  have HBB : Hid (w.heap.size ≤ W0.heap.size) := HB0.out.size
  clear o4 b4 KM HEA HEB HES HEZ HB0 a0 a1 a2 a3 a4 la
  obtain ⟨d0, d1, d2, d3, d4⟩ := HFZ.out.cells
  have qf0 := HFZ.out.frozen 0
  have qf1 := HFZ.out.frozen 1
  have qf2 := HFZ.out.frozen 2
  have qf3 := HFZ.out.frozen 3
  have qf4 := HFZ.out.frozen 4
  have lz := HFZ.out.lt
  go_wp2_with fail
  generalize hW5 : ((((w4.setCell ⟨w.heap.size + 1 + 1 + 1, 0, none⟩ (.int .i64 x)).setCell ⟨w.heap.size + 1 + 1 + 1, 1, none⟩ (.int .i64 y)).setCell ⟨w.heap.size + 1 + 1 + 1, 2, none⟩ (.int .i64 p)).setCell ⟨w.heap.size + 1 + 1 + 1, 3, none⟩ (.int .i64 q)).setCell ⟨w.heap.size + 1 + 1 + 1, 4, none⟩ (.slice a m k) = W5 at *
  obtain ⟨f5, bb5, oo5, _, z5⟩ := fld_store w4 (w.heap.size + 1 + 1 + 1) 0 0 0 0 _ x y p q (.slice a m k) HFZ.out W5 hW5.symm
  have hO5 := (HOZ.out.set oo5 HZB.out).base HBB.out
  have hB5 := HBZ.out.trans (bb5.mono (by omega))
  clear d0 d1 d2 d3 d4 qf0 qf1 qf2 qf3 qf4 hW5 oo5
  obtain ⟨d0, d1, d2, d3, d4⟩ := f5.cells
  exact bodyPost_ret (v := .tuple #[fldV x y p q a m k, .int .i64 C]) (by simp [results, Try.results37, go_sem, *]) rfl ⟨⟨x, y, p, q, a, m, k, rfl, hO5⟩, hB5⟩

theorem blend_pair (X Y : Int) (Wn Hn : Nat) (ba oa ca bb ob cb bs os cs : Nat) (A B S : List Nat) (ra : Right X Y Wn Hn A) (rb : Right X Y Wn Hn B) (rs : Right X Y Wn Hn S) :
    ∃ (C X1 Y1 W1 H1 : Int) (M : List Nat), (M.length ≤ 1099511627776 ∧ (C = 0 → M = mixL A B S ∧ S.any noWt = false)) ∧
      (∀ w, SRow w (some ⟨ba, oa, none⟩) A → SRow w (some ⟨bb, ob, none⟩) B → SRow w (some ⟨bs, os, none⟩) S → Calls Try.prog 36 #[fldV X Y Wn Hn (some ⟨ba, oa, none⟩) A.length ca, fldV X Y Wn Hn (some ⟨bb, ob, none⟩) B.length cb, fldV X Y Wn Hn (some ⟨bs, os, none⟩) S.length cs] w fun e w' => OpP C X1 Y1 W1 H1 M w e w') ∧
      (∀ w, SRow w (some ⟨ba, oa, none⟩) A → SRow w (some ⟨bb, ob, none⟩) B → SRow w (some ⟨bs, os, none⟩) S → Calls Try.prog 37 #[fldV X Y Wn Hn (some ⟨ba, oa, none⟩) A.length ca, fldV X Y Wn Hn (some ⟨bb, ob, none⟩) B.length cb, fldV X Y Wn Hn (some ⟨bs, os, none⟩) S.length cs] w fun e w' => OpP C X1 Y1 W1 H1 M w e w') := by
  have hsm : (mixL A B S).length ≤ 1099511627776 := by
    have := Nat.mul_le_mul ra.h2 ra.w2
    rw [mixL_len, ra.len]; omega
  cases hw : S.any noWt with
  | true =>
    refine ⟨3, 0, 0, 0, 0, [], ⟨by simp, fun h => by cases h⟩, fun w ha hb hs => ?_, fun w ha hb hs => ?_⟩
    · exact (blend_bad X Y Wn Hn ba oa ca bb ob cb bs os cs A B S w ha hb hs ra rb rs hw).mono fun e w' ⟨h1, h2⟩ => OpP.err (by decide) h1 h2
    · exact (refblend_bad X Y Wn Hn ba oa ca bb ob cb bs os cs A B S w hs hw).mono fun e w' ⟨h1, h2⟩ => OpP.err (by decide) h1 h2
  | false =>
    exact ⟨resC (mixL A B S), X, Y, Wn, Hn, mixL A B S, ⟨hsm, fun _ => ⟨rfl, rfl⟩⟩, fun w ha hb hs => blend_ok X Y Wn Hn ba oa ca bb ob cb bs os cs A B S w ha hb hs ra rb rs hw, fun w ha hb hs => refblend_ok X Y Wn Hn ba oa ca bb ob cb bs os cs A B S w ha hb hs ra rb rs hw⟩
end Go.Proofs.Ytnfebeebjelgbaa
