import Derived.Test.YtnfebeebjelgbaaBlendOp
import Derived.Deep.RegionHeld3
namespace Go.Proofs.Ytnfebeebjelgbaa
open Go.ChangeShapes Go.WideShapes Go.ChangeAt Go.RowKit
open Ieee.Format (fin finE htE allFin allHt all_true all_false mulF subF addF Ht Bd divF rootF floorF easeF mixF)
set_option linter.unusedVariables false

structure BlInv (w wr : World) (B0 k5 g cap : Nat) (X Y W H : Int) (va vb vs : Value) (n : Nat) (m : List Nat) : Prop where
  fa : Fld wr w.heap.size X Y W H va
  fb : Fld wr (w.heap.size + 1) X Y W H vb
  fs : Fld wr (w.heap.size + 1 + 1) X Y W H vs
  fz : Fld wr (w.heap.size + 1 + 1 + 1) 0 0 0 0 (.slice none 0 0)
  fc : Fld wr k5 X Y W H (.slice (some ⟨g, 0, none⟩) n cap)
  own : OwnF wr B0 g cap m
  below : Below w.heap.size w wr
theorem BlInv.store {w wr : World} {B0 k5 g cap n : Nat} {X Y W H : Int} {va vb vs : Value} {m : List Nat} (h : BlInv w wr B0 k5 g cap X Y W H va vb vs n m) (hg : g ≠ k5) (hg1 : w.heap.size + 1 + 1 + 1 < g) (k x : Nat) (hx : x < 4294967296) :
    BlInv w (wr.setCell ⟨g, k, none⟩ (.float .f32 x)).drew B0 k5 g cap X Y W H va vb vs n (m.set k x) :=
  ⟨(h.fa.setCell (p := ⟨g, k, none⟩) (by show w.heap.size ≠ g; omega) _).drew, (h.fb.setCell (p := ⟨g, k, none⟩) (by show w.heap.size + 1 ≠ g; omega) _).drew, (h.fs.setCell (p := ⟨g, k, none⟩) (by show w.heap.size + 1 + 1 ≠ g; omega) _).drew, (h.fz.setCell (p := ⟨g, k, none⟩) (by show w.heap.size + 1 + 1 + 1 ≠ g; omega) _).drew, (h.fc.setCell (p := ⟨g, k, none⟩) (Ne.symm hg) _).drew, (h.own.store k x hx).drew, (h.below.setCell (p := ⟨g, k, none⟩) (by show w.heap.size ≤ g; omega) _).drew⟩

set_option maxRecDepth 100000 in
set_option maxHeartbeats 2000000 in
theorem blend_ok (X Y : Int) (Wn Hn : Nat) (ba oa ca bb ob cb bs os cs : Nat) (A B S : List Nat) (w : World) (ha : SRow w (some ⟨ba, oa, none⟩) A) (hb : SRow w (some ⟨bb, ob, none⟩) B) (hs : SRow w (some ⟨bs, os, none⟩) S)
    (ra : Right X Y Wn Hn A) (rb : Right X Y Wn Hn B) (rs : Right X Y Wn Hn S) (hw : S.any noWt = false) :
    Calls Try.prog 36 #[fldV X Y Wn Hn (some ⟨ba, oa, none⟩) A.length ca, fldV X Y Wn Hn (some ⟨bb, ob, none⟩) B.length cb, fldV X Y Wn Hn (some ⟨bs, os, none⟩) S.length cs] w fun e w' => OpP (resC (mixL A B S)) X Y Wn Hn (mixL A B S) w e w' := by
  have HA := Lib.hid ha
  have HBr := Lib.hid hb
  have HS := Lib.hid hs
  have CW := Lib.hid (ck_world w X Y Wn Hn ba oa ca bb ob cb bs os cs A B S ha hb hs ra rb rs)
  have KC := Lib.hid (fun w h => contains_any 114 #[] noWt (some ⟨bs, os, none⟩) cs S w h (enters_of Try.func114 (by kernel_rfl) rfl) (fun x => noWtfn_any x w))
  rw [hw] at KC
  have hne : A ≠ [] := ra.ne
  have KP := Lib.hid (fun w h => copy_any X Y Wn Hn ba oa ca A w h hne)
  have KM := Lib.hid (fun k (hk : k < A.length) w => mix_any 20 (A.getD k 0) (B.getD k 0) (S.getD k 0) w (Ieee.Format.Ht.bd (ra.getD k)) (Ieee.Format.Ht.bd (rb.getD k)) (wt_bd (Ieee.Format.Ht.bd (rs.getD k)).1 (by
    have hall := hw
    rw [List.any_eq_false] at hall
    have hk2 : k < S.length := by rw [rs.len, ← ra.len]; exact hk
    have := hall (S.getD k 0) (by rw [List.getD_eq_getElem?_getD, List.getElem?_eq_getElem hk2]; exact List.getElem_mem hk2)
    simpa using this)) (by omega))
  have hAl : A.length ≤ 262144 := by have := Nat.mul_le_mul ra.h2 ra.w2; rw [ra.len]; omega
  have HAB : Hid (B.length = A.length) := by unfold Hid; rw [rb.len, ra.len]
  have HAS : Hid (S.length = A.length) := by unfold Hid; rw [rs.len, ra.len]
  have KR := Lib.hid (fun g cap B' w ho => result_any X Y Wn Hn g cap B' (mixL A B S) w ho (by rw [mixL_len]; omega))
  clear ha hb hs ra rb rs hw hne
  have hml : Hid ((mixL A B S).length = A.length) := mixL_len A B S
  generalize hM : mixL A B S = M at *
  have HMM := Lib.hid hM
  clear hM
  generalize resC M = C at *
  go_enter Try.func36, Try.ntmps36
  go_wp2_with fail
  generalize hW0 : ((((w.alloc (.cells #[.int .i64 X, .int .i64 Y, .int .i64 Wn, .int .i64 Hn, .slice (some ⟨ba, oa, none⟩) A.length ca] 36)).alloc (.cells #[.int .i64 X, .int .i64 Y, .int .i64 Wn, .int .i64 Hn, .slice (some ⟨bb, ob, none⟩) B.length cb] 36)).alloc (.cells #[.int .i64 X, .int .i64 Y, .int .i64 Wn, .int .i64 Hn, .slice (some ⟨bs, os, none⟩) S.length cs] 36)).alloc (.cells #[.int .i64 0, .int .i64 0, .int .i64 0, .int .i64 0, .slice none 0 0] 36)).alloc (.cells #[.int .i64 X, .int .i64 Y, .int .i64 Wn, .int .i64 Hn, .slice (some ⟨ba, oa, none⟩) A.length ca, .int .i64 X, .int .i64 Y, .int .i64 Wn, .int .i64 Hn, .slice (some ⟨bb, ob, none⟩) B.length cb, .int .i64 X, .int .i64 Y, .int .i64 Wn, .int .i64 Hn, .slice (some ⟨bs, os, none⟩) S.length cs] 36) = W0
  obtain ⟨EA, EB, ES, EZ, B0, z0, hfl⟩ := CW.out W0 hW0.symm
  clear hW0 CW
  refine (checkall_any _ 0 3 3 _ z0 (by omega) hfl).mono ?_
  rintro e w1 ⟨rfl, b1⟩
  have HEA := Lib.hid (EA.below b1 EA.lt)
  have HEB := Lib.hid (EB.below b1 EB.lt)
  have HES := Lib.hid (ES.below b1 ES.lt)
  have HEZ := Lib.hid (EZ.below b1 EZ.lt)
  have HB1 := Lib.hid (B0.trans (b1.mono B0.size))
  clear EA EB ES EZ B0 z0 hfl b1
  obtain ⟨a0, a1, a2, a3, a4⟩ := HEA.out.cells
  obtain ⟨b0, b1, b2, b3, b4⟩ := HEB.out.cells
  obtain ⟨s0, s1, s2, s3, s4⟩ := HES.out.cells
  have l3 : w.heap.size + 1 + 1 + 1 < w1.heap.size := HEZ.out.lt
  have l2 : w.heap.size + 1 + 1 < w1.heap.size := by omega
  have l1 : w.heap.size + 1 < w1.heap.size := by omega
  have l0 : w.heap.size < w1.heap.size := by omega
  have kn := fun w => neqReg X Y Wn Hn X Y Wn Hn w
  have kg := fun x y w => eqGuardReg .neq x y X Y Wn Hn X Y Wn Hn w
  go_wp2_with fail
  refine (KC.out _ (HS.out.below HB1.out)).mono ?_
  rintro e w2 ⟨rfl, rfl⟩
  clear b0 b1 b2 b3 b4 s0 s1 s2 s3 s4 kn kg
  go_wp2_with fail
  refine (KP.out _ (HA.out.below HB1.out)).mono ?_
  rintro e w2 ⟨g, cap, rfl, ho, b5⟩
  have FA : Fld w2 w.heap.size X Y Wn Hn (.slice (some ⟨ba, oa, none⟩) A.length ca) := HEA.out.below b5 HEA.out.lt
  have FB : Fld w2 (w.heap.size + 1) X Y Wn Hn (.slice (some ⟨bb, ob, none⟩) B.length cb) := HEB.out.below b5 HEB.out.lt
  have FS : Fld w2 (w.heap.size + 1 + 1) X Y Wn Hn (.slice (some ⟨bs, os, none⟩) S.length cs) := HES.out.below b5 HES.out.lt
  have FZ : Fld w2 (w.heap.size + 1 + 1 + 1) 0 0 0 0 (.slice none 0 0) := HEZ.out.below b5 HEZ.out.lt
  have B2 := HB1.out.trans (b5.mono HB1.out.size)
  obtain ⟨B0, hB0⟩ : ∃ B0, w1.heap.size = B0 := ⟨_, rfl⟩
  have O2 : OwnF w2 B0 g cap A := by rw [← hB0]; exact ho
  have HB0 : Hid (w.heap.size + 1 + 1 + 1 < B0) := by unfold Hid; omega
  clear hB0
  have gl : w.heap.size + 1 + 1 + 1 < g := by have := O2.lt.1; have := HB0.out; omega
  have FAH := Lib.hid FA
  have FBH := Lib.hid FB
  have FSH := Lib.hid FS
  have FZH := Lib.hid FZ
  have B2H := Lib.hid B2
  have O2H := Lib.hid O2
  clear ho b5 a0 a1 a2 a3 a4 l0 l1 l2 l3 HEA HEB HES HEZ HB1 KP KC B2 O2 FB FS FZ
  obtain ⟨a0, a1, a2, a3, a4⟩ := FA.cells
  have la := FA.lt
  clear FA
  go_wp2_with fail
  generalize hW3 : w2.alloc (.cells #[.int .i64 X, .int .i64 Y, .int .i64 Wn, .int .i64 Hn, .slice (some ⟨g, 0, none⟩) A.length cap] 36) = W3
  generalize hk5 : w2.heap.size = k5
  have I0 : BlInv w W3 B0 k5 g cap X Y Wn Hn (.slice (some ⟨ba, oa, none⟩) A.length ca) (.slice (some ⟨bb, ob, none⟩) B.length cb) (.slice (some ⟨bs, os, none⟩) S.length cs) A.length (blL (fun i => mixF (A.getD i 0) (B.getD i 0) (S.getD i 0)) A 0) := by
    rw [blL_zero]
    subst hW3 hk5
    exact ⟨FAH.out.alloc _, FBH.out.alloc _, FSH.out.alloc _, FZH.out.alloc _, Fld.new _ _ _ _ _ _, O2H.out.alloc _, B2H.out.alloc (by have := B2H.out.size; omega) _⟩
  have gk : g ≠ k5 := by have := O2H.out.lt.2; omega
  clear hW3 hk5 a0 a1 a2 a3 a4 la FAH FBH FSH FZH B2H O2H
  have HI0 := Lib.hid I0
  clear I0
  go_loopw [10, 11, 43] (fun _ _ i wr => ∃ k : Nat, k ≤ A.length ∧ i = .int .i64 k ∧ BlInv w wr B0 k5 g cap X Y Wn Hn (.slice (some ⟨ba, oa, none⟩) A.length ca) (.slice (some ⟨bb, ob, none⟩) B.length cb) (.slice (some ⟨bs, os, none⟩) S.length cs) A.length (blL (fun i => mixF (A.getD i 0) (B.getD i 0) (S.getD i 0)) A k)) (fun _ _ i _ => A.length - (intOf i).toNat)
  case atStart => exact ⟨0, by omega, rfl, HI0.out⟩
  case round =>
    clear HI0
    obtain ⟨k, hk, rfl, I⟩ := hrel
    by_cases hlt : k < A.length
    · have hcA := (SRow.below HA.out I.below).at_ hlt
      have hB2 : k < B.length := by have := HAB.out; omega
      have hS2 : k < S.length := by have := HAS.out; omega
      have hcB := (SRow.below HBr.out I.below).at_ hB2
      have hcS := (SRow.below HS.out I.below).at_ hS2
      obtain ⟨hown, hfro⟩ := I.own.at_ (k := k) (by rw [blL_len _ _ _ (by omega)]; exact hlt)
      have hst : Hid (BlInv w (wr.setCell ⟨g, k, none⟩ (.float .f32 (mixF (A.getD k 0) (B.getD k 0) (S.getD k 0)))).drew B0 k5 g cap X Y Wn Hn (.slice (some ⟨ba, oa, none⟩) A.length ca) (.slice (some ⟨bb, ob, none⟩) B.length cb) (.slice (some ⟨bs, os, none⟩) S.length cs) A.length (blL (fun i => mixF (A.getD i 0) (B.getD i 0) (S.getD i 0)) A (k + 1))) := by
        have := I.store gk gl k (mixF (A.getD k 0) (B.getD k 0) (S.getD k 0)) (Ieee.Format.mixF_lt _ _ _)
        rw [blL_succ (fun i => mixF (A.getD i 0) (B.getD i 0) (S.getD i 0)) A k hlt] at this
        exact this
      have hcall := Lib.hid (KM.out k hlt)
      have c4 := I.fc.cells.2.2.2.2
      have e4 := I.fb.cells.2.2.2.2
      have f4 := I.fs.cells.2.2.2.2
      have hltB : (k : Int) < (B.length : Int) := by omega
      have hltS : (k : Int) < (S.length : Int) := by omega
      have hltA : (k : Int) < (A.length : Int) := by omega
      clear I
      generalize hx : mixF (A.getD k 0) (B.getD k 0) (S.getD k 0) = y at *
      clear hx
      generalize A.getD k 0 = va at *
      generalize B.getD k 0 = vb at *
      generalize S.getD k 0 = vs at *
      generalize (blL (fun i => mixF (A.getD i 0) (B.getD i 0) (S.getD i 0)) A k).getD k 0 = z at *
      go_wp2_with fail
      go_region_with (go_at_call 115; refine (hcall.out _).mono ?_; rintro e2 w2 ⟨rfl, rfl⟩)
      all_goals
        go_wp2
        go_roundw
        case rel => exact ⟨k + 1, by omega, by go_num, hst.out⟩
        case measure => simp [intOf]; omega
    · obtain rfl : k = A.length := by omega
      have FI := Lib.hid I
      rw [blL_all, HMM.out] at FI
      obtain ⟨c0, c1, c2, c3, c4⟩ := FI.out.fc.cells
      have lc := FI.out.fc.lt
      clear I
      clear HMM
      go_wp2_with fail
      rw [← hml.out]
      refine (KR.out _ _ _ _ FI.out.own).mono ?_
      rintro e w4 ⟨⟨x, y, p, q, a, m, k, rfl, o4⟩, b4⟩
      have HOZ := Lib.hid o4
      have HFZ := Lib.hid (FI.out.fz.below b4 FI.out.fz.lt)
      have HBZ := Lib.hid (FI.out.below.trans (b4.mono FI.out.below.size))
      have HZB : Hid (w.heap.size + 1 + 1 + 1 < B0) := HB0
      have HBB : Hid (w.heap.size ≤ B0) := by have := HB0.out; unfold Hid; omega
      clear o4 b4 KR FI c0 c1 c2 c3 c4 lc
      obtain ⟨d0, d1, d2, d3, d4⟩ := HFZ.out.cells
      have qf0 := HFZ.out.frozen 0
      have qf1 := HFZ.out.frozen 1
      have qf2 := HFZ.out.frozen 2
      have qf3 := HFZ.out.frozen 3
      have qf4 := HFZ.out.frozen 4
      have lz := HFZ.out.lt
      go_wp2_with fail
      generalize hW5 : ((((w4.setCell ⟨w.heap.size + 1 + 1 + 1, 0, none⟩ (.int .i64 x)).setCell ⟨w.heap.size + 1 + 1 + 1, 1, none⟩ (.int .i64 y)).setCell ⟨w.heap.size + 1 + 1 + 1, 2, none⟩ (.int .i64 p)).setCell ⟨w.heap.size + 1 + 1 + 1, 3, none⟩ (.int .i64 q)).setCell ⟨w.heap.size + 1 + 1 + 1, 4, none⟩ (.slice a m k) = W5 at *
      obtain ⟨f5, bb5, oo5, _, z5⟩ := fld_store w4 (w.heap.size + 1 + 1 + 1) 0 0 0 0 _ x y p q (.slice a m k) HFZ.out W5 hW5.symm
      have hO5 := (HOZ.out.set oo5 HZB.out).base HBB.out
      have hB5 := HBZ.out.trans (bb5.mono (by omega))
      clear d0 d1 d2 d3 d4 qf0 qf1 qf2 qf3 qf4 hW5 oo5
      obtain ⟨d0, d1, d2, d3, d4⟩ := f5.cells
      exact bodyPost_ret (v := .tuple #[fldV x y p q a m k, .int .i64 C]) (by simp [results, Try.results36, go_sem, *]) rfl ⟨⟨x, y, p, q, a, m, k, rfl, hO5⟩, hB5⟩
end Go.Proofs.Ytnfebeebjelgbaa
