import Derived.Test.YtnfebeebjelgbaaCutPair
import Derived.Deep.RegionHeld3
import Derived.Deep.DeepCutAuto
import Derived.Deep.CutBlock
namespace Go.Proofs.Ytnfebeebjelgbaa
open Go.ChangeShapes Go.WideShapes Go.ChangeAt Go.RowKit
open Ieee.Format (fin finE htE allFin allHt all_true all_false mulF subF addF Ht Bd divF rootF floorF easeF mixF)
set_option linter.unusedVariables false

/-- what the law keeps -/
structure CutSt (w wx : World) (X Y : Int) (Wn Hn g c : Nat) (l : List Nat) (X' Y' : Int) (Wn' Hn' g' c' : Nat) (l' : List Nat) (P Q A B : Int) (h : Nat) : Prop where
  f : FitAt wx (w.heap.size + 4) w.heap.size X Y Wn Hn g c l
  g : FitAt wx (w.heap.size + 4) (w.heap.size + 1) X' Y' Wn' Hn' g' c' l'
  r : Reg wx (w.heap.size + 1 + 1) P Q A B
  hh : Blk wx (w.heap.size + 1 + 1 + 1) #[.float .f32 h] 37
  b : Below w.heap.size w wx
theorem FitAt.below {w w2 : World} {B k : Nat} {X Y : Int} {Wn Hn g c : Nat} {l : List Nat} (h : FitAt w B k X Y Wn Hn g c l) (hb : Below w.heap.size w w2) : FitAt w2 B k X Y Wn Hn g c l :=
  ⟨h.r, h.sm, h.f.below hb h.f.lt, h.o.below hb h.o.lt.2⟩
theorem right_small {X Y : Int} {Wn Hn : Nat} {l : List Nat} (h : Right X Y Wn Hn l) : l.length ≤ 1099511627776 := by
  have := Nat.mul_le_mul h.h2 h.w2
  rw [h.len]; omega
theorem FitAt.row {w : World} {B k : Nat} {X Y : Int} {Wn Hn g c : Nat} {l : List Nat} (h : FitAt w B k X Y Wn Hn g c l) : SRow w (some ⟨g, 0, none⟩) l := h.o.row (right_small h.r)
section
variable {w wx w2 : World} {X Y : Int} {Wn Hn g c : Nat} {l : List Nat} {X' Y' : Int} {Wn' Hn' g' c' : Nat} {l' : List Nat} {P Q A B : Int} {h : Nat}
theorem CutSt.below (s : CutSt w wx X Y Wn Hn g c l X' Y' Wn' Hn' g' c' l' P Q A B h) (hb : Below wx.heap.size wx w2) : CutSt w w2 X Y Wn Hn g c l X' Y' Wn' Hn' g' c' l' P Q A B h :=
  ⟨s.f.below hb, s.g.below hb, s.r.below hb s.r.lt, s.hh.below hb s.hh.lt, s.b.trans (hb.mono s.b.size)⟩
theorem CutSt.alloc (s : CutSt w wx X Y Wn Hn g c l X' Y' Wn' Hn' g' c' l' P Q A B h) (o : Obj) : CutSt w (wx.alloc o) X Y Wn Hn g c l X' Y' Wn' Hn' g' c' l' P Q A B h := s.below ((Below.refl _ _).alloc (Nat.le_refl _) o)
end
theorem box_fcl (w : World) (X Y W H : Int) (va : Value) (X2 Y2 W2 H2 : Int) (vb : Value) (P Q A B : Int) (c1 : Array Value) (t1 : TypeId) : ∀ W0, W0 = (((w.alloc (.cells #[.int .i64 X, .int .i64 Y, .int .i64 W, .int .i64 H, va] 36)).alloc (.cells #[.int .i64 X2, .int .i64 Y2, .int .i64 W2, .int .i64 H2, vb] 36)).alloc (.cells #[.int .i64 P, .int .i64 Q, .int .i64 A, .int .i64 B] 23)).alloc (.cells c1 t1) →
    Fld W0 w.heap.size X Y W H va ∧ Fld W0 (w.heap.size + 1) X2 Y2 W2 H2 vb ∧ Reg W0 (w.heap.size + 1 + 1) P Q A B ∧ Blk W0 (w.heap.size + 1 + 1 + 1) c1 t1 ∧ Below w.heap.size w W0 := by
  rintro _ rfl
  refine ⟨(((Fld.new w X Y W H va).alloc _).alloc _).alloc _, ?_, ?_, ?_, (by repeat (first | with_reducible exact Below.refl _ _ | with_reducible apply Below.drew | with_reducible refine below_drewN ?_ _ | (with_reducible refine Below.setCell ?_ ?_ _; rotate_left; focus (first | omega | (simp <;> omega))) | (with_reducible refine Below.alloc ?_ ?_ _; rotate_left; focus (first | omega | (simp <;> omega)))))⟩
  · have := ((Fld.new (w.alloc (.cells #[.int .i64 X, .int .i64 Y, .int .i64 W, .int .i64 H, va] 36)) X2 Y2 W2 H2 vb).alloc (.cells #[.int .i64 P, .int .i64 Q, .int .i64 A, .int .i64 B] 23)).alloc (.cells c1 t1)
    simpa using this
  · have := (Reg.new ((w.alloc (.cells #[.int .i64 X, .int .i64 Y, .int .i64 W, .int .i64 H, va] 36)).alloc (.cells #[.int .i64 X2, .int .i64 Y2, .int .i64 W2, .int .i64 H2, vb] 36)) P Q A B).alloc (.cells c1 t1)
    simpa using this
  · have := Blk.new (((w.alloc (.cells #[.int .i64 X, .int .i64 Y, .int .i64 W, .int .i64 H, va] 36)).alloc (.cells #[.int .i64 X2, .int .i64 Y2, .int .i64 W2, .int .i64 H2, vb] 36)).alloc (.cells #[.int .i64 P, .int .i64 Q, .int .i64 A, .int .i64 B] 23)) c1 t1
    simpa using this
theorem two_stored (w w4 : World) (k B : Nat) (x1 y1 p1 q1 : Int) (u1 : Value) (x2 y2 p2 q2 : Int) (u2 : Value)
    (F1 : Fld w4 k x1 y1 p1 q1 u1) (F2 : Fld w4 (k + 1) x2 y2 p2 q2 u2) {P Q R S : Int} {h : Nat} (G : Reg w4 (k + 1 + 1) P Q R S) (G2 : Blk w4 (k + 1 + 1 + 1) #[.float .f32 h] 37)
    {X Y : Int} {Wn Hn g c : Nat} {l : List Nat} {X' Y' : Int} {Wn' Hn' g' c' : Nat} {l' : List Nat} (hk : k = w.heap.size)
    (r1 : Right X Y Wn Hn l) (s1 : -5000 ≤ X ∧ X ≤ 5000 ∧ -5000 ≤ Y ∧ Y ≤ 5000 ∧ Wn ≤ 16 ∧ Hn ≤ 16)
    (r2 : Right X' Y' Wn' Hn' l') (s2 : -5000 ≤ X' ∧ X' ≤ 5000 ∧ -5000 ≤ Y' ∧ Y' ≤ 5000 ∧ Wn' ≤ 16 ∧ Hn' ≤ 16)
    (o1 : OwnF w4 B g c l) (o2 : OwnF w4 B g' c' l') (hB : k + 4 ≤ B) (hb : Below k w w4) :
    ∀ W', W' = (((((((((w4.setCell ⟨k, 0, none⟩ (.int .i64 X)).setCell ⟨k, 1, none⟩ (.int .i64 Y)).setCell ⟨k, 2, none⟩ (.int .i64 Wn)).setCell ⟨k, 3, none⟩ (.int .i64 Hn)).setCell ⟨k, 4, none⟩ (.slice (some ⟨g, 0, none⟩) l.length c)).setCell ⟨k + 1, 0, none⟩ (.int .i64 X')).setCell ⟨k + 1, 1, none⟩ (.int .i64 Y')).setCell ⟨k + 1, 2, none⟩ (.int .i64 Wn')).setCell ⟨k + 1, 3, none⟩ (.int .i64 Hn')).setCell ⟨k + 1, 4, none⟩ (.slice (some ⟨g', 0, none⟩) l'.length c') →
    ∃ (X Y : Int) (Wn Hn g c : Nat) (l : List Nat) (X' Y' : Int) (Wn' Hn' g' c' : Nat) (l' : List Nat), CutSt w W' X Y Wn Hn g c l X' Y' Wn' Hn' g' c' l' P Q R S h := by
  intro W' hW'
  have h1 := o1.lt.1
  have h2 := o2.lt.1
  generalize hA : ((((w4.setCell ⟨k, 0, none⟩ (.int .i64 X)).setCell ⟨k, 1, none⟩ (.int .i64 Y)).setCell ⟨k, 2, none⟩ (.int .i64 Wn)).setCell ⟨k, 3, none⟩ (.int .i64 Hn)).setCell ⟨k, 4, none⟩ (.slice (some ⟨g, 0, none⟩) l.length c) = WA at hW'
  obtain ⟨fA, bA, oA, pA, zA⟩ := fld_store w4 k x1 y1 p1 q1 u1 X Y Wn Hn (.slice (some ⟨g, 0, none⟩) l.length c) F1 WA hA.symm
  have GA : Reg WA (k + 1 + 1) P Q R S := by subst hA; exact ((((G.setCell (by simp; omega) _).setCell (by simp; omega) _).setCell (by simp; omega) _).setCell (by simp; omega) _).setCell (by simp; omega) _
  have GB : Blk WA (k + 1 + 1 + 1) #[.float .f32 h] 37 := by subst hA; exact ((((G2.setCell (by simp; omega) _).setCell (by simp; omega) _).setCell (by simp; omega) _).setCell (by simp; omega) _).setCell (by simp; omega) _
  obtain ⟨fB, bB, oB, pB, zB⟩ := fld_store WA (k + 1) x2 y2 p2 q2 u2 X' Y' Wn' Hn' (.slice (some ⟨g', 0, none⟩) l'.length c') (pA _ _ _ _ _ _ F2 (by omega)) W' hW'
  have GA' : Reg W' (k + 1 + 1) P Q R S := by subst hW'; exact ((((GA.setCell (by simp) _).setCell (by simp) _).setCell (by simp) _).setCell (by simp) _).setCell (by simp) _
  have GB' : Blk W' (k + 1 + 1 + 1) #[.float .f32 h] 37 := by subst hW'; exact ((((GB.setCell (by simp; omega) _).setCell (by simp; omega) _).setCell (by simp; omega) _).setCell (by simp; omega) _).setCell (by simp; omega) _
  have up : ∀ g c l, OwnF w4 B g c l → B ≤ g → OwnF W' (k + 4) g c l := fun g c l h hg => ((oB _ _ _ _ (oA _ _ _ _ h (by omega)) (by omega))).base hB
  subst hk
  exact ⟨X, Y, Wn, Hn, g, c, l, X', Y', Wn', Hn', g', c', l', ⟨r1, s1, pB _ _ _ _ _ _ fA (by omega), up _ _ _ o1 h1⟩, ⟨r2, s2, fB, up _ _ _ o2 h2⟩, GA', GB', (hb.trans bA).trans (bB.mono (by omega))⟩

theorem OutV.ok {X Y W H : Int} {m : List Nat} {w : World} {B : Nat} {x y p q : Int} {a : Option Addr} {n k : Nat} (h : OutV 0 X Y W H m w B x y p q a n k) : x = X ∧ y = Y ∧ p = W ∧ q = H ∧ ∃ g, a = some ⟨g, 0, none⟩ ∧ n = m.length ∧ OwnF w B g k m := by
  rcases h with ⟨h, _⟩ | ⟨_, h⟩
  · exact absurd rfl h
  · exact h
set_option maxRecDepth 100000 in
set_option maxHeartbeats 16000000 in
theorem cuts_law (X1 Y1 A1 B1 : Int) (a1 : Option Addr) (l1 : List Nat) (cap1 : Nat) (X2 Y2 A2 B2 : Int) (a2 : Option Addr) (l2 : List Nat) (cap2 : Nat) (P Q A B : Int) (h : Nat) (w : World) (h1 : Row63 w a1 l1) (h2 : Row63 w a2 l2) (hh : h < 4294967296) :
    Calls Try.prog 4 #[fldV X1 Y1 A1 B1 a1 l1.length cap1, fldV X2 Y2 A2 B2 a2 l2.length cap2, reg P Q A B, .float .f32 h] w fun e w' => e = .returned (.bool true) ∧ Below w.heap.size w w' := by
  have H1 := Lib.hid h1
  have H2 := Lib.hid h2
  have HHB := Lib.hid hh
  clear h1 h2 hh
  go_enter Try.func4, Try.ntmps4
  go_wp2_with fail
  generalize hW0 : (((w.alloc (.cells #[.int .i64 X1, .int .i64 Y1, .int .i64 A1, .int .i64 B1, .slice a1 l1.length cap1] 36)).alloc (.cells #[.int .i64 X2, .int .i64 Y2, .int .i64 A2, .int .i64 B2, .slice a2 l2.length cap2] 36)).alloc (.cells #[.int .i64 P, .int .i64 Q, .int .i64 A, .int .i64 B] 23)).alloc (.cells #[.float .f32 h] 37) = W0
  obtain ⟨E1, E2, E3, E4, B0⟩ := box_fcl w X1 Y1 A1 B1 (.slice a1 l1.length cap1) X2 Y2 A2 B2 (.slice a2 l2.length cap2) P Q A B #[.float .f32 h] 37 W0 hW0.symm
  clear hW0
  refine (landed_bel _).mono ?_
  rintro e w1 ⟨rfl, b1⟩
  have HE1 := Lib.hid (E1.below b1 E1.lt)
  have HE2 := Lib.hid (E2.below b1 E2.lt)
  have HE3 := Lib.hid (E3.below b1 E3.lt)
  have HE4 := Lib.hid (E4.below b1 E4.lt)
  have HB := Lib.hid (B0.trans (b1.mono B0.size))
  clear b1 E1 E2 E3 E4 B0
  have lz1 : w.heap.size < w1.heap.size := HE1.out.lt
  have lz2 : w.heap.size + 1 < w1.heap.size := HE2.out.lt
  have lz4 : w.heap.size + 1 + 1 + 1 < w1.heap.size := HE4.out.lt
  have K1 := Lib.hid (fun W (h : Below w1.heap.size w1 W) => fit_any X1 Y1 A1 B1 a1 cap1 l1 W ((H1.out.below HB.out).below h))
  have K2 := Lib.hid (fun W (h : Below w1.heap.size w1 W) => fit_any X2 Y2 A2 B2 a2 cap2 l2 W ((H2.out.below HB.out).below h))
  obtain ⟨c0, c1, c2, c3, c4⟩ := HE1.out.cells
  obtain ⟨d0, d1, d2, d3, d4⟩ := HE2.out.cells
  have bz : Below w1.heap.size w1 w1.drew := (Below.refl _ _).drew
  go_upto_region 3 with fail
  go_cut [] (fun wx => ∃ (X Y : Int) (Wn Hn g c : Nat) (l : List Nat) (X' Y' : Int) (Wn' Hn' g' c' : Nat) (l' : List Nat), CutSt w wx X Y Wn Hn g c l X' Y' Wn' Hn' g' c' l' P Q A B h)
  case first =>
    go_region_with (first
      | (go_at_call 21; with_reducible refine (K1.out _ (by assumption)).mono ?_
         rintro e w2 ⟨X, Y, Wn, Hn, g, c, l, rfl, r1, s1, o1, b2⟩
         have bz2 := bel_step (by assumption) b2
         obtain ⟨d0, d1, d2, d3, d4⟩ := (HE2.out.below bz2 HE2.out.lt).cells)
      | (go_at_call 21; with_reducible refine (K2.out _ (by assumption)).mono ?_
         rintro e w3 ⟨X', Y', Wn', Hn', g', c', l', rfl, r2, s2, o2, b3⟩
         have bz3 := bel_step (by assumption) b3
         have F1 := HE1.out.below bz3 HE1.out.lt
         have F2 := HE2.out.below bz3 HE2.out.lt
         have lt1 := F1.lt
         have lt2 := F2.lt
         have qf0 := F1.frozen 0
         have qf1 := F1.frozen 1
         have qf2 := F1.frozen 2
         have qf3 := F1.frozen 3
         have qf4 := F1.frozen 4
         have q1f0 := F2.frozen 0
         have q1f1 := F2.frozen 1
         have q1f2 := F2.frozen 2
         have q1f3 := F2.frozen 3
         have q1f4 := F2.frozen 4
         obtain ⟨c0, c1, c2, c3, c4⟩ := F1.cells
         obtain ⟨d0, d1, d2, d3, d4⟩ := F2.cells))
    all_goals
      have O1 := o1.below b3 o1.lt.2
      have z2 := bz2.size
      have z3 := bz3.size
      clear c0 c1 c2 c3 c4 d0 d1 d2 d3 d4 qf0 qf1 qf2 qf3 qf4 q1f0 q1f1 q1f2 q1f3 q1f4
      go_wp2_with fail
      go_meet
      exact two_stored w w3 w.heap.size (w.heap.size + 4) _ _ _ _ _ _ _ _ _ _ F1 F2 (HE3.out.below bz3 HE3.out.lt) (HE4.out.below bz3 HE4.out.lt) rfl r1 s1 r2 s2 (O1.base (by simp; omega)) (o2.base (by omega)) (by omega) (HB.out.trans (bz3.mono HB.out.size)) _ rfl
  case rest =>
    obtain ⟨X, Y, Wn, Hn, g, c, l, X', Y', Wn', Hn', g', c', l', S0⟩ := hcut
    have HS0 := Lib.hid S0
    clear S0 bz c0 c1 c2 c3 c4 d0 d1 d2 d3 d4 lz1 lz2 lz4 HB HE1 HE2 HE3 HE4 H1 H2 K1 K2
    obtain ⟨LF, KF, KF2⟩ := fill_pair P Q A B h HHB.out
    have HKF := Lib.hid KF
    have HKF2 := Lib.hid KF2
    have KCK := Lib.hid (fun w => check2 P Q A B w)
    have KH := Lib.hid (fun W g h0 => refheight_one W g h HHB.out h0)
    have HCE : Hid ((chk P Q A B ≠ 0 → fillE P Q A B h = chk P Q A B) ∧ (chk P Q A B = 0 → fillE P Q A B h = htE [h])) := by
      unfold fillE Hid
      exact ⟨fun h => if_pos h, fun h => if_neg (by omega)⟩
    obtain ⟨LC, hLC, KU, KU2⟩ := cut_pair X Y Wn Hn g 0 c l P Q A B HS0.out.f.o.cap_le HS0.out.f.r
    obtain ⟨LP, hLP, KP, KP2⟩ := paste_pair X Y Wn Hn g 0 c l X' Y' Wn' Hn' g' 0 c' l' HS0.out.g.o.cap_le HS0.out.f.r HS0.out.g.r
    have HLC := Lib.hid hLC
    have HLP := Lib.hid hLP
    have HKU := Lib.hid KU
    have HKU2 := Lib.hid KU2
    have HKP := Lib.hid KP
    have HKP2 := Lib.hid KP2
    have HCU : Hid ((chk P Q A B ≠ 0 → cutE P Q A B X Y Wn Hn = chk P Q A B) ∧ (chk P Q A B = 0 → insB P Q A B X Y Wn Hn = true → cutE P Q A B X Y Wn Hn = 0) ∧ (chk P Q A B = 0 → insB P Q A B X Y Wn Hn = false → cutE P Q A B X Y Wn Hn = 5)) := by
      unfold cutE Hid
      exact ⟨fun h => if_pos h, fun h h2 => by rw [if_neg (by omega), if_pos h2], fun h h2 => by rw [if_neg (by omega), if_neg (by simp [h2])]⟩
    clear KF KF2 hLC KU KU2 hLP KP KP2
    generalize fillE P Q A B h = C at *
    generalize cutE P Q A B X Y Wn Hn = D at *
    generalize hck : chk P Q A B = ck at *
    have HCK := Lib.hid hck
    clear hck
    obtain ⟨r0, r1, r2, r3⟩ := HS0.out.r.cells
    have lr := HS0.out.r.lt
    have h0 : wc.cell? ⟨w.heap.size + 1 + 1 + 1, 0, none⟩ = some (.float .f32 h) := HS0.out.hh.cell 0
    have lh := HS0.out.hh.lt
    go_wp2_with fail
    refine (HKF.out _).mono ?_
    rintro e w2 ⟨⟨x, y, p, q, a, n, k, rfl, o2⟩, b2⟩
    go_upto_region 5 with fail
    have bA : Below w2.heap.size w2 (w2.alloc (.cells #[.int .i64 x, .int .i64 y, .int .i64 p, .int .i64 q, .slice a n k] 36)) := (by repeat (first | with_reducible exact Below.refl _ _ | with_reducible apply Below.drew | with_reducible refine below_drewN ?_ _ | (with_reducible refine Below.setCell ?_ ?_ _; rotate_left; focus (first | omega | (simp <;> omega))) | (with_reducible refine Below.alloc ?_ ?_ _; rotate_left; focus (first | omega | (simp <;> omega)))))
    have HS3 := Lib.hid ((HS0.out.below b2).below bA)
    have HF3 := Lib.hid (Fld.new w2 x y p q (.slice a n k))
    have HO3 := Lib.hid (o2.below bA)
    clear o2 b2 bA HS0 HKF r0 r1 r2 r3 lr h0 lh
    generalize w2.alloc (.cells #[.int .i64 x, .int .i64 y, .int .i64 p, .int .i64 q, .slice a n k] 36) = w3 at *
    generalize w2.heap.size = k9 at *
    obtain ⟨r0, r1, r2, r3⟩ := HS3.out.r.cells
    have lr := HS3.out.r.lt
    go_wp2_with fail
    refine (KCK.out _).mono ?_
    rintro e w4 ⟨rfl, b4⟩
    have HS4 := Lib.hid (HS3.out.below b4)
    have HF4 := Lib.hid (HF3.out.below b4 HF3.out.lt)
    have HO4 := Lib.hid (HO3.out.below b4)
    clear b4 HS3 HF3 HO3 r0 r1 r2 r3 lr
    generalize wc.heap.size = B9 at *
    go_upto_if 31 with fail
    go_cut [11] (fun v wx => v = .int .i64 C ∧ CutSt w wx X Y Wn Hn g c l X' Y' Wn' Hn' g' c' l' P Q A B h ∧ Fld wx k9 x y p q (.slice a n k) ∧ OutV C P Q A B LF wx B9 x y p q a n k)
    case first =>
      have h0 : w4.cell? ⟨w.heap.size + 1 + 1 + 1, 0, none⟩ = some (.float .f32 h) := HS4.out.hh.cell 0
      have lh := HS4.out.hh.lt
      by_cases hc : ck = 0
      · have hE := HCE.out.2 hc
        subst hc
        subst hE
        have hb5 := (Below.refl w4.heap.size w4).alloc (Nat.le_refl _) (.cells #[.float .f32 h] 37)
        go_wp2_with fail
        refine (KH.out _ _ (by simp [go_sem])).mono ?_
        rintro e w5 ⟨rfl, rfl⟩
        go_wp2_with fail
        go_meet
        exact ⟨rfl, HS4.out.below hb5, HF4.out.below hb5 HF4.out.lt, HO4.out.below hb5⟩
      · have hE := HCE.out.1 hc
        have hb' : (ck == 0) = false := by simpa using hc
        subst hE
        go_wp2_with fail
        go_meet
        exact ⟨rfl, HS4.out, HF4.out, HO4.out⟩
    case rest =>
      obtain ⟨rfl, S5, F5, O5⟩ := hcut
      have HS5 := Lib.hid S5
      have HF5 := Lib.hid F5
      have HO5 := Lib.hid O5
      clear S5 F5 O5 HS4 HF4 HO4 KH HCE
      go_upto_region 8 with fail
      go_cut [64] (fun v wx => v = .bool false ∧ CutSt w wx X Y Wn Hn g c l X' Y' Wn' Hn' g' c' l' P Q A B h)
      case first =>
        obtain ⟨r0, r1, r2, r3⟩ := HS5.out.r.cells
        have lr := HS5.out.r.lt
        obtain ⟨f0, f1, f2, f3, f4⟩ := HF5.out.cells
        have lf := HF5.out.lt
        by_cases hC : C = 0
        · obtain ⟨m1, m2, m3⟩ := HKF2.out hC
          rcases HO5.out with ⟨hz, _⟩ | ⟨_, rfl, rfl, rfl, rfl, gg, rfl, rfl, ho⟩
          · exact absurd hC hz
          subst hC
          have hAB := m1.symm
          have KT := Lib.hid (fill_contains h LF m2 (some ⟨gg, 0, none⟩) k (w.heap.size + 1 + 1 + 1) wc (ho.row (by omega)) HS5.out.hh)
          have kn := fun w => neqReg x y p q x y p q w
          have kg := fun xx yy w => eqGuardReg .neq xx yy x y p q x y p q w
          clear m1 m2 ho
          go_wp2_with fail
          refine KT.out.mono ?_
          rintro e w6 ⟨rfl, rfl⟩
          go_wp2_with fail
          go_meet
          exact ⟨rfl, HS5.out⟩
        · have hb1 : (C == 0) = false := by simpa using hC
          go_wp2_with fail
          go_meet
          exact ⟨rfl, HS5.out⟩
      case rest =>
        obtain ⟨rfl, S6⟩ := hcut
        have HS6 := Lib.hid S6
        clear S6 HS5 HF5 HO5 HKF2
        obtain ⟨r0, r1, r2, r3⟩ := HS6.out.r.cells
        have lr := HS6.out.r.lt
        obtain ⟨f0, f1, f2, f3, f4⟩ := HS6.out.f.f.cells
        have lf := HS6.out.f.f.lt
        go_wp2_with fail
        refine (HKU.out _ HS6.out.f.row).mono ?_
        rintro e w7 ⟨⟨x, y, p, q, a, n, k, rfl, o2⟩, b2⟩
        go_upto_block 0 with fail
        have bA : Below w7.heap.size w7 (w7.alloc (.cells #[.int .i64 x, .int .i64 y, .int .i64 p, .int .i64 q, .slice a n k] 36)) := (by repeat (first | with_reducible exact Below.refl _ _ | with_reducible apply Below.drew | with_reducible refine below_drewN ?_ _ | (with_reducible refine Below.setCell ?_ ?_ _; rotate_left; focus (first | omega | (simp <;> omega))) | (with_reducible refine Below.alloc ?_ ?_ _; rotate_left; focus (first | omega | (simp <;> omega)))))
        have HS8 := Lib.hid ((HS6.out.below b2).below bA)
        have HF8 := Lib.hid (Fld.new w7 x y p q (.slice a n k))
        have HO8 := Lib.hid (o2.below bA)
        clear o2 b2 bA HS6 HKU r0 r1 r2 r3 lr f0 f1 f2 f3 f4 lf
        generalize w7.alloc (.cells #[.int .i64 x, .int .i64 y, .int .i64 p, .int .i64 q, .slice a n k] 36) = w8 at *
        generalize w7.heap.size = k12 at *
        go_cut [] (fun wx => CutSt w wx X Y Wn Hn g c l X' Y' Wn' Hn' g' c' l' P Q A B h)
        case first =>
          obtain ⟨r0, r1, r2, r3⟩ := HS8.out.r.cells
          have lr := HS8.out.r.lt
          by_cases hck : ck = 0
          · subst hck
            have hcz := HCK.out
            obtain ⟨c1, c2, c3, c4, c5, c6, c7, c8, _⟩ := chk_zero hcz
            have s1 := HS8.out.f.r.w1; have s2 := HS8.out.f.r.w2; have s3 := HS8.out.f.r.h1; have s4 := HS8.out.f.r.h2; have s5 := HS8.out.f.r.x1; have s6 := HS8.out.f.r.x2; have s7 := HS8.out.f.r.y1; have s8 := HS8.out.f.r.y2
            have KI := Lib.hid (fun w => inside2 P Q A B X Y Wn Hn w (by omega) (by omega) (by omega) (by omega) (by omega) (by omega) (by omega) (by omega) (by omega) (by omega) (by omega) (by omega) (by omega) (by omega) (by omega) (by omega))
            clear hcz c1 c2 c3 c4 c5 c6 c7 c8 s1 s2 s3 s4 s5 s6 s7 s8
            go_wp2_with fail
            refine (KCK.out _).mono ?_
            rintro e w9 ⟨rfl, b9⟩
            have HS9 := Lib.hid (HS8.out.below b9)
            have HF9 := Lib.hid (HF8.out.below b9 HF8.out.lt)
            have HO9 := Lib.hid (HO8.out.below b9)
            clear b9 HS8 HF8 HO8 r0 r1 r2 r3 lr
            obtain ⟨r0, r1, r2, r3⟩ := HS9.out.r.cells
            have lr := HS9.out.r.lt
            obtain ⟨f0, f1, f2, f3, f4⟩ := HS9.out.f.f.cells
            have lf := HS9.out.f.f.lt
            go_wp2_with fail
            refine (KI.out _).mono ?_
            rintro e w10 ⟨rfl, b10⟩
            have HS10 := Lib.hid (HS9.out.below b10)
            have HF10 := Lib.hid (HF9.out.below b10 HF9.out.lt)
            have HO10 := Lib.hid (HO9.out.below b10)
            clear b10 HS9 HF9 HO9 r0 r1 r2 r3 lr f0 f1 f2 f3 f4 lf
            by_cases hin : insB P Q A B X Y Wn Hn = true
            · have hD := HCU.out.2.1 (by first | rfl | trivial) hin
              rw [hin]
              subst hD
              have HKU3 := Lib.hid (HKU2.out rfl)
              obtain ⟨rfl, rfl, rfl, rfl, g1, rfl, rfl, ho1⟩ := HO10.out.ok
              have hlc := HLC.out
              have HG1 := Lib.hid (ho1.row (by omega))
              clear ho1 hlc HO10
              obtain ⟨r0, r1, r2, r3⟩ := HS10.out.r.cells
              have lr := HS10.out.r.lt
              obtain ⟨f0, f1, f2, f3, f4⟩ := HS10.out.f.f.cells
              have lf := HS10.out.f.f.lt
              obtain ⟨g0', g1', g2', g3', g4'⟩ := HF10.out.cells
              have lg := HF10.out.lt
              go_wp2_with fail
              have hk2 : Below w10.heap.size w10 w10 := Below.refl _ _
              go_region_held3 (fun w' => w'.cell? ⟨w.heap.size, 0, none⟩ = some (.int .i64 X) ∧ w'.cell? ⟨w.heap.size, 1, none⟩ = some (.int .i64 Y) ∧ w'.cell? ⟨w.heap.size, 2, none⟩ = some (.int .i64 Wn) ∧ w'.cell? ⟨w.heap.size, 3, none⟩ = some (.int .i64 Hn) ∧ w'.cell? ⟨w.heap.size, 4, none⟩ = some (.slice (some ⟨g, 0, none⟩) l.length c) ∧ w'.cell? ⟨w.heap.size + 1 + 1, 0, none⟩ = some (.int .i64 x) ∧ w'.cell? ⟨w.heap.size + 1 + 1, 1, none⟩ = some (.int .i64 y) ∧ w'.cell? ⟨w.heap.size + 1 + 1, 2, none⟩ = some (.int .i64 p) ∧ w'.cell? ⟨w.heap.size + 1 + 1, 3, none⟩ = some (.int .i64 q) ∧ w'.cell? ⟨k12, 0, none⟩ = some (.int .i64 x) ∧ w'.cell? ⟨k12, 1, none⟩ = some (.int .i64 y) ∧ w'.cell? ⟨k12, 2, none⟩ = some (.int .i64 p) ∧ w'.cell? ⟨k12, 3, none⟩ = some (.int .i64 q) ∧ w'.cell? ⟨k12, 4, none⟩ = some (.slice (some ⟨g1, 0, none⟩) LC.length k) ∧ Below w10.heap.size w10 w')
                (exact ⟨(Below.cell (by have hszz := hk2.size; repeat (first | with_reducible exact hk2 | with_reducible apply Below.drew | with_reducible refine below_drewN ?_ _ | (with_reducible refine Below.setCell ?_ ?_ _; rotate_left; focus (first | omega | (simp <;> omega))) | (with_reducible refine Below.alloc ?_ ?_ _; rotate_left; focus (first | omega | (simp <;> omega))))) (p := ⟨w.heap.size, 0, none⟩) lf).trans f0, (Below.cell (by have hszz := hk2.size; repeat (first | with_reducible exact hk2 | with_reducible apply Below.drew | with_reducible refine below_drewN ?_ _ | (with_reducible refine Below.setCell ?_ ?_ _; rotate_left; focus (first | omega | (simp <;> omega))) | (with_reducible refine Below.alloc ?_ ?_ _; rotate_left; focus (first | omega | (simp <;> omega))))) (p := ⟨w.heap.size, 1, none⟩) lf).trans f1, (Below.cell (by have hszz := hk2.size; repeat (first | with_reducible exact hk2 | with_reducible apply Below.drew | with_reducible refine below_drewN ?_ _ | (with_reducible refine Below.setCell ?_ ?_ _; rotate_left; focus (first | omega | (simp <;> omega))) | (with_reducible refine Below.alloc ?_ ?_ _; rotate_left; focus (first | omega | (simp <;> omega))))) (p := ⟨w.heap.size, 2, none⟩) lf).trans f2, (Below.cell (by have hszz := hk2.size; repeat (first | with_reducible exact hk2 | with_reducible apply Below.drew | with_reducible refine below_drewN ?_ _ | (with_reducible refine Below.setCell ?_ ?_ _; rotate_left; focus (first | omega | (simp <;> omega))) | (with_reducible refine Below.alloc ?_ ?_ _; rotate_left; focus (first | omega | (simp <;> omega))))) (p := ⟨w.heap.size, 3, none⟩) lf).trans f3, (Below.cell (by have hszz := hk2.size; repeat (first | with_reducible exact hk2 | with_reducible apply Below.drew | with_reducible refine below_drewN ?_ _ | (with_reducible refine Below.setCell ?_ ?_ _; rotate_left; focus (first | omega | (simp <;> omega))) | (with_reducible refine Below.alloc ?_ ?_ _; rotate_left; focus (first | omega | (simp <;> omega))))) (p := ⟨w.heap.size, 4, none⟩) lf).trans f4, (Below.cell (by have hszz := hk2.size; repeat (first | with_reducible exact hk2 | with_reducible apply Below.drew | with_reducible refine below_drewN ?_ _ | (with_reducible refine Below.setCell ?_ ?_ _; rotate_left; focus (first | omega | (simp <;> omega))) | (with_reducible refine Below.alloc ?_ ?_ _; rotate_left; focus (first | omega | (simp <;> omega))))) (p := ⟨w.heap.size + 1 + 1, 0, none⟩) lr).trans r0, (Below.cell (by have hszz := hk2.size; repeat (first | with_reducible exact hk2 | with_reducible apply Below.drew | with_reducible refine below_drewN ?_ _ | (with_reducible refine Below.setCell ?_ ?_ _; rotate_left; focus (first | omega | (simp <;> omega))) | (with_reducible refine Below.alloc ?_ ?_ _; rotate_left; focus (first | omega | (simp <;> omega))))) (p := ⟨w.heap.size + 1 + 1, 1, none⟩) lr).trans r1, (Below.cell (by have hszz := hk2.size; repeat (first | with_reducible exact hk2 | with_reducible apply Below.drew | with_reducible refine below_drewN ?_ _ | (with_reducible refine Below.setCell ?_ ?_ _; rotate_left; focus (first | omega | (simp <;> omega))) | (with_reducible refine Below.alloc ?_ ?_ _; rotate_left; focus (first | omega | (simp <;> omega))))) (p := ⟨w.heap.size + 1 + 1, 2, none⟩) lr).trans r2, (Below.cell (by have hszz := hk2.size; repeat (first | with_reducible exact hk2 | with_reducible apply Below.drew | with_reducible refine below_drewN ?_ _ | (with_reducible refine Below.setCell ?_ ?_ _; rotate_left; focus (first | omega | (simp <;> omega))) | (with_reducible refine Below.alloc ?_ ?_ _; rotate_left; focus (first | omega | (simp <;> omega))))) (p := ⟨w.heap.size + 1 + 1, 3, none⟩) lr).trans r3, (Below.cell (by have hszz := hk2.size; repeat (first | with_reducible exact hk2 | with_reducible apply Below.drew | with_reducible refine below_drewN ?_ _ | (with_reducible refine Below.setCell ?_ ?_ _; rotate_left; focus (first | omega | (simp <;> omega))) | (with_reducible refine Below.alloc ?_ ?_ _; rotate_left; focus (first | omega | (simp <;> omega))))) (p := ⟨k12, 0, none⟩) lg).trans g0', (Below.cell (by have hszz := hk2.size; repeat (first | with_reducible exact hk2 | with_reducible apply Below.drew | with_reducible refine below_drewN ?_ _ | (with_reducible refine Below.setCell ?_ ?_ _; rotate_left; focus (first | omega | (simp <;> omega))) | (with_reducible refine Below.alloc ?_ ?_ _; rotate_left; focus (first | omega | (simp <;> omega))))) (p := ⟨k12, 1, none⟩) lg).trans g1', (Below.cell (by have hszz := hk2.size; repeat (first | with_reducible exact hk2 | with_reducible apply Below.drew | with_reducible refine below_drewN ?_ _ | (with_reducible refine Below.setCell ?_ ?_ _; rotate_left; focus (first | omega | (simp <;> omega))) | (with_reducible refine Below.alloc ?_ ?_ _; rotate_left; focus (first | omega | (simp <;> omega))))) (p := ⟨k12, 2, none⟩) lg).trans g2', (Below.cell (by have hszz := hk2.size; repeat (first | with_reducible exact hk2 | with_reducible apply Below.drew | with_reducible refine below_drewN ?_ _ | (with_reducible refine Below.setCell ?_ ?_ _; rotate_left; focus (first | omega | (simp <;> omega))) | (with_reducible refine Below.alloc ?_ ?_ _; rotate_left; focus (first | omega | (simp <;> omega))))) (p := ⟨k12, 3, none⟩) lg).trans g3', (Below.cell (by have hszz := hk2.size; repeat (first | with_reducible exact hk2 | with_reducible apply Below.drew | with_reducible refine below_drewN ?_ _ | (with_reducible refine Below.setCell ?_ ?_ _; rotate_left; focus (first | omega | (simp <;> omega))) | (with_reducible refine Below.alloc ?_ ?_ _; rotate_left; focus (first | omega | (simp <;> omega))))) (p := ⟨k12, 4, none⟩) lg).trans g4', (by have hszz := hk2.size; repeat (first | with_reducible exact hk2 | with_reducible apply Below.drew | with_reducible refine below_drewN ?_ _ | (with_reducible refine Below.setCell ?_ ?_ _; rotate_left; focus (first | omega | (simp <;> omega))) | (with_reducible refine Below.alloc ?_ ?_ _; rotate_left; focus (first | omega | (simp <;> omega)))))⟩)
                (first
                  | (go_at_call 30; go_split_ands; refine (HKU3.out _ (HS10.out.f.row.below (by assumption))).mono ?_; rintro e2 w2 ⟨⟨x2, y2, p2, q2, a2, n2, k2, rfl, o9⟩, b9⟩; obtain ⟨rfl, rfl, rfl, rfl, g2, rfl, rfl, ho2⟩ := o9.ok; have hk2 := bel_step (by assumption) b9; clear b9 o9)
                  | (go_at_call 29; go_split_ands; refine (refsame_yes _ _ _ _ g1 0 _ g2 0 _ LC _ (HG1.out.below (by assumption)) (ho2.row (by have := HLC.out; omega))).mono ?_; rintro e2 w3 ⟨rfl, b11⟩; have hk2 := bel_step (by assumption) b11; clear b11))
              rename_i hHeld
              have HS11 := Lib.hid (HS10.out.below hHeld.2.2.2.2.2.2.2.2.2.2.2.2.2.2)
              clear hHeld
              go_wp2_with fail
              go_meet
              exact HS11.out
            · have hD := HCU.out.2.2 (by first | rfl | trivial) (by simpa using hin)
              rw [show insB P Q A B X Y Wn Hn = false by simpa using hin]
              subst hD
              go_wp2_with fail
              go_meet
              exact HS10.out
          · have hD := HCU.out.1 hck
            have hb1 : (ck == 0) = false := by simpa using hck
            have hb2 : (ck != 0) = true := by simpa using hck
            subst hD
            go_wp2_with fail
            refine (KCK.out _).mono ?_
            rintro e w9 ⟨rfl, b9⟩
            have HS9 := Lib.hid (HS8.out.below b9)
            clear b9 HS8 r0 r1 r2 r3 lr
            obtain ⟨r0, r1, r2, r3⟩ := HS9.out.r.cells
            have lr := HS9.out.r.lt
            go_wp2_with fail
            refine (KCK.out _).mono ?_
            rintro e w10 ⟨rfl, b10⟩
            have HS10 := Lib.hid (HS9.out.below b10)
            clear b10 HS9 r0 r1 r2 r3 lr
            go_wp2_with fail
            go_meet
            exact HS10.out
        case rest =>
          have HS13 := Lib.hid hcut
          clear hcut HS8 HF8 HO8 HKU2 HLC HCU KCK HCK
          have HPE : Hid ((cmOk X Y Wn Hn X' Y' Wn' Hn' = true → pasE X Y Wn Hn X' Y' Wn' Hn' = 0) ∧ (cmOk X Y Wn Hn X' Y' Wn' Hn' = false → pasE X Y Wn Hn X' Y' Wn' Hn' = 5)) := by
            unfold pasE Hid
            exact ⟨fun h => if_pos h, fun h => if_neg (by simp [h])⟩
          generalize pasE X Y Wn Hn X' Y' Wn' Hn' = E at *
          have s1 := HS13.out.f.r.w1; have s2 := HS13.out.f.r.w2; have s3 := HS13.out.f.r.h1; have s4 := HS13.out.f.r.h2; have s5 := HS13.out.f.r.x1; have s6 := HS13.out.f.r.x2; have s7 := HS13.out.f.r.y1; have s8 := HS13.out.f.r.y2
          have t1 := HS13.out.g.r.w1; have t2 := HS13.out.g.r.w2; have t3 := HS13.out.g.r.h1; have t4 := HS13.out.g.r.h2; have t5 := HS13.out.g.r.x1; have t6 := HS13.out.g.r.x2; have t7 := HS13.out.g.r.y1; have t8 := HS13.out.g.r.y2
          have KC := Lib.hid (fun w => common2 X Y Wn Hn X' Y' Wn' Hn' w (by omega) (by omega) (by omega) (by omega) (by omega) (by omega) (by omega) (by omega) (by omega) (by omega) (by omega) (by omega) (by omega) (by omega) (by omega) (by omega))
          obtain ⟨p1, p2, p3, p4, hp⟩ := cmR_frm X Y Wn Hn X' Y' Wn' Hn'
          rw [hp] at KC
          clear hp s1 s2 s3 s4 s5 s6 s7 s8 t1 t2 t3 t4 t5 t6 t7 t8
          obtain ⟨f0, f1, f2, f3, f4⟩ := HS13.out.f.f.cells
          have lf := HS13.out.f.f.lt
          obtain ⟨d0, d1, d2, d3, d4⟩ := HS13.out.g.f.cells
          have lg := HS13.out.g.f.lt
          go_wp2_with fail
          refine (HKP.out _ HS13.out.f.row HS13.out.g.row).mono ?_
          rintro e w14 ⟨⟨x, y, p, q, a, n, k, rfl, o2⟩, b2⟩
          go_upto_region 20 with fail
          have bA : Below w14.heap.size w14 (w14.alloc (.cells #[.int .i64 x, .int .i64 y, .int .i64 p, .int .i64 q, .slice a n k] 36)) := (by repeat (first | with_reducible exact Below.refl _ _ | with_reducible apply Below.drew | with_reducible refine below_drewN ?_ _ | (with_reducible refine Below.setCell ?_ ?_ _; rotate_left; focus (first | omega | (simp <;> omega))) | (with_reducible refine Below.alloc ?_ ?_ _; rotate_left; focus (first | omega | (simp <;> omega)))))
          have HS15 := Lib.hid ((HS13.out.below b2).below bA)
          have HF15 := Lib.hid (Fld.new w14 x y p q (.slice a n k))
          have HO15 := Lib.hid (o2.below bA)
          clear o2 b2 bA HS13 HKP f0 f1 f2 f3 f4 lf d0 d1 d2 d3 d4 lg
          generalize w14.alloc (.cells #[.int .i64 x, .int .i64 y, .int .i64 p, .int .i64 q, .slice a n k] 36) = w15 at *
          generalize w14.heap.size = k13 at *
          obtain ⟨f0, f1, f2, f3, f4⟩ := HS15.out.f.f.cells
          have lf := HS15.out.f.f.lt
          obtain ⟨d0, d1, d2, d3, d4⟩ := HS15.out.g.f.cells
          have lg := HS15.out.g.f.lt
          go_wp2_with fail
          refine (KC.out _).mono ?_
          rintro e w16 ⟨rfl, b16⟩
          have bA : Below w16.heap.size w16 (w16.alloc (.cells #[.int .i64 p1, .int .i64 p2, .int .i64 p3, .int .i64 p4] 23)) := (by repeat (first | with_reducible exact Below.refl _ _ | with_reducible apply Below.drew | with_reducible refine below_drewN ?_ _ | (with_reducible refine Below.setCell ?_ ?_ _; rotate_left; focus (first | omega | (simp <;> omega))) | (with_reducible refine Below.alloc ?_ ?_ _; rotate_left; focus (first | omega | (simp <;> omega)))))
          have HS16 := Lib.hid ((HS15.out.below b16).below bA)
          have HF16 := Lib.hid ((HF15.out.below b16 HF15.out.lt).alloc (.cells #[.int .i64 p1, .int .i64 p2, .int .i64 p3, .int .i64 p4] 23))
          have HO16 := Lib.hid ((HO15.out.below b16).below bA)
          clear b16 bA HS15 HF15 HO15 KC f0 f1 f2 f3 f4 lf d0 d1 d2 d3 d4 lg
          by_cases hok : cmOk X Y Wn Hn X' Y' Wn' Hn' = true
          · have hE := HPE.out.1 hok
            rw [hok]
            subst hE
            go_upto_region 23 with fail
            generalize w16.alloc (.cells #[.int .i64 p1, .int .i64 p2, .int .i64 p3, .int .i64 p4] 23) = w16 at *
            obtain ⟨rfl, rfl, rfl, rfl, g1, rfl, rfl, ho1⟩ := HO16.out.ok
            have hlp := HLP.out
            have HG1 := Lib.hid (ho1.row (by omega))
            clear ho1 hlp HO16
            obtain ⟨f0, f1, f2, f3, f4⟩ := HS16.out.f.f.cells
            have lf := HS16.out.f.f.lt
            obtain ⟨d0, d1, d2, d3, d4⟩ := HS16.out.g.f.cells
            have lg := HS16.out.g.f.lt
            obtain ⟨e0, e1, e2, e3, e4⟩ := HF16.out.cells
            have lp := HF16.out.lt
            have hk2 : Below w16.heap.size w16 w16 := Below.refl _ _
            have KS2 := Lib.hid (fun W (hb : Below w16.heap.size w16 W) => refsame_any x y Wn Hn g 0 c l X' Y' Wn' Hn' g' 0 c' l' W (HS16.out.f.row.below hb) (HS16.out.g.row.below hb))
            have KS3 := Lib.hid (fun W (hb : Below w16.heap.size w16 W) => fieldsame_any x y Wn Hn g 0 c l X' Y' Wn' Hn' g' 0 c' l' W (HS16.out.f.row.below hb) (HS16.out.g.row.below hb))
            generalize smB x y Wn Hn X' Y' Wn' Hn' l l' = sv at *
            go_region_held3 (fun w' => w'.cell? ⟨w.heap.size, 0, none⟩ = some (.int .i64 x) ∧ w'.cell? ⟨w.heap.size, 1, none⟩ = some (.int .i64 y) ∧ w'.cell? ⟨w.heap.size, 2, none⟩ = some (.int .i64 (Wn : Int)) ∧ w'.cell? ⟨w.heap.size, 3, none⟩ = some (.int .i64 (Hn : Int)) ∧ w'.cell? ⟨w.heap.size, 4, none⟩ = some (.slice (some ⟨g, 0, none⟩) l.length c) ∧ w'.cell? ⟨w.heap.size + 1, 0, none⟩ = some (.int .i64 X') ∧ w'.cell? ⟨w.heap.size + 1, 1, none⟩ = some (.int .i64 Y') ∧ w'.cell? ⟨w.heap.size + 1, 2, none⟩ = some (.int .i64 Wn') ∧ w'.cell? ⟨w.heap.size + 1, 3, none⟩ = some (.int .i64 Hn') ∧ w'.cell? ⟨w.heap.size + 1, 4, none⟩ = some (.slice (some ⟨g', 0, none⟩) l'.length c') ∧ w'.cell? ⟨k13, 0, none⟩ = some (.int .i64 x) ∧ w'.cell? ⟨k13, 1, none⟩ = some (.int .i64 y) ∧ w'.cell? ⟨k13, 2, none⟩ = some (.int .i64 (Wn : Int)) ∧ w'.cell? ⟨k13, 3, none⟩ = some (.int .i64 (Hn : Int)) ∧ w'.cell? ⟨k13, 4, none⟩ = some (.slice (some ⟨g1, 0, none⟩) LP.length k) ∧ Below w16.heap.size w16 w')
              (exact ⟨(Below.cell (by have hszz := hk2.size; repeat (first | with_reducible exact hk2 | with_reducible apply Below.drew | with_reducible refine below_drewN ?_ _ | (with_reducible refine Below.setCell ?_ ?_ _; rotate_left; focus (first | omega | (simp <;> omega))) | (with_reducible refine Below.alloc ?_ ?_ _; rotate_left; focus (first | omega | (simp <;> omega))))) (p := ⟨w.heap.size, 0, none⟩) lf).trans f0, (Below.cell (by have hszz := hk2.size; repeat (first | with_reducible exact hk2 | with_reducible apply Below.drew | with_reducible refine below_drewN ?_ _ | (with_reducible refine Below.setCell ?_ ?_ _; rotate_left; focus (first | omega | (simp <;> omega))) | (with_reducible refine Below.alloc ?_ ?_ _; rotate_left; focus (first | omega | (simp <;> omega))))) (p := ⟨w.heap.size, 1, none⟩) lf).trans f1, (Below.cell (by have hszz := hk2.size; repeat (first | with_reducible exact hk2 | with_reducible apply Below.drew | with_reducible refine below_drewN ?_ _ | (with_reducible refine Below.setCell ?_ ?_ _; rotate_left; focus (first | omega | (simp <;> omega))) | (with_reducible refine Below.alloc ?_ ?_ _; rotate_left; focus (first | omega | (simp <;> omega))))) (p := ⟨w.heap.size, 2, none⟩) lf).trans f2, (Below.cell (by have hszz := hk2.size; repeat (first | with_reducible exact hk2 | with_reducible apply Below.drew | with_reducible refine below_drewN ?_ _ | (with_reducible refine Below.setCell ?_ ?_ _; rotate_left; focus (first | omega | (simp <;> omega))) | (with_reducible refine Below.alloc ?_ ?_ _; rotate_left; focus (first | omega | (simp <;> omega))))) (p := ⟨w.heap.size, 3, none⟩) lf).trans f3, (Below.cell (by have hszz := hk2.size; repeat (first | with_reducible exact hk2 | with_reducible apply Below.drew | with_reducible refine below_drewN ?_ _ | (with_reducible refine Below.setCell ?_ ?_ _; rotate_left; focus (first | omega | (simp <;> omega))) | (with_reducible refine Below.alloc ?_ ?_ _; rotate_left; focus (first | omega | (simp <;> omega))))) (p := ⟨w.heap.size, 4, none⟩) lf).trans f4, (Below.cell (by have hszz := hk2.size; repeat (first | with_reducible exact hk2 | with_reducible apply Below.drew | with_reducible refine below_drewN ?_ _ | (with_reducible refine Below.setCell ?_ ?_ _; rotate_left; focus (first | omega | (simp <;> omega))) | (with_reducible refine Below.alloc ?_ ?_ _; rotate_left; focus (first | omega | (simp <;> omega))))) (p := ⟨w.heap.size + 1, 0, none⟩) lg).trans d0, (Below.cell (by have hszz := hk2.size; repeat (first | with_reducible exact hk2 | with_reducible apply Below.drew | with_reducible refine below_drewN ?_ _ | (with_reducible refine Below.setCell ?_ ?_ _; rotate_left; focus (first | omega | (simp <;> omega))) | (with_reducible refine Below.alloc ?_ ?_ _; rotate_left; focus (first | omega | (simp <;> omega))))) (p := ⟨w.heap.size + 1, 1, none⟩) lg).trans d1, (Below.cell (by have hszz := hk2.size; repeat (first | with_reducible exact hk2 | with_reducible apply Below.drew | with_reducible refine below_drewN ?_ _ | (with_reducible refine Below.setCell ?_ ?_ _; rotate_left; focus (first | omega | (simp <;> omega))) | (with_reducible refine Below.alloc ?_ ?_ _; rotate_left; focus (first | omega | (simp <;> omega))))) (p := ⟨w.heap.size + 1, 2, none⟩) lg).trans d2, (Below.cell (by have hszz := hk2.size; repeat (first | with_reducible exact hk2 | with_reducible apply Below.drew | with_reducible refine below_drewN ?_ _ | (with_reducible refine Below.setCell ?_ ?_ _; rotate_left; focus (first | omega | (simp <;> omega))) | (with_reducible refine Below.alloc ?_ ?_ _; rotate_left; focus (first | omega | (simp <;> omega))))) (p := ⟨w.heap.size + 1, 3, none⟩) lg).trans d3, (Below.cell (by have hszz := hk2.size; repeat (first | with_reducible exact hk2 | with_reducible apply Below.drew | with_reducible refine below_drewN ?_ _ | (with_reducible refine Below.setCell ?_ ?_ _; rotate_left; focus (first | omega | (simp <;> omega))) | (with_reducible refine Below.alloc ?_ ?_ _; rotate_left; focus (first | omega | (simp <;> omega))))) (p := ⟨w.heap.size + 1, 4, none⟩) lg).trans d4, (Below.cell (by have hszz := hk2.size; repeat (first | with_reducible exact hk2 | with_reducible apply Below.drew | with_reducible refine below_drewN ?_ _ | (with_reducible refine Below.setCell ?_ ?_ _; rotate_left; focus (first | omega | (simp <;> omega))) | (with_reducible refine Below.alloc ?_ ?_ _; rotate_left; focus (first | omega | (simp <;> omega))))) (p := ⟨k13, 0, none⟩) lp).trans e0, (Below.cell (by have hszz := hk2.size; repeat (first | with_reducible exact hk2 | with_reducible apply Below.drew | with_reducible refine below_drewN ?_ _ | (with_reducible refine Below.setCell ?_ ?_ _; rotate_left; focus (first | omega | (simp <;> omega))) | (with_reducible refine Below.alloc ?_ ?_ _; rotate_left; focus (first | omega | (simp <;> omega))))) (p := ⟨k13, 1, none⟩) lp).trans e1, (Below.cell (by have hszz := hk2.size; repeat (first | with_reducible exact hk2 | with_reducible apply Below.drew | with_reducible refine below_drewN ?_ _ | (with_reducible refine Below.setCell ?_ ?_ _; rotate_left; focus (first | omega | (simp <;> omega))) | (with_reducible refine Below.alloc ?_ ?_ _; rotate_left; focus (first | omega | (simp <;> omega))))) (p := ⟨k13, 2, none⟩) lp).trans e2, (Below.cell (by have hszz := hk2.size; repeat (first | with_reducible exact hk2 | with_reducible apply Below.drew | with_reducible refine below_drewN ?_ _ | (with_reducible refine Below.setCell ?_ ?_ _; rotate_left; focus (first | omega | (simp <;> omega))) | (with_reducible refine Below.alloc ?_ ?_ _; rotate_left; focus (first | omega | (simp <;> omega))))) (p := ⟨k13, 3, none⟩) lp).trans e3, (Below.cell (by have hszz := hk2.size; repeat (first | with_reducible exact hk2 | with_reducible apply Below.drew | with_reducible refine below_drewN ?_ _ | (with_reducible refine Below.setCell ?_ ?_ _; rotate_left; focus (first | omega | (simp <;> omega))) | (with_reducible refine Below.alloc ?_ ?_ _; rotate_left; focus (first | omega | (simp <;> omega))))) (p := ⟨k13, 4, none⟩) lp).trans e4, (by have hszz := hk2.size; repeat (first | with_reducible exact hk2 | with_reducible apply Below.drew | with_reducible refine below_drewN ?_ _ | (with_reducible refine Below.setCell ?_ ?_ _; rotate_left; focus (first | omega | (simp <;> omega))) | (with_reducible refine Below.alloc ?_ ?_ _; rotate_left; focus (first | omega | (simp <;> omega)))))⟩)
              (first
                | (go_at_call 33; go_split_ands; refine (HKP2.out _ (HS16.out.f.row.below (by assumption)) (HS16.out.g.row.below (by assumption))).mono ?_; rintro e2 w2 ⟨⟨x2, y2, p2', q2, a2, n2, k2, rfl, o9⟩, b9⟩; obtain ⟨rfl, rfl, rfl, rfl, g2, rfl, rfl, ho2⟩ := o9.ok; have hk2 := bel_step (by assumption) b9; clear b9 o9)
                | (go_at_call 29; go_split_ands; first
                    | ((with_reducible refine (refsame_yes _ _ _ _ g1 0 _ g2 0 _ LP _ (HG1.out.below (by assumption)) (ho2.row (by have := HLP.out; omega))).mono ?_); rintro e2 w3 ⟨rfl, b11⟩; have hk2 := bel_step (by assumption) b11; clear b11)
                    | ((with_reducible refine (KS2.out _ (by assumption)).mono ?_); rintro e2 w3 ⟨rfl, b11⟩; have hk2 := bel_step (by assumption) b11; clear b11))
                | (go_at_call 34; go_split_ands; with_reducible refine (KS3.out _ (by assumption)).mono ?_; rintro e2 w3 ⟨rfl, b11⟩; have hk2 := bel_step (by assumption) b11; clear b11))
            rename_i hHeld
            have HS17 := Lib.hid (HS16.out.below hHeld.2.2.2.2.2.2.2.2.2.2.2.2.2.2.2)
            clear hHeld
            go_wp2_with fail
            go_ret
            exact ⟨by simp, HS17.out.b⟩
          · have hE := HPE.out.2 (by simpa using hok)
            rw [show cmOk X Y Wn Hn X' Y' Wn' Hn' = false by simpa using hok]
            subst hE
            go_wp2_with fail
            go_ret
            exact ⟨rfl, HS16.out.b⟩
end Go.Proofs.Ytnfebeebjelgbaa
