import Derived.Test.YtgeeaegnohdejaaOps
import Derived.Test.YtgeeaegnohdejaaOpenF
namespace Go.Proofs.Ytgeeaegnohdejaa
open Go.Shelf
open Go.ChangeShapes Go.WideShapes Go.ChangeAt Go.RowKit
open Ieee.Format (fin finE htE allFin allHt all_true all_false finE_ok finE_bad htE_ok htE_far htE_bad mulF subF addF Ht scaleF)
set_option linter.unusedVariables false

theorem fld_store (w : World) (k : Nat) (X Y A B : Int) (v : Value) (x y p q : Int) (u : Value) (h : Fld w k X Y A B v) :
    ∀ W', W' = ((((w.setCell ⟨k, 0, none⟩ (.int .i64 x)).setCell ⟨k, 1, none⟩ (.int .i64 y)).setCell ⟨k, 2, none⟩ (.int .i64 p)).setCell ⟨k, 3, none⟩ (.int .i64 q)).setCell ⟨k, 4, none⟩ u →
    Fld W' k x y p q u ∧ Below k w W' ∧ (∀ g B cap l, OwnF w B g cap l → g ≠ k → OwnF W' B g cap l) ∧ (∀ j X Y A B v, Fld w j X Y A B v → j ≠ k → Fld W' j X Y A B v) ∧ W'.heap.size = w.heap.size := by
  rintro _ rfl
  refine ⟨((((h.set0 x).set1 y).set2 p).set3 q).set4 u, (by repeat (first | with_reducible exact Below.refl _ _ | with_reducible apply Below.drew | with_reducible refine below_drewN ?_ _ | (with_reducible refine Below.setCell ?_ ?_ _; rotate_left; focus (first | omega | (simp <;> omega))) | (with_reducible refine Below.alloc ?_ ?_ _; rotate_left; focus (first | omega | (simp <;> omega))))), fun g B cap l ho hg => ?_, fun j X Y A B v hj hk => ?_, by simp⟩
  · exact ((((ho.setCell (by simpa using hg) _).setCell (by simpa using hg) _).setCell (by simpa using hg) _).setCell (by simpa using hg) _).setCell (by simpa using hg) _
  · exact ((((hj.setCell (by simpa using hk) _).setCell (by simpa using hk) _).setCell (by simpa using hk) _).setCell (by simpa using hk) _).setCell (by simpa using hk) _

theorem OutV.set {c X Y W H : Int} {m : List Nat} {w w' : World} {B j : Nat} {x y p q : Int} {a : Option Addr} {n k : Nat} (h : OutV c X Y W H m w B x y p q a n k)
    (hs : ∀ g B cap l, OwnF w B g cap l → g ≠ j → OwnF w' B g cap l) (hj : j < B) : OutV c X Y W H m w' B x y p q a n k := by
  rcases h with h | ⟨h0, h1, h2, h3, h4, g, h5, h6, h7⟩
  · exact .inl h
  · exact .inr ⟨h0, h1, h2, h3, h4, g, h5, h6, hs _ _ _ _ h7 (by have := h7.lt.1; omega)⟩
theorem SRow.under {w w' : World} {g B : Nat} {l : List Nat} (h : SRow w (some ⟨g, 0, none⟩) l) (hb : Below B w w') (hg : g < B) : SRow w' (some ⟨g, 0, none⟩) l := by
  obtain ⟨h1, h2⟩ := h
  refine ⟨h1, ?_⟩
  rcases h2 with h2 | ⟨b, o, e, hc⟩
  · exact .inl h2
  · obtain ⟨rfl, rfl⟩ : g = b ∧ 0 = o := by simpa using e
    refine .inr ⟨g, 0, rfl, fun i hi => ?_⟩
    rw [hb.cell (p := ⟨g, 0 + i, none⟩) hg]
    exact hc i hi

set_option maxRecDepth 100000 in
theorem cells_scale (X Y A B : Int) (a : Option Addr) (l : List Nat) (cap : Nat) (s t : Nat) (w : World) (hl : Row63 w a l) (hs : s < 4294967296) (ht : t < 4294967296) :
    Calls Try.prog 8 #[fldV X Y A B a l.length cap, .float .f32 s, .float .f32 t] w fun e w' => e = .returned (.bool true) ∧ Below w.heap.size w w' := by
  have HL := Lib.hid hl
  have HS := Lib.hid hs
  have HT := Lib.hid ht
  clear hl hs ht
  have hA : Below w.heap.size w (w.alloc (.cells #[.int .i64 X, .int .i64 Y, .int .i64 A, .int .i64 B, .slice a l.length cap] /-T-/66)) := (by repeat (first | with_reducible exact Below.refl _ _ | with_reducible apply Below.drew | with_reducible refine below_drewN ?_ _ | (with_reducible refine Below.setCell ?_ ?_ _; rotate_left; focus (first | omega | (simp <;> omega))) | (with_reducible refine Below.alloc ?_ ?_ _; rotate_left; focus (first | omega | (simp <;> omega)))))
  have HA := Lib.hid hA
  have hF := Fld.new w X Y A B (.slice a l.length cap)
  have HF := Lib.hid hF
  clear hA hF
  go_enter Try.func8, Try.ntmps8
  go_wp2_with fail
  refine (landed_bel _).mono ?_
  rintro e w1 ⟨rfl, b1⟩
  have F1 := HF.out.below b1 HF.out.lt
  have B1 := Lib.hid (HA.out.trans (b1.mono HA.out.size))
  clear b1
  obtain ⟨c0, c1, c2, c3, c4⟩ := F1.cells
  have HF1 := Lib.hid F1
  clear F1
  go_wp2_with fail
  refine (fit_any X Y A B a cap l w1 (HL.out.below B1.out)).mono ?_
  rintro e w2 ⟨X', Y', Wn, Hn, g, cap', l', rfl, hr, _, ho, b2⟩
  have F2 := HF1.out.below b2 HF1.out.lt
  have B2 := Lib.hid (B1.out.trans (b2.mono B1.out.size))
  have hgk : g ≠ w.heap.size := by have := ho.lt.1; have := HF1.out.lt; omega
  have HG := Lib.hid hgk
  have HO := Lib.hid ho
  have HR := Lib.hid hr
  clear b2 hr ho hgk c0 c1 c2 c3 c4
  obtain ⟨c0, c1, c2, c3, c4⟩ := F2.cells
  have qf0 := F2.frozen 0
  have qf1 := F2.frozen 1
  have qf2 := F2.frozen 2
  have qf3 := F2.frozen 3
  have qf4 := F2.frozen 4
  have HF2 := Lib.hid F2
  clear F2
  go_wp2_with fail
  generalize hW3 : ((((w2.setCell ⟨w.heap.size, 0, none⟩ (.int .i64 X')).setCell ⟨w.heap.size, 1, none⟩ (.int .i64 Y')).setCell ⟨w.heap.size, 2, none⟩ (.int .i64 (Wn : Int))).setCell ⟨w.heap.size, 3, none⟩ (.int .i64 (Hn : Int))).setCell ⟨w.heap.size, 4, none⟩ (.slice (some ⟨g, 0, none⟩) l'.length cap') = W3 at *
  obtain ⟨f3, bb3, oo3, _, z3⟩ := fld_store w2 w.heap.size X Y A B _ X' Y' Wn Hn (.slice (some ⟨g, 0, none⟩) l'.length cap') HF2.out W3 hW3.symm
  have HF3 := Lib.hid f3
  have HB3 := Lib.hid (B2.out.trans bb3)
  have HO3 := Lib.hid (oo3 _ _ _ _ HO.out HG.out)
  have hml : Hid (l'.length ≤ 1099511627776) := by
    have := HR.out
    have h1 := Nat.mul_le_mul this.h2 this.w2
    rw [← this.len] at h1
    unfold Hid; omega
  have HQ3 := Lib.hid (HO3.out.row hml.out)
  clear hW3 f3 bb3 oo3 z3 HO HF2 HF1 HF HA B1 B2 c0 c1 c2 c3 c4 qf0 qf1 qf2 qf3 qf4 HL
  -- Scale
  refine (scale_op X' Y' Wn Hn g 0 cap' l' s t W3 HQ3.out HR.out HS.out HT.out).mono ?_
  rintro e w4 ⟨⟨x, y, p, q, aa, n, k, rfl, o4⟩, b4⟩
  have F4 := HF3.out.below b4 HF3.out.lt
  have HB4 := Lib.hid (HB3.out.trans (b4.mono HB3.out.size))
  have HQ4 := Lib.hid (HQ3.out.below b4)
  have hg7 : g < w4.heap.size := Nat.lt_of_lt_of_le HO3.out.lt.2 b4.size
  have HV4 := Lib.hid o4
  clear b4 o4
  obtain ⟨c0, c1, c2, c3, c4⟩ := F4.cells
  have HF4 := Lib.hid F4
  clear F4
  have hk0 : w.heap.size < w4.heap.size := HF4.out.lt
  generalize hcc : scaleC s t l' = cS at *
  have HCC := Lib.hid hcc
  clear hcc
  go_wp2_with fail
  generalize hW5 : w4.alloc (.cells #[.int .i64 x, .int .i64 y, .int .i64 p, .int .i64 q, .slice aa n k] /-T-/66) = W5 at *
  have F5 : Fld W5 w.heap.size X' Y' Wn Hn (.slice (some ⟨g, 0, none⟩) l'.length cap') := by subst hW5; exact HF4.out.alloc _
  have P5 : Fld W5 w4.heap.size x y p q (.slice aa n k) := by subst hW5; exact Fld.new _ _ _ _ _ _
  have B5 : Below w4.heap.size w4 W5 := by subst hW5; exact (by repeat (first | with_reducible exact Below.refl _ _ | with_reducible apply Below.drew | with_reducible refine below_drewN ?_ _ | (with_reducible refine Below.setCell ?_ ?_ _; rotate_left; focus (first | omega | (simp <;> omega))) | (with_reducible refine Below.alloc ?_ ?_ _; rotate_left; focus (first | omega | (simp <;> omega)))))
  have HB5 := Lib.hid (HB4.out.trans (B5.mono HB4.out.size))
  have HQ5 := Lib.hid (HQ4.out.below B5)
  have HV5 := Lib.hid (HV4.out.below B5)
  have HF5 := Lib.hid F5
  have HP5 := Lib.hid P5
  clear hW5 F5 P5 B5 HB4 HQ4 HV4 HF4 HB3 HQ3 HO3 HF3 c0 c1 c2 c3 c4
  have HK := Lib.hid hk0
  generalize w4.heap.size = k7 at *
  -- the reference's Scale
  refine (refscale_op X' Y' Wn Hn g 0 cap' l' s t W5 HQ5.out HR.out HS.out HT.out).mono ?_
  rw [HCC.out]
  rintro e w6 ⟨⟨x2, y2, p2, q2, aa2, n2, k2, rfl, o6⟩, b6⟩
  have F6 := HF5.out.below b6 HF5.out.lt
  have P6 := HP5.out.below b6 HP5.out.lt
  have HB6 := Lib.hid (HB5.out.trans (b6.mono HB5.out.size))
  have HQ6 := Lib.hid (HQ5.out.below b6)
  have HV6 := Lib.hid (HV5.out.below b6)
  have HU6 := Lib.hid o6
  clear b6 o6
  obtain ⟨c0, c1, c2, c3, c4⟩ := F6.cells
  obtain ⟨d0, d1, d2, d3, d4⟩ := P6.cells
  have HF6 := Lib.hid F6
  have HP6 := Lib.hid P6
  have lz0 : w.heap.size < w6.heap.size := F6.lt
  have lz1 : k7 < w6.heap.size := P6.lt
  clear F6 P6 HV5 HF5 HP5 HQ5 HB5
  go_wp2_with fail
  generalize hW7 : w6.alloc (.cells #[.int .i64 x2, .int .i64 y2, .int .i64 p2, .int .i64 q2, .slice aa2 n2 k2] /-T-/66) = W7 at *
  have F7 : Fld W7 w.heap.size X' Y' Wn Hn (.slice (some ⟨g, 0, none⟩) l'.length cap') := by subst hW7; exact HF6.out.alloc _
  have P7 : Fld W7 k7 x y p q (.slice aa n k) := by subst hW7; exact HP6.out.alloc _
  have R7 : Fld W7 w6.heap.size x2 y2 p2 q2 (.slice aa2 n2 k2) := by subst hW7; exact Fld.new _ _ _ _ _ _
  have B7 : Below w6.heap.size w6 W7 := by subst hW7; exact (by repeat (first | with_reducible exact Below.refl _ _ | with_reducible apply Below.drew | with_reducible refine below_drewN ?_ _ | (with_reducible refine Below.setCell ?_ ?_ _; rotate_left; focus (first | omega | (simp <;> omega))) | (with_reducible refine Below.alloc ?_ ?_ _; rotate_left; focus (first | omega | (simp <;> omega)))))
  have HB7 := Lib.hid (HB6.out.trans (B7.mono HB6.out.size))
  have HQ7 := Lib.hid (HQ6.out.below B7)
  have HV7 := Lib.hid (HV6.out.below B7)
  have HU7 := Lib.hid (HU6.out.below B7)
  have HF7 := Lib.hid F7
  have HP7 := Lib.hid P7
  have HR7 := Lib.hid R7
  clear hW7 F7 P7 R7 B7 HB6 HQ6 HV6 HU6 HF6 HP6 c0 c1 c2 c3 c4 d0 d1 d2 d3 d4
  have hk97 : Hid (k7 < w6.heap.size) := lz1
  have hk90 : Hid (w.heap.size < w6.heap.size) := lz0
  generalize w6.heap.size = k9 at *
  refine (same_out HV7.out HU7.out (by rw [List.length_map]; exact hml.out)).mono ?_
  rintro e w8 ⟨rfl, b8⟩
  have F8 := HF7.out.below b8 HF7.out.lt
  have P8 := HP7.out.below b8 HP7.out.lt
  have R8 := HR7.out.below b8 HR7.out.lt
  have HB8 := Lib.hid (HB7.out.trans (b8.mono HB7.out.size))
  have HQ8 := Lib.hid (HQ7.out.below b8)
  clear b8 HV7 HU7 HF7 HP7 HR7 HQ7 HB7 HCC
  obtain ⟨c0, c1, c2, c3, c4⟩ := F8.cells
  have HF8 := Lib.hid F8
  have HP8 := Lib.hid P8
  have HR8 := Lib.hid R8
  clear F8 P8 R8
  go_wp2_with fail
  -- Clamp
  refine (clamp_op X' Y' Wn Hn g 0 cap' l' s t w8 HQ8.out HR.out HS.out HT.out).mono ?_
  generalize hcd : clampC s t = cC at *
  have HCD := Lib.hid hcd
  clear hcd
  rintro e w9 ⟨⟨x3, y3, p3, q3, aa3, n3, k3, rfl, o9⟩, b9⟩
  have F9 := HF8.out.below b9 HF8.out.lt
  have P9 := HP8.out.below b9 HP8.out.lt
  have HR9 := Lib.hid (HR8.out.below b9 HR8.out.lt)
  have HB9 := Lib.hid (HB8.out.trans (b9.mono HB8.out.size))
  have HQ9 := Lib.hid (HQ8.out.below b9)
  have HU9 := Lib.hid o9
  have hk98 : Hid (k9 < w8.heap.size) := HR8.out.lt
  have hk78 : Hid (k7 < w8.heap.size) := HP8.out.lt
  clear b9 o9 c0 c1 c2 c3 c4
  obtain ⟨c0, c1, c2, c3, c4⟩ := F9.cells
  obtain ⟨d0, d1, d2, d3, d4⟩ := P9.cells
  have qf0 := P9.frozen 0
  have qf1 := P9.frozen 1
  have qf2 := P9.frozen 2
  have qf3 := P9.frozen 3
  have qf4 := P9.frozen 4
  have HF9 := Lib.hid F9
  have HP9 := Lib.hid P9
  clear F9 P9 HF8 HP8 HR8 HQ8 HB8
  go_wp2_with fail
  generalize hWA : ((((w9.setCell ⟨k7, 0, none⟩ (.int .i64 x3)).setCell ⟨k7, 1, none⟩ (.int .i64 y3)).setCell ⟨k7, 2, none⟩ (.int .i64 p3)).setCell ⟨k7, 3, none⟩ (.int .i64 q3)).setCell ⟨k7, 4, none⟩ (.slice aa3 n3 k3) = WA at *
  obtain ⟨fA, bbA, ooA, ppA, zA⟩ := fld_store w9 k7 x y p q _ x3 y3 p3 q3 (.slice aa3 n3 k3) HP9.out WA hWA.symm
  have FA := ppA _ _ _ _ _ _ HF9.out (by omega)
  have RA := ppA _ _ _ _ _ _ HR9.out (by have := hk97.out; omega)
  have HPA := Lib.hid fA
  have HFA := Lib.hid FA
  have HRA := Lib.hid RA
  have HBA := Lib.hid (HB9.out.trans (bbA.mono (Nat.le_of_lt hk0)))
  have HQA := Lib.hid (HQ9.out.under bbA hg7)
  have HUA := Lib.hid (HU9.out.set ooA hk78.out)
  clear hWA fA bbA ooA ppA zA FA RA HP9 HF9 HR9 HB9 HQ9 HU9 c0 c1 c2 c3 c4 d0 d1 d2 d3 d4 qf0 qf1 qf2 qf3 qf4
  -- the reference's Clamp
  refine (refclamp_op X' Y' Wn Hn g 0 cap' l' s t WA HQA.out HR.out HS.out HT.out).mono ?_
  rw [HCD.out]
  rintro e w11 ⟨⟨x4, y4, p4, q4, aa4, n4, k4, rfl, o11⟩, b11⟩
  have P11 := HPA.out.below b11 HPA.out.lt
  have R11 := HRA.out.below b11 HRA.out.lt
  have HB11 := Lib.hid (HBA.out.trans (b11.mono HBA.out.size))
  have HU11 := Lib.hid (HUA.out.below b11)
  have HT11 := Lib.hid o11
  have hk9A : Hid (k9 < WA.heap.size) := HRA.out.lt
  clear b11 o11 HPA HRA HBA HUA HQA HFA
  obtain ⟨d0, d1, d2, d3, d4⟩ := P11.cells
  have qf0 := R11.frozen 0
  have qf1 := R11.frozen 1
  have qf2 := R11.frozen 2
  have qf3 := R11.frozen 3
  have qf4 := R11.frozen 4
  obtain ⟨c0, c1, c2, c3, c4⟩ := R11.cells
  have HP11 := Lib.hid P11
  have HR11 := Lib.hid R11
  clear P11 R11
  go_wp2_with fail
  generalize hWB : ((((w11.setCell ⟨k9, 0, none⟩ (.int .i64 x4)).setCell ⟨k9, 1, none⟩ (.int .i64 y4)).setCell ⟨k9, 2, none⟩ (.int .i64 p4)).setCell ⟨k9, 3, none⟩ (.int .i64 q4)).setCell ⟨k9, 4, none⟩ (.slice aa4 n4 k4) = WB at *
  obtain ⟨fB, bbB, ooB, ppB, zB⟩ := fld_store w11 k9 x2 y2 p2 q2 _ x4 y4 p4 q4 (.slice aa4 n4 k4) HR11.out WB hWB.symm
  have HBB := Lib.hid (HB11.out.trans (bbB.mono (Nat.le_of_lt hk90.out)))
  have HUB := Lib.hid (HU11.out.set ooB (by have := hk98.out; exact this))
  have HTB := Lib.hid (HT11.out.set ooB hk9A.out)
  clear hWB fB bbB ooB ppB zB HP11 HR11 HB11 HU11 HT11 c0 c1 c2 c3 c4 d0 d1 d2 d3 d4
  refine (same_out HUB.out HTB.out (by rw [List.length_map]; exact hml.out)).mono ?_
  rintro e w12 ⟨rfl, b12⟩
  have B12 := HBB.out.trans (b12.mono HBB.out.size)
  clear b12
  go_wp2_with fail
  go_ret
  exact ⟨rfl, B12⟩
end Go.Proofs.Ytgeeaegnohdejaa
