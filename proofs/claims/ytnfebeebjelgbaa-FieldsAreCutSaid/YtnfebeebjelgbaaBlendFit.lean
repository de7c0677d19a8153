import Derived.Test.YtnfebeebjelgbaaRefBlend
namespace Go.Proofs.Ytnfebeebjelgbaa
open Go.ChangeShapes Go.WideShapes Go.ChangeAt Go.RowKit
open Ieee.Format (fin finE htE allFin allHt all_true all_false mulF subF addF Ht Bd divF rootF floorF easeF mixF)
set_option linter.unusedVariables false

theorem box3 (w : World) (X Y W H : Int) (va : Value) (X2 Y2 W2 H2 : Int) (vb : Value) (X3 Y3 W3 H3 : Int) (vs : Value) : ∀ W0, W0 = ((w.alloc (.cells #[.int .i64 X, .int .i64 Y, .int .i64 W, .int .i64 H, va] 36)).alloc (.cells #[.int .i64 X2, .int .i64 Y2, .int .i64 W2, .int .i64 H2, vb] 36)).alloc (.cells #[.int .i64 X3, .int .i64 Y3, .int .i64 W3, .int .i64 H3, vs] 36) →
    Fld W0 w.heap.size X Y W H va ∧ Fld W0 (w.heap.size + 1) X2 Y2 W2 H2 vb ∧ Fld W0 (w.heap.size + 1 + 1) X3 Y3 W3 H3 vs ∧ Below w.heap.size w W0 := by
  rintro _ rfl
  refine ⟨((Fld.new w X Y W H va).alloc _).alloc _, ?_, ?_, (by repeat (first | with_reducible exact Below.refl _ _ | with_reducible apply Below.drew | with_reducible refine below_drewN ?_ _ | (with_reducible refine Below.setCell ?_ ?_ _; rotate_left; focus (first | omega | (simp <;> omega))) | (with_reducible refine Below.alloc ?_ ?_ _; rotate_left; focus (first | omega | (simp <;> omega)))))⟩
  · have := (Fld.new (w.alloc (.cells #[.int .i64 X, .int .i64 Y, .int .i64 W, .int .i64 H, va] 36)) X2 Y2 W2 H2 vb).alloc (.cells #[.int .i64 X3, .int .i64 Y3, .int .i64 W3, .int .i64 H3, vs] 36)
    simpa using this
  · have := Fld.new ((w.alloc (.cells #[.int .i64 X, .int .i64 Y, .int .i64 W, .int .i64 H, va] 36)).alloc (.cells #[.int .i64 X2, .int .i64 Y2, .int .i64 W2, .int .i64 H2, vb] 36)) X3 Y3 W3 H3 vs
    simpa using this
theorem bel_step {w1 W w2 : World} (h : Below w1.heap.size w1 W) (b : Below W.heap.size W w2) : Below w1.heap.size w1 w2 := h.trans (b.mono h.size)

/-- a right and small field in a variable, its values made since B -/
structure FitAt (w : World) (B k : Nat) (X Y : Int) (Wn Hn g c : Nat) (l : List Nat) : Prop where
  r : Right X Y Wn Hn l
  sm : -5000 ≤ X ∧ X ≤ 5000 ∧ -5000 ≤ Y ∧ Y ≤ 5000 ∧ Wn ≤ 16 ∧ Hn ≤ 16
  f : Fld w k X Y Wn Hn (.slice (some ⟨g, 0, none⟩) l.length c)
  o : OwnF w B g c l

theorem three_stored (w w4 : World) (k B : Nat) (x1 y1 p1 q1 : Int) (u1 : Value) (x2 y2 p2 q2 : Int) (u2 : Value) (x3 y3 p3 q3 : Int) (u3 : Value)
    (F1 : Fld w4 k x1 y1 p1 q1 u1) (F2 : Fld w4 (k + 1) x2 y2 p2 q2 u2) (F3 : Fld w4 (k + 1 + 1) x3 y3 p3 q3 u3)
    {X Y : Int} {Wn Hn g c : Nat} {l : List Nat} {X' Y' : Int} {Wn' Hn' g' c' : Nat} {l' : List Nat} {X'' Y'' : Int} {Wn'' Hn'' g'' c'' : Nat} {l'' : List Nat}
    (r1 : Right X Y Wn Hn l) (s1 : -5000 ≤ X ∧ X ≤ 5000 ∧ -5000 ≤ Y ∧ Y ≤ 5000 ∧ Wn ≤ 16 ∧ Hn ≤ 16)
    (r2 : Right X' Y' Wn' Hn' l') (s2 : -5000 ≤ X' ∧ X' ≤ 5000 ∧ -5000 ≤ Y' ∧ Y' ≤ 5000 ∧ Wn' ≤ 16 ∧ Hn' ≤ 16)
    (r3 : Right X'' Y'' Wn'' Hn'' l'') (s3 : -5000 ≤ X'' ∧ X'' ≤ 5000 ∧ -5000 ≤ Y'' ∧ Y'' ≤ 5000 ∧ Wn'' ≤ 16 ∧ Hn'' ≤ 16)
    (o1 : OwnF w4 B g c l) (o2 : OwnF w4 B g' c' l') (o3 : OwnF w4 B g'' c'' l'') (hB : k + 3 ≤ B) (hb : Below k w w4) :
    ∀ W', W' = ((((((((((((((w4.setCell ⟨k, 0, none⟩ (.int .i64 X)).setCell ⟨k, 1, none⟩ (.int .i64 Y)).setCell ⟨k, 2, none⟩ (.int .i64 Wn)).setCell ⟨k, 3, none⟩ (.int .i64 Hn)).setCell ⟨k, 4, none⟩ (.slice (some ⟨g, 0, none⟩) l.length c)).setCell ⟨k + 1, 0, none⟩ (.int .i64 X')).setCell ⟨k + 1, 1, none⟩ (.int .i64 Y')).setCell ⟨k + 1, 2, none⟩ (.int .i64 Wn')).setCell ⟨k + 1, 3, none⟩ (.int .i64 Hn')).setCell ⟨k + 1, 4, none⟩ (.slice (some ⟨g', 0, none⟩) l'.length c')).setCell ⟨k + 1 + 1, 0, none⟩ (.int .i64 X'')).setCell ⟨k + 1 + 1, 1, none⟩ (.int .i64 Y'')).setCell ⟨k + 1 + 1, 2, none⟩ (.int .i64 Wn'')).setCell ⟨k + 1 + 1, 3, none⟩ (.int .i64 Hn'')).setCell ⟨k + 1 + 1, 4, none⟩ (.slice (some ⟨g'', 0, none⟩) l''.length c'') →
    ∃ (X Y : Int) (Wn Hn g c : Nat) (l : List Nat) (X' Y' : Int) (Wn' Hn' g' c' : Nat) (l' : List Nat) (X'' Y'' : Int) (Wn'' Hn'' g'' c'' : Nat) (l'' : List Nat),
    FitAt W' (k + 3) k X Y Wn Hn g c l ∧ FitAt W' (k + 3) (k + 1) X' Y' Wn' Hn' g' c' l' ∧ FitAt W' (k + 3) (k + 1 + 1) X'' Y'' Wn'' Hn'' g'' c'' l'' ∧ Below k w W' := by
  intro W' hW'
  have h1 := o1.lt.1
  have h2 := o2.lt.1
  have h3 := o3.lt.1
  generalize hA : ((((w4.setCell ⟨k, 0, none⟩ (.int .i64 X)).setCell ⟨k, 1, none⟩ (.int .i64 Y)).setCell ⟨k, 2, none⟩ (.int .i64 Wn)).setCell ⟨k, 3, none⟩ (.int .i64 Hn)).setCell ⟨k, 4, none⟩ (.slice (some ⟨g, 0, none⟩) l.length c) = WA at hW'
  obtain ⟨fA, bA, oA, pA, zA⟩ := fld_store w4 k x1 y1 p1 q1 u1 X Y Wn Hn (.slice (some ⟨g, 0, none⟩) l.length c) F1 WA hA.symm
  generalize hB' : ((((WA.setCell ⟨k + 1, 0, none⟩ (.int .i64 X')).setCell ⟨k + 1, 1, none⟩ (.int .i64 Y')).setCell ⟨k + 1, 2, none⟩ (.int .i64 Wn')).setCell ⟨k + 1, 3, none⟩ (.int .i64 Hn')).setCell ⟨k + 1, 4, none⟩ (.slice (some ⟨g', 0, none⟩) l'.length c') = WB at hW'
  obtain ⟨fB, bB, oB, pB, zB⟩ := fld_store WA (k + 1) x2 y2 p2 q2 u2 X' Y' Wn' Hn' (.slice (some ⟨g', 0, none⟩) l'.length c') (pA _ _ _ _ _ _ F2 (by omega)) WB hB'.symm
  obtain ⟨fC, bC, oC, pC, zC⟩ := fld_store WB (k + 1 + 1) x3 y3 p3 q3 u3 X'' Y'' Wn'' Hn'' (.slice (some ⟨g'', 0, none⟩) l''.length c'') (pB _ _ _ _ _ _ (pA _ _ _ _ _ _ F3 (by omega)) (by omega)) W' hW'
  have up : ∀ g c l, OwnF w4 B g c l → B ≤ g → OwnF W' (k + 3) g c l := fun g c l h hg => (oC _ _ _ _ (oB _ _ _ _ (oA _ _ _ _ h (by omega)) (by omega)) (by omega)).base hB
  refine ⟨X, Y, Wn, Hn, g, c, l, X', Y', Wn', Hn', g', c', l', X'', Y'', Wn'', Hn'', g'', c'', l'', ⟨r1, s1, pC _ _ _ _ _ _ (pB _ _ _ _ _ _ fA (by omega)) (by omega), up _ _ _ o1 h1⟩, ⟨r2, s2, pC _ _ _ _ _ _ fB (by omega), up _ _ _ o2 h2⟩, ⟨r3, s3, fC, up _ _ _ o3 h3⟩, ?_⟩
  exact ((hb.trans bA).trans (bB.mono (by omega))).trans (bC.mono (by omega))
theorem two_regs (w wc : World) (X Y : Int) (Wn Hn g c : Nat) (l : List Nat) (X' Y' : Int) (Wn' Hn' g' c' : Nat) (l' : List Nat) (X'' Y'' : Int) (Wn'' Hn'' g'' c'' : Nat) (l'' : List Nat)
    (h1 : FitAt wc (w.heap.size + 3) w.heap.size X Y Wn Hn g c l) (h2 : FitAt wc (w.heap.size + 3) (w.heap.size + 1) X' Y' Wn' Hn' g' c' l') (h3 : FitAt wc (w.heap.size + 3) (w.heap.size + 1 + 1) X'' Y'' Wn'' Hn'' g'' c'' l'') (hb : Below w.heap.size w wc) :
    ∀ W', W' = ((((((((wc.setCell ⟨w.heap.size + 1, 0, none⟩ (.int .i64 X)).setCell ⟨w.heap.size + 1, 1, none⟩ (.int .i64 Y)).setCell ⟨w.heap.size + 1, 2, none⟩ (.int .i64 (Wn : Int))).setCell ⟨w.heap.size + 1, 3, none⟩ (.int .i64 (Hn : Int))).setCell ⟨w.heap.size + 1 + 1, 0, none⟩ (.int .i64 X)).setCell ⟨w.heap.size + 1 + 1, 1, none⟩ (.int .i64 Y)).setCell ⟨w.heap.size + 1 + 1, 2, none⟩ (.int .i64 (Wn : Int))).setCell ⟨w.heap.size + 1 + 1, 3, none⟩ (.int .i64 (Hn : Int))).drew →
    Fld W' w.heap.size X Y Wn Hn (.slice (some ⟨g, 0, none⟩) l.length c) ∧ Fld W' (w.heap.size + 1) X Y Wn Hn (.slice (some ⟨g', 0, none⟩) l'.length c') ∧ Fld W' (w.heap.size + 1 + 1) X Y Wn Hn (.slice (some ⟨g'', 0, none⟩) l''.length c'') ∧
      OwnF W' (w.heap.size + 3) g c l ∧ OwnF W' (w.heap.size + 3) g' c' l' ∧ OwnF W' (w.heap.size + 3) g'' c'' l'' ∧ Below w.heap.size w W' := by
  intro W' hW
  have z := h1.f.lt
  have z2 := h2.f.lt
  have z3 := h3.f.lt
  have keep : ∀ j X Y A B v, Fld wc j X Y A B v → j ≠ w.heap.size + 1 → j ≠ w.heap.size + 1 + 1 → Fld W' j X Y A B v := by
    intro j X Y A B v hj k1 k2
    subst hW
    exact ((((((((hj.setCell (by simpa using k1) _).setCell (by simpa using k1) _).setCell (by simpa using k1) _).setCell (by simpa using k1) _).setCell (by simpa using k2) _).setCell (by simpa using k2) _).setCell (by simpa using k2) _).setCell (by simpa using k2) _).drew
  have up : ∀ g c l, OwnF wc (w.heap.size + 3) g c l → OwnF W' (w.heap.size + 3) g c l := by
    intro g c l ho
    have hg := ho.lt.1
    have k1 : g ≠ w.heap.size + 1 := by omega
    have k2 : g ≠ w.heap.size + 1 + 1 := by omega
    subst hW
    exact ((((((((ho.setCell (by simpa using k1) _).setCell (by simpa using k1) _).setCell (by simpa using k1) _).setCell (by simpa using k1) _).setCell (by simpa using k2) _).setCell (by simpa using k2) _).setCell (by simpa using k2) _).setCell (by simpa using k2) _).drew
  refine ⟨keep _ _ _ _ _ _ h1.f (by omega) (by omega), ?_, ?_, up _ _ _ h1.o, up _ _ _ h2.o, up _ _ _ h3.o, ?_⟩
  · subst hW
    have k1 : w.heap.size + 1 ≠ w.heap.size + 1 + 1 := by omega
    exact ((((((((h2.f.set0 X).set1 Y).set2 Wn).set3 Hn).setCell (by simp) _).setCell (by simp) _).setCell (by simp) _).setCell (by simp) _).drew
  · subst hW
    have k1 : w.heap.size + 1 + 1 ≠ w.heap.size + 1 := by omega
    exact ((((((((h3.f.setCell (by simp) _).setCell (by simp) _).setCell (by simp) _).setCell (by simp) _).set0 X).set1 Y).set2 Wn).set3 Hn).drew
  · subst hW
    exact hb.trans (by repeat (first | with_reducible exact Below.refl _ _ | with_reducible apply Below.drew | with_reducible refine below_drewN ?_ _ | (with_reducible refine Below.setCell ?_ ?_ _; rotate_left; focus (first | omega | (simp <;> omega))) | (with_reducible refine Below.alloc ?_ ?_ _; rotate_left; focus (first | omega | (simp <;> omega)))))
end Go.Proofs.Ytnfebeebjelgbaa
