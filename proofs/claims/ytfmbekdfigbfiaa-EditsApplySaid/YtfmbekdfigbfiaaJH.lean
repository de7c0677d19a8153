import Derived.Test.YtfmbekdfigbfiaaJG
import Derived.Deep.RegionHeld3
namespace Go.Proofs.Ytfmbekdfigbfiaa
open Go.ChangeShapes Go.WideShapes Go.ChangeAt Go.RowKit
open Ieee.Format (fin finE htE allFin allHt all_true all_false mulF subF addF Ht Bd divF rootF floorF easeF mixF)
set_option linter.unusedVariables false

/-- an operation of a drawn region is taken, looked up in the list (so that its place is written out whatever its number) -/
theorem wpAnyH_takeL {P : Program} {ops : Array Oper} {Q : Exit → Act → World → Prop} {md : Region.Mode} {S : World → Prop} {i : Nat} {oi : Oper} {v : Value} {fuel : Nat} {listed : Array Bool} {a : Act} {w : World} (hi : ops.toList[i]? = some oi)
    (hs : Region.noSelect ops = true) (hf : Region.free md ops listed i = true) (hr : (Region.ready md ops listed).contains i = true)
    (hQ : ∀ c a w, Q (.panic c) (a.put oi.dst v) w → Q (.panic c) a w) (hy : YieldsIf P ops S oi v a) (hS : S w)
    (h : wpAnyH P md ops Q S fuel (listed.setIfInBounds i true) (a.put oi.dst v) w) : wpAnyH P md ops Q S (fuel + 1) listed a w :=
  wpAnyH_take (by rw [← Array.getElem?_toList]; exact hi) hs hf hr hQ hy hS h
/-! ### the law of edits: what is plain -/
theorem softN_append (l m : List Ed) : softN (l ++ m) = softN l + softN m := by simp [softN]
theorem ed_cut {L : List Ed} {k : Nat} (hk : k < L.length) : L = L.take k ++ L[k] :: L.drop (k + 1) := by
  rw [List.getElem_cons_drop]; exact (List.take_append_drop k L).symm
theorem softN_del {L : List Ed} {k : Nat} (hk : k < L.length) : softN (L.take k ++ L.drop (k + 1)) + softB (edAt L k) = softN L := by
  have e := congrArg softN (ed_cut hk)
  rw [softN_append] at e
  have e2 : softN (L[k] :: L.drop (k + 1)) = softB L[k] + softN (L.drop (k + 1)) := by unfold softN; rw [List.map_cons, List.sum_cons]
  rw [softN_append, edAt_eq hk]
  omega
theorem snk_all (L : List Ed) : snk L L.length = softN L := by unfold snk; rw [List.take_length]
/-- a cell of the field behind all edits -/
theorem curF_cell (L : List Ed) (X Y : Int) (Wn Hn : Nat) (g0 : Int → Int → Nat) {x y : Int} (hx : X + softN L ≤ x) (hx2 : x < X + Wn - softN L) (hy : Y + softN L ≤ y) (hy2 : y < Y + Hn - softN L) :
    (curF L X Y Wn Hn g0 L.length).l.getD (cellNo (curF L X Y Wn Hn g0 L.length).X (curF L X Y Wn Hn g0 L.length).Y (curF L X Y Wn Hn g0 L.length).W x y).toNat 0 = edsV L g0 x y := by
  unfold curF
  simp only [snk_all, List.take_length]
  obtain ⟨k, a, b, c⟩ := made_cell (edsV L g0) (X + softN L) (Y + softN L) (Wn - 2 * softN L) (Hn - 2 * softN L) (x := x) (y := y) (by omega) (by omega) (by omega) (by omega)
  rw [a, Int.toNat_natCast, c]
/-- without edit k, a cell outside of its reach is as it was -/
theorem cells_same (L : List Ed) (k : Nat) (hk : k < L.length) (h : (edAt L k).ok) (X Y : Int) (Wn Hn : Nat) (g0 : Int → Int → Nat) {x y : Int} (hx : X + softN L ≤ x) (hx2 : x < X + Wn - softN L) (hy : Y + softN L ≤ y) (hy2 : y < Y + Hn - softN L)
    (hn : ¬ inR ((edAt L k).X - (edAt L k).R + 1 - softN (L.drop (k + 1))) ((edAt L k).Y - (edAt L k).R + 1 - softN (L.drop (k + 1))) (2 * (edAt L k).R - 1 + 2 * softN (L.drop (k + 1))) (2 * (edAt L k).R - 1 + 2 * softN (L.drop (k + 1))) x y) :
    (curF L X Y Wn Hn g0 L.length).l.getD (cellNo (curF L X Y Wn Hn g0 L.length).X (curF L X Y Wn Hn g0 L.length).Y (curF L X Y Wn Hn g0 L.length).W x y).toNat 0 =
      (curF (L.take k ++ L.drop (k + 1)) X Y Wn Hn g0 (L.take k ++ L.drop (k + 1)).length).l.getD (cellNo (curF (L.take k ++ L.drop (k + 1)) X Y Wn Hn g0 (L.take k ++ L.drop (k + 1)).length).X (curF (L.take k ++ L.drop (k + 1)) X Y Wn Hn g0 (L.take k ++ L.drop (k + 1)).length).Y (curF (L.take k ++ L.drop (k + 1)) X Y Wn Hn g0 (L.take k ++ L.drop (k + 1)).length).W x y).toNat 0 := by
  have hd := softN_del hk
  rw [curF_cell L X Y Wn Hn g0 hx hx2 hy hy2, curF_cell (L.take k ++ L.drop (k + 1)) X Y Wn Hn g0 (by omega) (by omega) (by omega) (by omega)]
  rw [edAt_eq hk] at h hn
  exact reach_law L k hk h g0 x y hn
/-- what the last loops of the law ask of the two fields -/
structure SamePart (u v : Lv) (A B D : Int) : Prop where
  u1 : 1 ≤ u.W
  u2 : u.W ≤ 16
  u3 : 1 ≤ u.H
  u4 : u.H ≤ 16
  u5 : -8388608 ≤ u.X
  u6 : u.X ≤ 8388000
  u7 : -8388608 ≤ u.Y
  u8 : u.Y ≤ 8388000
  v1 : 1 ≤ v.W
  v2 : v.W ≤ 16
  v3 : 1 ≤ v.H
  v4 : v.H ≤ 16
  v5 : -8388608 ≤ v.X
  v6 : v.X ≤ 8388608
  v7 : -8388608 ≤ v.Y
  v8 : v.Y ≤ 8388608
  lu : u.l.length = u.H * u.W
  lv : v.l.length = v.H * v.W
  i1 : v.X ≤ u.X
  i2 : u.X + u.W ≤ v.X + v.W
  i3 : v.Y ≤ u.Y
  i4 : u.Y + u.H ≤ v.Y + v.H
  d1 : 1 ≤ D
  d2 : D ≤ 1024
  a1 : -8388608 ≤ A
  a2 : A ≤ 8388608
  b1 : -8388608 ≤ B
  b2 : B ≤ 8388608
  eq : ∀ x y, u.X ≤ x → x < u.X + u.W → u.Y ≤ y → y < u.Y + u.H → ¬ inR A B D D x y → u.l.getD (cellNo u.X u.Y u.W x y).toNat 0 = v.l.getD (cellNo v.X v.Y v.W x y).toNat 0
theorem appE_dims {L : List Ed} {Wn Hn : Nat} {S : List Nat} (h : appE L Wn Hn S = 0) : 2 * softN L < Wn ∧ 2 * softN L < Hn := by
  unfold appE at h
  split at h
  · contradiction
  · split at h
    · cases h
    · omega
theorem same_part (L : List Ed) (k : Nat) (hk : k < L.length) (hn : L.length ≤ 12) (h : (edAt L k).ok) (X Y : Int) (Wn Hn : Nat) (l : List Nat) (S : List Nat) (hr : Right X Y Wn Hn l) (hw : Wn ≤ 16) (hh : Hn ≤ 16) (hE : appE L Wn Hn S = 0) :
    SamePart (curF L X Y Wn Hn (cur0 X Y Wn l) L.length) (curF (L.take k ++ L.drop (k + 1)) X Y Wn Hn (cur0 X Y Wn l) (L.take k ++ L.drop (k + 1)).length)
      ((edAt L k).X - (edAt L k).R + 1 - softN (L.drop (k + 1))) ((edAt L k).Y - (edAt L k).R + 1 - softN (L.drop (k + 1))) (2 * (edAt L k).R - 1 + 2 * softN (L.drop (k + 1))) := by
  obtain ⟨e1, e2⟩ := appE_dims hE
  have hd := softN_del hk
  have hs := softN_le L
  have x1 := hr.x1; have x2 := hr.x2; have y1 := hr.y1; have y2 := hr.y2; have w1 := hr.w1; have h1 := hr.h1
  obtain ⟨_, _, pb, r1, r2, _⟩ := brush_zero h.b
  obtain ⟨p1, p2, p3, p4⟩ := pb
  have hq := softN_le (L.drop (k + 1))
  rw [List.length_drop] at hq
  have hcs := fun x y a b c d e => cells_same L k hk h X Y Wn Hn (cur0 X Y Wn l) (x := x) (y := y) a b c d e
  generalize hv : L.take k ++ L.drop (k + 1) = L' at *
  have u1 : (curF L X Y Wn Hn (cur0 X Y Wn l) L.length).X = X + softN L := by unfold curF; rw [snk_all]
  have u2 : (curF L X Y Wn Hn (cur0 X Y Wn l) L.length).Y = Y + softN L := by unfold curF; rw [snk_all]
  have u3 : (curF L X Y Wn Hn (cur0 X Y Wn l) L.length).W = Wn - 2 * softN L := by unfold curF; rw [snk_all]
  have u4 : (curF L X Y Wn Hn (cur0 X Y Wn l) L.length).H = Hn - 2 * softN L := by unfold curF; rw [snk_all]
  have v1 : (curF L' X Y Wn Hn (cur0 X Y Wn l) L'.length).X = X + softN L' := by unfold curF; rw [snk_all]
  have v2 : (curF L' X Y Wn Hn (cur0 X Y Wn l) L'.length).Y = Y + softN L' := by unfold curF; rw [snk_all]
  have v3 : (curF L' X Y Wn Hn (cur0 X Y Wn l) L'.length).W = Wn - 2 * softN L' := by unfold curF; rw [snk_all]
  have v4 : (curF L' X Y Wn Hn (cur0 X Y Wn l) L'.length).H = Hn - 2 * softN L' := by unfold curF; rw [snk_all]
  have u5 : (curF L X Y Wn Hn (cur0 X Y Wn l) L.length).l.length = (Hn - 2 * softN L) * (Wn - 2 * softN L) := by unfold curF; rw [snk_all, madeL_len]
  have v5 : (curF L' X Y Wn Hn (cur0 X Y Wn l) L'.length).l.length = (Hn - 2 * softN L') * (Wn - 2 * softN L') := by unfold curF; rw [snk_all, madeL_len]
  generalize curF L X Y Wn Hn (cur0 X Y Wn l) L.length = u at *
  generalize curF L' X Y Wn Hn (cur0 X Y Wn l) L'.length = v at *
  have eq : ∀ x y, u.X ≤ x → x < u.X + u.W → u.Y ≤ y → y < u.Y + u.H → ¬ inR ((edAt L k).X - (edAt L k).R + 1 - softN (L.drop (k + 1))) ((edAt L k).Y - (edAt L k).R + 1 - softN (L.drop (k + 1))) (2 * (edAt L k).R - 1 + 2 * softN (L.drop (k + 1))) (2 * (edAt L k).R - 1 + 2 * softN (L.drop (k + 1))) x y → u.l.getD (cellNo u.X u.Y u.W x y).toNat 0 = v.l.getD (cellNo v.X v.Y v.W x y).toNat 0 :=
    fun x y a b c d e => hcs x y (by omega) (by omega) (by omega) (by omega) e
  have lu : u.l.length = u.H * u.W := by rw [u5, u3, u4]
  have lv : v.l.length = v.H * v.W := by rw [v5, v3, v4]
  clear hcs u5 v5 hr
  exact ⟨by omega, by omega, by omega, by omega, by omega, by omega, by omega, by omega, by omega, by omega, by omega, by omega, by omega, by omega, by omega, by omega, lu, lv, by omega, by omega, by omega, by omega, by omega, by omega, by omega, by omega, by omega, by omega, eq⟩
theorem ed_min (a b : Int) : ∃ M : Int, (∀ w' : World, (Builtin.min_ #[3, 3] 3 #[.int .i64 a, .int .i64 b]).run Try.prog w' = .ok (.int .i64 M) w') ∧ M ≤ a ∧ M ≤ b ∧ (M = a ∨ M = b) := by
  obtain ⟨m1, hm1⟩ : ∃ m1, m1 = if b < a then b else a := ⟨_, rfl⟩
  refine ⟨m1, fun w' => ?_, ?_⟩
  · subst hm1; rfl
  · split at hm1 <;> omega
/-- the memory of the law from the comparison of both fields on -/
structure LwI (w wr : World) (X' Y' : Int) (Wn Hn g cap' : Nat) (l' : List Nat) (B0 ka BA : Nat) (C : Int) (u : Lv) (x y p q : Int) (a : Option Addr) (n k : Nat) : Prop where
  f : Fld wr w.heap.size X' Y' Wn Hn (.slice (some ⟨g, 0, none⟩) l'.length cap')
  o : OwnF wr B0 g cap' l'
  pa : Fld wr ka x y p q (.slice a n k)
  v : OutV C u.X u.Y u.W u.H u.l wr BA x y p q a n k
  b : Below w.heap.size w wr
section
variable {w wr w2 : World} {X' Y' : Int} {Wn Hn g cap' : Nat} {l' : List Nat} {B0 ka BA : Nat} {C : Int} {u : Lv} {x y p q : Int} {a : Option Addr} {n k : Nat}
theorem LwI.call (h : LwI w wr X' Y' Wn Hn g cap' l' B0 ka BA C u x y p q a n k) (hb : Below wr.heap.size wr w2) : LwI w w2 X' Y' Wn Hn g cap' l' B0 ka BA C u x y p q a n k :=
  ⟨h.f.below hb h.f.lt, h.o.below hb h.o.lt.2, h.pa.below hb h.pa.lt, h.v.below hb, h.b.trans (hb.mono h.b.size)⟩
theorem LwI.alloc (h : LwI w wr X' Y' Wn Hn g cap' l' B0 ka BA C u x y p q a n k) (o : Obj) : LwI w (wr.alloc o) X' Y' Wn Hn g cap' l' B0 ka BA C u x y p q a n k := h.call ((Below.refl _ _).alloc (Nat.le_refl _) _)
end
/-- the memory of its last loops -/
structure FinI (w wr : World) (ka kc kr : Nat) (u v : Lv) (A B D : Int) (ga ca gc cc : Nat) : Prop where
  a : Fld wr ka u.X u.Y u.W u.H (.slice (some ⟨ga, 0, none⟩) u.l.length ca)
  c : Fld wr kc v.X v.Y v.W v.H (.slice (some ⟨gc, 0, none⟩) v.l.length cc)
  r : Reg wr kr A B D D
  ra : SRow wr (some ⟨ga, 0, none⟩) u.l
  rc : SRow wr (some ⟨gc, 0, none⟩) v.l
  b : Below w.heap.size w wr
theorem FinI.call {w wr w2 : World} {ka kc kr : Nat} {u v : Lv} {A B D : Int} {ga ca gc cc : Nat} (h : FinI w wr ka kc kr u v A B D ga ca gc cc) (hb : Below wr.heap.size wr w2) : FinI w w2 ka kc kr u v A B D ga ca gc cc :=
  ⟨h.a.below hb h.a.lt, h.c.below hb h.c.lt, h.r.below hb h.r.lt, h.ra.below hb, h.rc.below hb, h.b.trans (hb.mono h.b.size)⟩
theorem FinI.held {w wr w2 : World} {ka kc kr : Nat} {u v : Lv} {A B D : Int} {ga ca gc cc : Nat} (h : FinI w wr ka kc kr u v A B D ga ca gc cc) (hb : Below wr.heap.size wr w2) :
    w2.cell? ⟨kr, 0, none⟩ = some (.int .i64 A) ∧ w2.cell? ⟨kr, 1, none⟩ = some (.int .i64 B) ∧ w2.cell? ⟨kr, 2, none⟩ = some (.int .i64 D) ∧ w2.cell? ⟨kr, 3, none⟩ = some (.int .i64 D) ∧
    w2.cell? ⟨ka, 0, none⟩ = some (.int .i64 u.X) ∧ w2.cell? ⟨ka, 1, none⟩ = some (.int .i64 u.Y) ∧ w2.cell? ⟨ka, 2, none⟩ = some (.int .i64 (u.W : Int)) ∧ w2.cell? ⟨ka, 3, none⟩ = some (.int .i64 (u.H : Int)) ∧ w2.cell? ⟨ka, 4, none⟩ = some (.slice (some ⟨ga, 0, none⟩) u.l.length ca) ∧
    w2.cell? ⟨kc, 0, none⟩ = some (.int .i64 v.X) ∧ w2.cell? ⟨kc, 1, none⟩ = some (.int .i64 v.Y) ∧ w2.cell? ⟨kc, 2, none⟩ = some (.int .i64 (v.W : Int)) ∧ w2.cell? ⟨kc, 3, none⟩ = some (.int .i64 (v.H : Int)) ∧ w2.cell? ⟨kc, 4, none⟩ = some (.slice (some ⟨gc, 0, none⟩) v.l.length cc) ∧ Below wr.heap.size wr w2 := by
  have g := h.call hb
  obtain ⟨r0, r1, r2, r3⟩ := g.r.cells
  obtain ⟨a0, a1, a2, a3, a4⟩ := g.a.cells
  obtain ⟨c0, c1, c2, c3, c4⟩ := g.c.cells
  exact ⟨r0, r1, r2, r3, a0, a1, a2, a3, a4, c0, c1, c2, c3, c4, hb⟩
theorem FinI.drew {w wr : World} {ka kc kr : Nat} {u v : Lv} {A B D : Int} {ga ca gc cc : Nat} (h : FinI w wr ka kc kr u v A B D ga ca gc cc) : FinI w wr.drew ka kc kr u v A B D ga ca gc cc := h.call (Below.refl _ _).drew
end Go.Proofs.Ytfmbekdfigbfiaa

namespace Go.Proofs.Ytfmbekdfigbfiaa
open Go.ChangeShapes Go.WideShapes Go.ChangeAt Go.RowKit
open Ieee.Format (fin finE htE allFin allHt all_true all_false mulF subF addF Ht Bd divF rootF floorF easeF mixF)
set_option linter.unusedVariables false

set_option maxRecDepth 100000 in
set_option maxHeartbeats 16000000 in
theorem edits_law (X Y A B : Int) (a : Option Addr) (l : List Nat) (cap : Nat) (ea : Option Addr) (L0 : List Ed) (ecap : Nat) (k : Int) (w : World) (hl : Row63 w a l) (hE : EdRow w ea L0) (hc1 : L0.length ≤ ecap) (hc2 : ecap ≤ 9223372036854775807) :
    Calls Try.prog 5 #[fldV X Y A B a l.length cap, .slice ea L0.length ecap, .int .i64 k] w fun e w' => e = .returned (.bool true) ∧ Below w.heap.size w w' := by
  have HL := Lib.hid hl
  obtain ⟨M, hM, m1, m2, m3⟩ := ed_min (L0.length : Int) 12
  obtain ⟨L, hL⟩ : ∃ L, L = L0.take 12 := ⟨_, rfl⟩
  have hMl : M = (L.length : Int) := by rw [hL, List.length_take]; omega
  have HRW : Hid (EdRow w ea L) := Lib.hid (by rw [hL]; exact hE.take 12)
  have hn : L.length ≤ 12 := by rw [hL, List.length_take]; omega
  have hce : L.length ≤ ecap := by rw [hL, List.length_take]; omega
  have hl0 : L.length ≤ L0.length := by rw [hL, List.length_take]; omega
  have hml : L0.length ≤ 9223372036854775807 := hE.1.1
  subst hMl
  generalize L0.length = N0 at *
  clear hl hE hL m1 m2 m3
  go_enter Try.func5, Try.ntmps5
  go_wp2_with fail
  generalize hW0 : w.alloc (.cells #[.int .i64 X, .int .i64 Y, .int .i64 A, .int .i64 B, .slice a l.length cap] 26) = W0 at *
  have F0 : Fld W0 w.heap.size X Y A B (.slice a l.length cap) := by subst hW0; exact Fld.new _ _ _ _ _ _
  have B0 : Below w.heap.size w W0 := by subst hW0; exact (by repeat (first | with_reducible exact Below.refl _ _ | with_reducible apply Below.drew | with_reducible refine below_drewN ?_ _ | (with_reducible refine Below.setCell ?_ ?_ _; rotate_left; focus (first | omega | (simp <;> omega))) | (with_reducible refine Below.alloc ?_ ?_ _; rotate_left; focus (first | omega | (simp <;> omega)))))
  clear hW0
  refine (landed_bel _).mono ?_
  rintro e w1 ⟨rfl, b1⟩
  have F1 := F0.below b1 F0.lt
  have B1 := Lib.hid (B0.trans (b1.mono B0.size))
  clear b1 F0 B0
  obtain ⟨c0, c1, c2, c3, c4⟩ := F1.cells
  have HF1 := Lib.hid F1
  clear F1
  go_wp2_with fail
  refine (fit_any X Y A B a cap l w1 (HL.out.below B1.out)).mono ?_
  rintro e w2 ⟨X', Y', Wn, Hn, g, cap', l', rfl, hr, hsm, ho, b2⟩
  have F2 := HF1.out.below b2 HF1.out.lt
  have B2 := Lib.hid (B1.out.trans (b2.mono B1.out.size))
  have HG : Hid (g ≠ w.heap.size) := by have := ho.lt.1; have := HF1.out.lt; unfold Hid; omega
  have HO := Lib.hid ho
  have HML : Hid (l'.length ≤ 1099511627776) := by
    have h1 := Nat.mul_le_mul hr.h2 hr.w2
    rw [← hr.len] at h1
    unfold Hid; omega
  have HHR := Lib.hid hr
  have HSM := Lib.hid hsm
  obtain ⟨U, hU⟩ : ∃ U, U = curF L X' Y' Wn Hn (cur0 X' Y' Wn l') L.length := ⟨_, rfl⟩
  obtain ⟨C, hC⟩ : ∃ C, C = appE L Wn Hn U.l := ⟨_, rfl⟩
  have P1 : Hid (∀ W, SRow W (some ⟨g, 0, none⟩) l' → Below w.heap.size w W → Calls Try.prog 25 #[fldV X' Y' Wn Hn (some ⟨g, 0, none⟩) l'.length cap', .slice ea L.length ecap] W fun e w' => OpP C U.X U.Y U.W U.H U.l W e w') := fun W h1 h2 => by
    rw [hC, hU]; exact apply_any L ea ecap X' Y' Wn Hn g cap' l' W hr h1 (HRW.out.below h2) hn
  have P2 : Hid (∀ W, OwnF W w1.heap.size g cap' l' → Below w.heap.size w W → w1.heap.size ≤ W.heap.size → Calls Try.prog 26 #[fldV X' Y' Wn Hn (some ⟨g, 0, none⟩) l'.length cap', .slice ea L.length ecap] W fun e w' => OpBase w1.heap.size C U.X U.Y U.W U.H U.l W e w') := fun W h1 h2 h3 => by
    have := hr.x1; have := hr.x2; have := hr.y1; have := hr.y2
    rw [hC, hU]; exact refapply_any L ea ecap X' Y' Wn Hn g cap' _ l' W hr h1 h3 (HRW.out.below h2) hn (by omega) (by omega) (by omega) (by omega)
  have HS : Hid (U.l.length ≤ 1099511627776) := by
    rw [hU]; unfold curF Hid
    rw [madeL_len]
    have h1 := hsm.2.2.2.2.1
    have h2 := hsm.2.2.2.2.2
    have := Nat.mul_le_mul (show Hn - 2 * snk L L.length ≤ 16 by omega) (show Wn - 2 * snk L L.length ≤ 16 by omega)
    omega
  have HPA : Hid (∀ k : Nat, k < L.length → anyBad L = false → C = 0 → SamePart U (curF (L.take k ++ L.drop (k + 1)) X' Y' Wn Hn (cur0 X' Y' Wn l') (L.take k ++ L.drop (k + 1)).length)
        ((edAt L k).X - (edAt L k).R + 1 - softN (L.drop (k + 1))) ((edAt L k).Y - (edAt L k).R + 1 - softN (L.drop (k + 1))) (2 * (edAt L k).R - 1 + 2 * softN (L.drop (k + 1)))) := fun k hk h0 h1 => by
    rw [hU]
    exact same_part L k hk hn (edE_ok (anyBad_ok h0 _ (edAt_mem hk))) X' Y' Wn Hn l' U.l hr hsm.2.2.2.2.1 hsm.2.2.2.2.2 (hC.symm.trans h1)
  clear hC hU
  clear b2 hr ho c0 c1 c2 c3 c4 hsm
  obtain ⟨c0, c1, c2, c3, c4⟩ := F2.cells
  have qf0 := F2.frozen 0
  have qf1 := F2.frozen 1
  have qf2 := F2.frozen 2
  have qf3 := F2.frozen 3
  have qf4 := F2.frozen 4
  have HF2 := Lib.hid F2
  clear F2
  go_wp2_with fail
  generalize hW3 : ((((w2.setCell ⟨w.heap.size, 0, none⟩ (.int .i64 X')).setCell ⟨w.heap.size, 1, none⟩ (.int .i64 Y')).setCell ⟨w.heap.size, 2, none⟩ (.int .i64 (Wn : Int))).setCell ⟨w.heap.size, 3, none⟩ (.int .i64 (Hn : Int))).setCell ⟨w.heap.size, 4, none⟩ (.slice (some ⟨g, 0, none⟩) l'.length cap') = W3 at *
  obtain ⟨f3, bb3, oo3, _, z3⟩ := fld_store w2 w.heap.size X Y A B _ X' Y' Wn Hn (.slice (some ⟨g, 0, none⟩) l'.length cap') HF2.out W3 hW3.symm
  have HF3 := Lib.hid f3
  have HB3 := Lib.hid (B2.out.trans bb3)
  have HO3 := Lib.hid (oo3 _ _ _ _ HO.out HG.out)
  have HQ3 := Lib.hid (HO3.out.row HML.out)
  clear hW3 f3 bb3 oo3 z3 HO HF2 HF1 B1 B2 c0 c1 c2 c3 c4 qf0 qf1 qf2 qf3 qf4 HL HG
  have P2 : Hid (∀ W, OwnF W w1.heap.size g cap' l' → Below w.heap.size w W → Calls Try.prog 26 #[fldV X' Y' Wn Hn (some ⟨g, 0, none⟩) l'.length cap', .slice ea L.length ecap] W fun e w' => OpBase w1.heap.size C U.X U.Y U.W U.H U.l W e w') := fun W h1 h2 => P2.out W h1 h2 (by have := h1.lt; omega)
  generalize w1.heap.size = B0 at *
  refine (P1.out W3 HQ3.out HB3.out).mono ?_
  rintro e w4 ⟨⟨x1, y1, p1, q1, a1, n1, k1, rfl, o4⟩, b4⟩
  have F4 := HF3.out.below b4 HF3.out.lt
  have HB4 := Lib.hid (HB3.out.trans (b4.mono HB3.out.size))
  have HO4 := Lib.hid (HO3.out.below b4 HO3.out.lt.2)
  have HV4 := Lib.hid o4
  clear b4 o4
  obtain ⟨c0, c1, c2, c3, c4⟩ := F4.cells
  have HF4 := Lib.hid F4
  clear F4
  have hk0 : w.heap.size < w4.heap.size := HF4.out.lt
  go_wp2_with fail
  generalize hW5 : w4.alloc (.cells #[.int .i64 x1, .int .i64 y1, .int .i64 p1, .int .i64 q1, .slice a1 n1 k1] 26) = W5 at *
  have P5 : Fld W5 w4.heap.size x1 y1 p1 q1 (.slice a1 n1 k1) := by subst hW5; exact Fld.new _ _ _ _ _ _
  have B5 : Below w4.heap.size w4 W5 := by subst hW5; exact (by repeat (first | with_reducible exact Below.refl _ _ | with_reducible apply Below.drew | with_reducible refine below_drewN ?_ _ | (with_reducible refine Below.setCell ?_ ?_ _; rotate_left; focus (first | omega | (simp <;> omega))) | (with_reducible refine Below.alloc ?_ ?_ _; rotate_left; focus (first | omega | (simp <;> omega)))))
  have HF5 := Lib.hid (HF4.out.below B5 HF4.out.lt)
  have HB5 := Lib.hid (HB4.out.trans (B5.mono HB4.out.size))
  have HO5 := Lib.hid (HO4.out.below B5 HO4.out.lt.2)
  have HV5 := Lib.hid (HV4.out.below B5)
  have HP5 := Lib.hid P5
  have HK := Lib.hid hk0
  clear hW5 P5 B5 HB4 HV4 HF4 HB3 HQ3 HO3 HO4 HF3 c0 c1 c2 c3 c4
  generalize w4.heap.size = ka at *
  refine (P2.out W5 HO5.out HB5.out).mono ?_
  rintro e w6 ⟨⟨x2, y2, p2, q2, a2, n2, k2, rfl, o6⟩, b6⟩
  have HP6 := Lib.hid (HP5.out.below b6 HP5.out.lt)
  have HF6 := Lib.hid (HF5.out.below b6 HF5.out.lt)
  have HO6 := Lib.hid (HO5.out.below b6 HO5.out.lt.2)
  have HB6 := Lib.hid (HB5.out.trans (b6.mono HB5.out.size))
  have HV6 := Lib.hid (HV5.out.below b6)
  have HU6 := Lib.hid o6
  clear b6 o6
  obtain ⟨d0, d1, d2, d3, d4⟩ := HP6.out.cells
  have lz1 : ka < w6.heap.size := HP6.out.lt
  have lz0 : w.heap.size < w6.heap.size := HF6.out.lt
  clear HV5 HP5 HO5 HB5 HF5 hk0 P2
  go_wp2_with fail
  generalize hW7 : w6.alloc (.cells #[.int .i64 x2, .int .i64 y2, .int .i64 p2, .int .i64 q2, .slice a2 n2 k2] 26) = W7 at *
  have B7 : Below w6.heap.size w6 W7 := by subst hW7; exact (by repeat (first | with_reducible exact Below.refl _ _ | with_reducible apply Below.drew | with_reducible refine below_drewN ?_ _ | (with_reducible refine Below.setCell ?_ ?_ _; rotate_left; focus (first | omega | (simp <;> omega))) | (with_reducible refine Below.alloc ?_ ?_ _; rotate_left; focus (first | omega | (simp <;> omega)))))
  have HB7 := Lib.hid (HB6.out.trans (B7.mono HB6.out.size))
  have HF7 := Lib.hid (HF6.out.below B7 HF6.out.lt)
  have HO7 := Lib.hid (HO6.out.below B7 HO6.out.lt.2)
  have HP7 := Lib.hid (HP6.out.below B7 HP6.out.lt)
  have HV7 := Lib.hid (HV6.out.below B7)
  have HU7 := Lib.hid (HU6.out.below B7)
  clear hW7 B7 HB6 HV6 HU6 HP6 HF6 HO6 d0 d1 d2 d3 d4 lz0 lz1
  refine (same_out HV7.out HU7.out HS.out).mono ?_
  rintro e w8 ⟨rfl, b8⟩
  have HB8 := Lib.hid (HB7.out.trans (b8.mono HB7.out.size))
  have HF8 := Lib.hid (HF7.out.below b8 HF7.out.lt)
  have HO8 := Lib.hid (HO7.out.below b8 HO7.out.lt.2)
  have HP8 := Lib.hid (HP7.out.below b8 HP7.out.lt)
  have HV8 := Lib.hid (HV7.out.below b8)
  clear b8 HV7 HU7 HB7 HF7 HO7 HP7
  go_wp2_with fail
  refine (edcontains_any L ea ecap w8 (HRW.out.below HB8.out) (by omega)).mono ?_
  rintro e w9 ⟨rfl, b9⟩
  have HI9 : Hid (LwI w w9 X' Y' Wn Hn g cap' l' B0 ka W3.heap.size C U x1 y1 p1 q1 a1 n1 k1) := Lib.hid (LwI.call ⟨HF8.out, HO8.out, HP8.out, HV8.out, HB8.out⟩ b9)
  clear b9 HV8 HB8 HF8 HO8 HP8
  have HZ : Hid (anyBad L = true ∨ anyBad L = false) := by cases anyBad L <;> simp [Hid]
  rcases HZ.out with hbad | hbad
  · rw [hbad]
    go_wp2_with fail
    go_ret
    exact ⟨rfl, (by have h := HI9.out.b; exact (by have hszz := h.size; repeat (first | with_reducible exact h | with_reducible apply Below.drew | with_reducible refine below_drewN ?_ _ | (with_reducible refine Below.setCell ?_ ?_ _; rotate_left; focus (first | omega | (simp <;> omega))) | (with_reducible refine Below.alloc ?_ ?_ _; rotate_left; focus (first | omega | (simp <;> omega))))))⟩
  rw [hbad]
  go_wp2_with fail
  refine (margin_any L ea ecap w9 (HRW.out.below HI9.out.b) (by omega)).mono ?_
  rintro e w10 ⟨rfl, b10⟩
  have HI10 := Lib.hid (HI9.out.call b10)
  clear b10 HI9
  have HSF := Lib.hid (fun k => softN_le (L.take k))
  have HEF : Hid (softN (L.take L.length) = softN L) := Lib.hid (by rw [List.take_length])
  have HA' : Hid (∀ k, k < L.length → ∃ b o, ea = some ⟨b, o, none⟩ ∧ b < w.heap.size ∧ EdCells w b o L) := fun k hk => by
    rcases HRW.out.2 with h | h
    · rw [h] at hk; exact absurd hk (by simp)
    · exact h
  have HBAD := Lib.hid hbad
  clear hbad HZ
  go_wp2_with fail
  have LST := HEF.out
  go_loopw [12, 56] (fun av iv wr => ∃ k : Nat, k ≤ L.length ∧ iv = .int .i64 (k : Int) ∧ av = .int .i64 (softN (L.take k) : Int) ∧ Below w10.heap.size w10 wr) (fun _ iv _ => L.length - (intOf iv).toNat)
  case atStart => exact ⟨0, by omega, rfl, rfl, Below.refl _ _⟩
  case round =>
    obtain ⟨k', hk, rfl, rfl, hb⟩ := hrel
    by_cases hlt : k' < L.length
    · obtain ⟨b, o, rfl, hlb, hc⟩ := HA'.out k' hlt
      have hi' : (k' : Int) < (L.length : Int) := by omega
      have HB := Lib.hid (HI10.out.b.trans (hb.mono HI10.out.b.size))
      obtain ⟨c0, c1, c2, c3, c4, c5, c6⟩ := (hc.below HB.out hlb).seven hlt
      have hst := softN_take hlt
      have hs0 := HSF.out (k' + 1)
      rw [List.length_take] at hs0
      unfold softB at hst
      obtain ⟨r1, hr1⟩ : ∃ r1, r1 = softN (L.take (k' + 1)) := ⟨_, rfl⟩
      have HR1 := Lib.hid hr1
      rw [← hr1] at hst hs0
      clear hr1 hc
      generalize softN (L.take k') = r0 at *
      generalize edAt L k' = e at *
      obtain ⟨kd, bk, BX, BY, R, h, t⟩ := e
      simp only at *
      have HBN := Lib.hid hb
      clear hb HI10 HSF HEF LST HA'
      go_upto_region 16 with fail
      generalize hW : wr.alloc (.cells #[.int .i64 kd, .int .i64 bk, .int .i64 BX, .int .i64 BY, .int .i64 R, .float .f32 h, .float .f32 t] 68) = WE at *
      have HBE : Hid (Below w10.heap.size w10 WE) := Lib.hid (by rw [← hW]; exact HBN.out.alloc HBN.out.size _)
      have ce : WE.cell? ⟨wr.heap.size, 0, none⟩ = some (.int .i64 kd) := by rw [← hW]; exact (Blk.new wr _ _).cell 0
      have le : wr.heap.size < WE.heap.size := by rw [← hW]; simp
      clear hW c0 c1 c2 c3 c4 c5 c6
      by_cases h3 : kd = 3
      · rw [if_pos h3] at hst
        subst h3
        have er : (r1 : Int) = (r0 : Int) + 1 := by omega
        have HEr := Lib.hid er
        have hr63 : r0 ≤ 9223372036854775800 := by omega
        clear hst er
        go_wp2_with fail
        go_roundw
        case rel => exact ⟨k' + 1, by omega, by go_num, by rw [← HR1.out]; exact congrArg (Value.int .i64) HEr.out.symm, HBE.out⟩
        case measure => simp [intOf]; omega
      · rw [if_neg h3] at hst
        obtain rfl : r1 = r0 := by omega
        have hb3 : (kd == 3) = false := by simpa using h3
        clear hst
        go_wp2_with fail
        go_roundw
        case rel => exact ⟨k' + 1, by omega, by go_num, by rw [← HR1.out], HBE.out⟩
        case measure => simp [intOf]; omega
    · obtain rfl : k' = L.length := by omega
      rw [LST] at *
      have HI11 := Lib.hid (HI10.out.call hb)
      clear hb HI10
      go_wp2_with fail
      obtain ⟨f0, f1, f2, f3, f4⟩ := HI11.out.f.cells
      have lf := HI11.out.f.lt
      by_cases hkr : k < 0 ∨ (L.length : Int) ≤ k
      · refine (Reach_out L ea ecap k wr hn hkr).mono ?_
        rintro e w12 ⟨rfl, b12⟩
        have HB12 := Lib.hid (HI11.out.call b12).b
        have kq := fun w => eqlReg 0 0 0 0 0 0 0 0 w
        have kg := fun xx yy w => eqGuardReg .eql xx yy 0 0 0 0 0 0 0 0 w
        clear b12 HI11 f0 f1 f2 f3 f4 lf HA'
        have hk2 : k < 0 ∨ ¬ k < 0 ∧ (L.length : Int) ≤ k := by omega
        clear hkr
        rcases hk2 with hk0 | ⟨hk0, hk1⟩
        all_goals
          go_wp2_with fail
          go_ret
          exact ⟨ret_bool (by simp), (by have h := HB12.out; exact (by have hszz := h.size; repeat (first | with_reducible exact h | with_reducible apply Below.drew | with_reducible refine below_drewN ?_ _ | (with_reducible refine Below.setCell ?_ ?_ _; rotate_left; focus (first | omega | (simp <;> omega))) | (with_reducible refine Below.alloc ?_ ?_ _; rotate_left; focus (first | omega | (simp <;> omega))))))⟩
      · obtain ⟨kn, rfl⟩ : ∃ kn : Nat, k = (kn : Int) := ⟨k.toNat, by omega⟩
        have hkn : kn < L.length := by omega
        have hok : (edAt L kn).ok := edE_ok (anyBad_ok HBAD.out _ (edAt_mem hkn))
        have K12 := Reach_in L ea ecap kn wr (HRW.out.below HI11.out.b) hn hce hc2 hkn hok
        have KR := Lib.hid (fun W h => refreach_any L ea ecap kn W h hn hce hc2 hkn hok)
        have HSP := Lib.hid (HPA.out kn hkn HBAD.out)
        obtain ⟨LD, hLD⟩ : ∃ LD, LD = L.take kn ++ L.drop (kn + 1) := ⟨_, rfl⟩
        have hdn : LD.length ≤ 12 := by rw [hLD, List.length_append, List.length_take, List.length_drop]; omega
        rw [← hLD] at HSP
        have HLD := Lib.hid hLD
        clear hLD hkr
        obtain ⟨b, o, rfl, hlb, hc⟩ := HA'.out kn hkn
        clear HA' hc hok
        generalize (edAt L kn).X - (edAt L kn).R + 1 - (softN (L.drop (kn + 1)) : Int) = RA at *
        generalize (edAt L kn).Y - (edAt L kn).R + 1 - (softN (L.drop (kn + 1)) : Int) = RB at *
        generalize 2 * (edAt L kn).R - 1 + 2 * (softN (L.drop (kn + 1)) : Int) = RD at *
        obtain ⟨V, hV⟩ : ∃ V, V = curF LD X' Y' Wn Hn (cur0 X' Y' Wn l') LD.length := ⟨_, rfl⟩
        obtain ⟨C2, hC2⟩ : ∃ C2, C2 = appE LD Wn Hn V.l := ⟨_, rfl⟩
        rw [← hV] at HSP
        have P3 : Hid (∀ W gd capd, SRow W (some ⟨g, 0, none⟩) l' → EdRow W (some ⟨gd, 0, none⟩) LD → Calls Try.prog 25 #[fldV X' Y' Wn Hn (some ⟨g, 0, none⟩) l'.length cap', .slice (some ⟨gd, 0, none⟩) LD.length capd] W fun e w' => OpP C2 V.X V.Y V.W V.H V.l W e w') := fun W gd capd h1 h2 => by
          rw [hC2, hV]; exact apply_any LD (some ⟨gd, 0, none⟩) capd X' Y' Wn Hn g cap' l' W HHR.out h1 h2 hdn
        clear hC2 hV
        refine K12.mono ?_
        rintro e w12 ⟨rfl, b12⟩
        have HI12 := Lib.hid (HI11.out.call b12)
        clear K12 b12 HI11 f0 f1 f2 f3 f4 lf
        have hk0 : ¬ (kn : Int) < 0 := by omega
        have hk1 : ¬ (L.length : Int) ≤ (kn : Int) := by omega
        go_upto_region 24 with fail
        generalize hW13 : w12.alloc (.cells #[.int .i64 RA, .int .i64 RB, .int .i64 RD, .int .i64 RD] 23) = W13 at *
        have HI13 : Hid (LwI w W13 X' Y' Wn Hn g cap' l' B0 ka W3.heap.size C U x1 y1 p1 q1 a1 n1 k1) := Lib.hid (by rw [← hW13]; exact HI12.out.alloc _)
        have HG13 : Hid (Reg W13 w12.heap.size RA RB RD RD) := Lib.hid (by rw [← hW13]; exact Reg.new _ _ _ _ _)
        clear hW13 HI12
        generalize w12.heap.size = kr at *
        obtain ⟨r0, r1, r2, r3⟩ := HG13.out.cells
        have lr := HG13.out.lt
        have KR2 := Lib.hid (fun W (h : Below W13.heap.size W13 W) => KR.out W (HRW.out.below (HI13.out.call h).b))
        clear KR
        have kn1 := fun w => neqReg RA RB RD RD RA RB RD RD w
        have kg := fun xx yy w => eqGuardReg .neq xx yy RA RB RD RD RA RB RD RD w
        go_region_held3 (fun w' => w'.cell? ⟨kr, 0, none⟩ = some (.int .i64 RA) ∧ w'.cell? ⟨kr, 1, none⟩ = some (.int .i64 RB) ∧ w'.cell? ⟨kr, 2, none⟩ = some (.int .i64 RD) ∧ w'.cell? ⟨kr, 3, none⟩ = some (.int .i64 RD) ∧ Below W13.heap.size W13 w')
          (first
            | exact ⟨r0, r1, r2, r3, (Below.refl _ _).drew⟩
            | (go_split_ands
               refine ⟨?_, ?_, ?_, ?_, ?_⟩
               all_goals first
                 | with_reducible exact held_cell (by with_reducible assumption) hb lr (by with_reducible assumption)
                 | with_reducible exact held_step (by with_reducible assumption) hb))
          (first
            | (go_at_call 33; go_split_ands; refine (KR2.out _ (by with_reducible assumption)).mono ?_; rintro e2 w6 ⟨rfl, hb⟩))
        rename_i hHeld
        have HI14 := Lib.hid (HI13.out.call hHeld.2.2.2.2)
        have HG14 := Lib.hid (HG13.out.below hHeld.2.2.2.2 HG13.out.lt)
        clear hHeld r0 r1 r2 r3 lr HG13 HI13 KR2
        go_wp2_with fail
        clear kn1 kg
        have hL0 : L ≠ [] := by intro h; subst h; simp at hkn
        refine (edclone_any b o ecap L _ (HRW.out.below HI14.out.b) hn hL0).mono ?_
        rintro e w15 ⟨⟨gd, capd, rfl, ow15⟩, b15⟩
        have HOW := Lib.hid ow15
        have HB15 := Lib.hid b15
        clear ow15 b15
        go_wp2_with fail
        refine (eddelete_any _ gd capd kn L w15 HOW.out hkn hn HRW.out.1.2 HB15.out.size).mono ?_
        rintro e w16 ⟨rfl, hd16, b16⟩
        rw [← HLD.out] at hd16 ⊢
        have HB16 := Lib.hid (HB15.out.trans b16)
        have HI16 := Lib.hid (HI14.out.call HB16.out)
        have HG16 := Lib.hid (HG14.out.below HB16.out HG14.out.lt)
        have HD16 := Lib.hid hd16
        clear hd16 b16 HB15 HB16 HOW HI14 HG14
        obtain ⟨f0, f1, f2, f3, f4⟩ := HI16.out.f.cells
        have lf := HI16.out.f.lt
        go_wp2_with fail
        refine (P3.out w16 gd capd (HI16.out.o.row HML.out) HD16.out).mono ?_
        rintro e w17 ⟨⟨x3, y3, p3, q3, a3, n3, k3, rfl, o17⟩, b17⟩
        have HI17 := Lib.hid (HI16.out.call b17)
        have HG17 := Lib.hid (HG16.out.below b17 HG16.out.lt)
        have HV17 := Lib.hid o17
        clear o17 b17 HI16 HG16 HD16 P3 f0 f1 f2 f3 f4 lf
        go_upto_region 28 with fail
        generalize hW18 : w17.alloc (.cells #[.int .i64 x3, .int .i64 y3, .int .i64 p3, .int .i64 q3, .slice a3 n3 k3] 26) = W18 at *
        have HI18 : Hid (LwI w W18 X' Y' Wn Hn g cap' l' B0 ka W3.heap.size C U x1 y1 p1 q1 a1 n1 k1) := Lib.hid (by rw [← hW18]; exact HI17.out.alloc _)
        have HG18 : Hid (Reg W18 kr RA RB RD RD) := Lib.hid (by rw [← hW18]; exact HG17.out.alloc _)
        have HF18 : Hid (Fld W18 w17.heap.size x3 y3 p3 q3 (.slice a3 n3 k3)) := Lib.hid (by rw [← hW18]; exact Fld.new _ _ _ _ _ _)
        have HV18 : Hid (OutV C2 V.X V.Y V.W V.H V.l W18 w16.heap.size x3 y3 p3 q3 a3 n3 k3) := Lib.hid (by rw [← hW18]; exact HV17.out.below ((Below.refl _ _).alloc (Nat.le_refl _) _))
        clear hW18 HI17 HG17 HV17
        generalize w17.heap.size = kc at *
        generalize w16.heap.size = B9 at *
        by_cases hC : C = 0
        · by_cases hC2 : C2 = 0
          · have HP := HSP.out hC
            rcases HI18.out.v with ⟨hz, _⟩ | ⟨_, rfl, rfl, rfl, rfl, ga, rfl, rfl, hoa⟩
            · exact absurd hC hz
            rcases HV18.out with ⟨hz, _⟩ | ⟨_, rfl, rfl, rfl, rfl, gc, rfl, rfl, hoc⟩
            · exact absurd hC2 hz
            subst hC hC2
            have J0 : FinI w W18 ka kc kr U V RA RB RD ga k1 gc k3 := ⟨HI18.out.pa, HF18.out, HG18.out, hoa.row (by rw [HP.lu]; have := Nat.mul_le_mul HP.u4 HP.u2; omega), hoc.row (by rw [HP.lv]; have := Nat.mul_le_mul HP.v4 HP.v2; omega), HI18.out.b⟩
            have HJ0 := Lib.hid J0
            have HPP := Lib.hid HP
            have ux1 := HP.u5; have ux2 := HP.u6; have uy1 := HP.u7; have uy2 := HP.u8; have uw1 := HP.u1; have uw2 := HP.u2; have uh1 := HP.u3; have uh2 := HP.u4
            obtain ⟨a0, a1, a2, a3, a4⟩ := J0.a.cells
            have la := J0.a.lt
            clear J0 HP hoa hoc HI18 HF18 HG18 HV18 HSP HHR HSM HRW HPA HML
            go_upto_region 31 with fail
            go_loopw [18, 19] (fun yv _ wr => ∃ y : Int, U.Y ≤ y ∧ y ≤ U.Y + (U.H : Int) ∧ yv = .int .i64 y ∧ FinI w wr ka kc kr U V RA RB RD ga k1 gc k3) (fun yv _ _ => (U.Y + (U.H : Int) - intOf yv).toNat)
            case atStart => exact ⟨U.Y, by omega, by omega, rfl, HJ0.out⟩
            case round =>
              clear HJ0 a0 a1 a2 a3 a4 la
              obtain ⟨y, hy1, hy2, rfl, J⟩ := hrel
              have HJ := Lib.hid J
              obtain ⟨a0, a1, a2, a3, a4⟩ := J.a.cells
              have la := J.a.lt
              clear J
              by_cases hyl : y < U.Y + (U.H : Int)
              · skip
                go_upto_region 34 with fail
                go_loopw [19] (fun xv wr => ∃ x : Int, U.X ≤ x ∧ x ≤ U.X + (U.W : Int) ∧ xv = .int .i64 x ∧ FinI w wr ka kc kr U V RA RB RD ga k1 gc k3) (fun xv _ => (U.X + (U.W : Int) - intOf xv).toNat)
                case atStart => exact ⟨U.X, by omega, by omega, rfl, HJ.out⟩
                case round =>
                  clear HJ a0 a1 a2 a3 a4 la
                  obtain ⟨x, hx1, hx2, rfl, J⟩ := hrel
                  have HJ := Lib.hid J
                  obtain ⟨r0, r1, r2, r3, a0, a1, a2, a3, a4, c0, c1, c2, c3, c4, _⟩ := J.held (Below.refl _ _)
                  have la := J.a.lt
                  have lc := J.c.lt
                  have lr := J.r.lt
                  clear J
                  by_cases hxl : x < U.X + (U.W : Int)
                  · by_cases hin : inR RA RB RD RD x y
                    · have KI := Lib.hid (fun w => refinside_wide RA RB RD RD x y w HPP.out.d1 HPP.out.d2 HPP.out.d1 HPP.out.d2 HPP.out.a1 HPP.out.a2 HPP.out.b1 HPP.out.b2)
                      rw [decide_eq_true hin] at KI
                      clear hin
                      go_upto_region 36 with fail
                      refine wp_region_noPanic ?_
                      refine wp_region_held_drew (S := fun w' => FinI w w' ka kc kr U V RA RB RD ga k1 gc k3) (by kernel_rfl) HJ.out.drew (fun hHeld => ?_)
                      clear HJ
                      refine wpAnyH_takeL (i := 0) (v := ?_) rfl (by kernel_rfl) (by kernel_rfl) (by kernel_rfl) (fun _ _ _ h => h) (Or.inl ⟨by rfl, ?_⟩) (by assumption) ?_
                      rotate_left
                      focus (intro w hSw; (try dsimp only at hSw); go_simp; try with_reducible rfl)
                      try simp only [Act.put, List.setIfInBounds_toArray, List.set_cons_zero, List.set_cons_succ]
                      refine wpAnyH_takeL (i := 1) (v := ?_) rfl (by kernel_rfl) (by kernel_rfl) (by kernel_rfl) (fun _ _ _ h => h) (Or.inl ⟨by rfl, ?_⟩) (by assumption) ?_
                      rotate_left
                      focus (intro w hSw; (try dsimp only at hSw); go_simp; try with_reducible rfl)
                      try simp only [Act.put, List.setIfInBounds_toArray, List.set_cons_zero, List.set_cons_succ]
                      refine wpAnyH_takeL (i := 2) (v := ?_) rfl (by kernel_rfl) (by kernel_rfl) (by kernel_rfl) (fun _ _ _ h => h) (Or.inl ⟨by rfl, ?_⟩) (by assumption) ?_
                      rotate_left
                      focus (intro w hSw; (try dsimp only at hSw); go_simp; try with_reducible rfl)
                      try simp only [Act.put, List.setIfInBounds_toArray, List.set_cons_zero, List.set_cons_succ]
                      refine wpAnyH_takeL (i := 3) (v := ?_) rfl (by kernel_rfl) (by kernel_rfl) (by kernel_rfl) (fun _ _ _ h => h) (Or.inl ⟨by rfl, ?_⟩) (by assumption) ?_
                      rotate_left
                      focus (intro w hSw; (try dsimp only at hSw); obtain ⟨r0, r1, r2, r3⟩ := hSw.r.cells; clear hSw; go_simp; try with_reducible rfl)
                      try simp only [Act.put, List.setIfInBounds_toArray, List.set_cons_zero, List.set_cons_succ]
                      refine wpAnyH_ready (rs := [4]) (by kernel_rfl) (by simp) ?_
                      refine AllReadyH.cons rfl (fun K hK => ?_) AllReadyH.nil
                      go_simp
                      refine (KI.out _).mono ?_
                      rintro e w6 ⟨rfl, hb⟩
                      have hJ9 := hHeld.call hb
                      clear hHeld hb
                      go_wp2_with fail
                      refine hK.out _ _ hJ9 (fun hHeld => ?_)
                      clear hK K hJ9
                      try simp only [Act.put, List.setIfInBounds_toArray, List.set_cons_zero, List.set_cons_succ]
                      refine wpAnyH_takeL (i := 5) (v := ?_) rfl (by kernel_rfl) (by kernel_rfl) (by kernel_rfl) (fun _ _ _ h => h) (Or.inl ⟨by rfl, ?_⟩) (by assumption) ?_
                      rotate_left
                      focus (intro w hSw; (try dsimp only at hSw); go_simp; try with_reducible rfl)
                      try simp only [Act.put, List.setIfInBounds_toArray, List.set_cons_zero, List.set_cons_succ]
                      refine wpAnyH_takeL (i := 6) (v := ?_) rfl (by kernel_rfl) (by kernel_rfl) (by kernel_rfl) (fun _ _ _ h => h) (Or.inl ⟨by rfl, ?_⟩) (by assumption) ?_
                      rotate_left
                      focus (intro w hSw; (try dsimp only at hSw); go_simp; try with_reducible rfl)
                      try simp only [Act.put, List.setIfInBounds_toArray, List.set_cons_zero, List.set_cons_succ]
                      refine wpAnyH_takeL (i := 7) (v := undef) rfl (by kernel_rfl) (by kernel_rfl) (by kernel_rfl) (fun _ _ _ h => h) (Or.inr ⟨by kernel_rfl, rfl⟩) (by assumption) ?_
                      try simp only [Act.put, List.setIfInBounds_toArray, List.set_cons_zero, List.set_cons_succ]
                      refine wpAnyH_takeL (i := 8) (v := undef) rfl (by kernel_rfl) (by kernel_rfl) (by kernel_rfl) (fun _ _ _ h => h) (Or.inr ⟨by kernel_rfl, rfl⟩) (by assumption) ?_
                      try simp only [Act.put, List.setIfInBounds_toArray, List.set_cons_zero, List.set_cons_succ]
                      refine wpAnyH_takeL (i := 9) (v := undef) rfl (by kernel_rfl) (by kernel_rfl) (by kernel_rfl) (fun _ _ _ h => h) (Or.inr ⟨by kernel_rfl, rfl⟩) (by assumption) ?_
                      try simp only [Act.put, List.setIfInBounds_toArray, List.set_cons_zero, List.set_cons_succ]
                      refine wpAnyH_takeL (i := 10) (v := undef) rfl (by kernel_rfl) (by kernel_rfl) (by kernel_rfl) (fun _ _ _ h => h) (Or.inr ⟨by kernel_rfl, rfl⟩) (by assumption) ?_
                      try simp only [Act.put, List.setIfInBounds_toArray, List.set_cons_zero, List.set_cons_succ]
                      refine wpAnyH_takeL (i := 11) (v := undef) rfl (by kernel_rfl) (by kernel_rfl) (by kernel_rfl) (fun _ _ _ h => h) (Or.inr ⟨by kernel_rfl, rfl⟩) (by assumption) ?_
                      try simp only [Act.put, List.setIfInBounds_toArray, List.set_cons_zero, List.set_cons_succ]
                      refine wpAnyH_takeL (i := 12) (v := undef) rfl (by kernel_rfl) (by kernel_rfl) (by kernel_rfl) (fun _ _ _ h => h) (Or.inr ⟨by kernel_rfl, rfl⟩) (by assumption) ?_
                      try simp only [Act.put, List.setIfInBounds_toArray, List.set_cons_zero, List.set_cons_succ]
                      refine wpAnyH_takeL (i := 13) (v := undef) rfl (by kernel_rfl) (by kernel_rfl) (by kernel_rfl) (fun _ _ _ h => h) (Or.inr ⟨by kernel_rfl, rfl⟩) (by assumption) ?_
                      try simp only [Act.put, List.setIfInBounds_toArray, List.set_cons_zero, List.set_cons_succ]
                      refine wpAnyH_takeL (i := 14) (v := undef) rfl (by kernel_rfl) (by kernel_rfl) (by kernel_rfl) (fun _ _ _ h => h) (Or.inr ⟨by kernel_rfl, rfl⟩) (by assumption) ?_
                      try simp only [Act.put, List.setIfInBounds_toArray, List.set_cons_zero, List.set_cons_succ]
                      refine wpAnyH_takeL (i := 15) (v := undef) rfl (by kernel_rfl) (by kernel_rfl) (by kernel_rfl) (fun _ _ _ h => h) (Or.inr ⟨by kernel_rfl, rfl⟩) (by assumption) ?_
                      try simp only [Act.put, List.setIfInBounds_toArray, List.set_cons_zero, List.set_cons_succ]
                      refine wpAnyH_takeL (i := 16) (v := undef) rfl (by kernel_rfl) (by kernel_rfl) (by kernel_rfl) (fun _ _ _ h => h) (Or.inr ⟨by kernel_rfl, rfl⟩) (by assumption) ?_
                      try simp only [Act.put, List.setIfInBounds_toArray, List.set_cons_zero, List.set_cons_succ]
                      refine wpAnyH_takeL (i := 17) (v := ?_) rfl (by kernel_rfl) (by kernel_rfl) (by kernel_rfl) (fun _ _ _ h => h) (Or.inl ⟨by rfl, ?_⟩) (by assumption) ?_
                      rotate_left
                      focus (intro w hSw; (try dsimp only at hSw); go_simp; try with_reducible rfl)
                      try simp only [Act.put, List.setIfInBounds_toArray, List.set_cons_zero, List.set_cons_succ]
                      refine wpAnyH_done (by kernel_rfl) ?_ _
                      refine NoPanic.normal ?_
                      have HJ9 := Lib.hid hHeld
                      clear hHeld r0 r1 r2 r3 a0 a1 a2 a3 a4 c0 c1 c2 c3 c4
                      go_wp2_with fail
                      go_roundw
                      case rel => exact ⟨x + 1, by omega, by omega, by go_num, HJ9.out⟩
                      case measure => simp [intOf]; omega
                    · have KI := Lib.hid (fun w => refinside_wide RA RB RD RD x y w HPP.out.d1 HPP.out.d2 HPP.out.d1 HPP.out.d2 HPP.out.a1 HPP.out.a2 HPP.out.b1 HPP.out.b2)
                      rw [decide_eq_false hin] at KI
                      have he := HPP.out.eq x y hx1 hxl hy1 hyl hin
                      clear hin
                      have KA := Lib.hid (fun W hl => refat_any U.X U.Y U.W U.H x y ga 0 k1 U.l W hl (by rw [HPP.out.lu, Int.natCast_mul, Int.mul_comm]) (by omega) (by omega) (by omega) (by omega) (by omega) (by omega) (by omega) (by omega) hx1 hxl hy1 hyl)
                      have KC := Lib.hid (fun W hl => by
                        have q1 := HPP.out.v1; have q2 := HPP.out.v2; have q3 := HPP.out.v3; have q4 := HPP.out.v4; have q5 := HPP.out.v5; have q6 := HPP.out.v6; have q7 := HPP.out.v7; have q8 := HPP.out.v8
                        have i1 := HPP.out.i1; have i2 := HPP.out.i2; have i3 := HPP.out.i3; have i4 := HPP.out.i4
                        exact refat_any V.X V.Y V.W V.H x y gc 0 k3 V.l W hl (by rw [HPP.out.lv, Int.natCast_mul, Int.mul_comm]) (by omega) (by omega) (by omega) (by omega) (by omega) (by omega) (by omega) (by omega) (by omega) (by omega) (by omega) (by omega))
                      rw [← he] at KC
                      generalize U.l.getD (cellNo U.X U.Y U.W x y).toNat 0 = z at *
                      clear he
                      have KA2 := Lib.hid (fun W (h : Below wr.heap.size wr W) => KA.out W (HJ.out.call h).ra)
                      have KC2 := Lib.hid (fun W (h : Below wr.heap.size wr W) => KC.out W (HJ.out.call h).rc)
                      have KQ := Lib.hid (fun w => bits_any z z w)
                      rw [show decide (z = z) = true from decide_eq_true rfl] at KQ
                      clear KA KC
                      go_upto_region 36 with fail
                      go_region_held3 (fun w' => w'.cell? ⟨kr, 0, none⟩ = some (.int .i64 RA) ∧ w'.cell? ⟨kr, 1, none⟩ = some (.int .i64 RB) ∧ w'.cell? ⟨kr, 2, none⟩ = some (.int .i64 RD) ∧ w'.cell? ⟨kr, 3, none⟩ = some (.int .i64 RD) ∧ w'.cell? ⟨ka, 0, none⟩ = some (.int .i64 U.X) ∧ w'.cell? ⟨ka, 1, none⟩ = some (.int .i64 U.Y) ∧ w'.cell? ⟨ka, 2, none⟩ = some (.int .i64 (U.W : Int)) ∧ w'.cell? ⟨ka, 3, none⟩ = some (.int .i64 (U.H : Int)) ∧ w'.cell? ⟨ka, 4, none⟩ = some (.slice (some ⟨ga, 0, none⟩) U.l.length k1) ∧ w'.cell? ⟨kc, 0, none⟩ = some (.int .i64 V.X) ∧ w'.cell? ⟨kc, 1, none⟩ = some (.int .i64 V.Y) ∧ w'.cell? ⟨kc, 2, none⟩ = some (.int .i64 (V.W : Int)) ∧ w'.cell? ⟨kc, 3, none⟩ = some (.int .i64 (V.H : Int)) ∧ w'.cell? ⟨kc, 4, none⟩ = some (.slice (some ⟨gc, 0, none⟩) V.l.length k3) ∧ Below wr.heap.size wr w')
                        (first
                          | exact HJ.out.held (Below.refl _ _).drew
                          | (go_split_ands; exact HJ.out.held (held_step (by with_reducible assumption) hb))
                          | (go_split_ands; exact HJ.out.held (by with_reducible assumption)))
                        (first
                          | (go_at_call 36; go_split_ands; refine (KI.out _).mono ?_; rintro e2 w6 ⟨rfl, hb⟩)
                          | (go_at_call 23; go_split_ands; with_reducible refine (KA2.out _ (by with_reducible assumption)).mono ?_; rintro e2 w6 ⟨rfl, hb⟩)
                          | (go_at_call 23; go_split_ands; with_reducible refine (KC2.out _ (by with_reducible assumption)).mono ?_; rintro e2 w6 ⟨rfl, hb⟩)
                          | (go_at_call 37; go_split_ands; refine (KQ.out _).mono ?_; rintro e2 w6 ⟨rfl, rfl⟩))
                      rename_i hHeld
                      have HJ9 := Lib.hid (HJ.out.call hHeld.2.2.2.2.2.2.2.2.2.2.2.2.2.2)
                      clear hHeld r0 r1 r2 r3 a0 a1 a2 a3 a4 c0 c1 c2 c3 c4
                      go_wp2_with fail
                      go_roundw
                      case rel => exact ⟨x + 1, by omega, by omega, by go_num, HJ9.out⟩
                      case measure => simp [intOf]; omega
                  · skip
                    go_wp2_with fail
                    go_roundw
                    case rel => exact ⟨y + 1, by omega, by omega, by go_num, HJ.out⟩
                    case measure => simp [intOf]; omega
              · skip
                go_wp2_with fail
                go_ret
                exact ⟨rfl, (by have h := HJ.out.b; exact (by have hszz := h.size; repeat (first | with_reducible exact h | with_reducible apply Below.drew | with_reducible refine below_drewN ?_ _ | (with_reducible refine Below.setCell ?_ ?_ _; rotate_left; focus (first | omega | (simp <;> omega))) | (with_reducible refine Below.alloc ?_ ?_ _; rotate_left; focus (first | omega | (simp <;> omega))))))⟩
          · subst hC
            have hb2 : (C2 == 0) = false := by simpa using hC2
            have HB18 := Lib.hid HI18.out.b
            go_wp2_with fail
            go_ret
            exact ⟨rfl, (by have h := HB18.out; exact (by have hszz := h.size; repeat (first | with_reducible exact h | with_reducible apply Below.drew | with_reducible refine below_drewN ?_ _ | (with_reducible refine Below.setCell ?_ ?_ _; rotate_left; focus (first | omega | (simp <;> omega))) | (with_reducible refine Below.alloc ?_ ?_ _; rotate_left; focus (first | omega | (simp <;> omega))))))⟩
        · have hb2 : (C == 0) = false := by simpa using hC
          have HB18 := Lib.hid HI18.out.b
          go_wp2_with fail
          go_ret
          exact ⟨rfl, (by have h := HB18.out; exact (by have hszz := h.size; repeat (first | with_reducible exact h | with_reducible apply Below.drew | with_reducible refine below_drewN ?_ _ | (with_reducible refine Below.setCell ?_ ?_ _; rotate_left; focus (first | omega | (simp <;> omega))) | (with_reducible refine Below.alloc ?_ ?_ _; rotate_left; focus (first | omega | (simp <;> omega))))))⟩
end Go.Proofs.Ytfmbekdfigbfiaa
