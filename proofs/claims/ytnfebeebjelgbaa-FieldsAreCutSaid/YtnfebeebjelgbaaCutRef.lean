import Derived.Test.YtnfebeebjelgbaaCutOp
namespace Go.Proofs.Ytnfebeebjelgbaa
open Go.ChangeShapes Go.WideShapes Go.ChangeAt Go.RowKit
open Ieee.Format (fin finE htE allFin allHt all_true all_false mulF subF addF Ht Bd divF rootF floorF easeF mixF)
set_option linter.unusedVariables false

/-! ### Cut of the reference -/
theorem refcutfn_any (X Y : Int) (Wn Hn : Nat) (b o c q : Nat) (l : List Nat) (x y : Int) (w : World) (hl : SRow w (some ⟨b, o, none⟩) l) (hr : Right X Y Wn Hn l) (h1 : X ≤ x) (h2 : x < X + Wn) (h3 : Y ≤ y) (h4 : y < Y + Hn) (hq : Fld w q X Y Wn Hn (.slice (some ⟨b, o, none⟩) l.length c)) :
    Calls Try.prog 106 #[.int .i64 x, .int .i64 y, .pointer (some ⟨q, 0, none⟩)] w fun e w' => e = .returned (.float .f32 (cutV l X Y Wn x y)) ∧ Below w.heap.size w w' := by
  have KA := Lib.hid (fun w hl => at_right X Y Wn Hn x y b o c l w hl hr h1 h2 h3 h4)
  have HL := Lib.hid hl
  unfold cutV
  generalize l.getD (cellNo X Y Wn x y).toNat 0 = v at *
  obtain ⟨f0, f1, f2, f3, f4⟩ := hq.cells
  have l0 := hq.lt
  clear hl hr h1 h2 h3 h4 hq
  go_enter Try.func106, Try.ntmps106
  go_wp2_with fail
  refine (KA.out _ HL.out).mono ?_
  rintro e w1 ⟨rfl, b1⟩
  go_wp2_with fail
  go_ret
  exact ⟨rfl, b1⟩
theorem cutV_lt {X Y : Int} {Wn Hn : Nat} {l : List Nat} {w : World} {a : Option Addr} (hl : SRow w a l) (x y : Int) : cutV l X Y Wn x y < 4294967296 := by
  unfold cutV
  rw [List.getD_eq_getElem?_getD]
  cases h : l[(cellNo X Y Wn x y).toNat]? with
  | none => simp
  | some v => exact hl.1.2 v (List.mem_of_getElem? h)
theorem cutL_ht {X Y : Int} {Wn Hn : Nat} {l : List Nat} (hr : Right X Y Wn Hn l) (P Q : Int) (A n : Nat) : resC (cutL l X Y Wn P Q A n) = 0 := by
  unfold resC
  rw [if_pos]
  refine Ieee.Format.allHt_iff.2 fun x hx => ?_
  unfold cutL madeL at hx
  obtain ⟨k, _, rfl⟩ := List.mem_map.1 hx
  exact hr.getD _
theorem OpP.fst {X Y W H : Int} {m : List Nat} {w : World} {e : Ending} {w' : World} (h : OpP 0 X Y W H m w e w') : (∃ x y p q a n k, e = .returned (.tuple #[fldV x y p q a n k, .int .i64 0]) ∧ OutV 0 X Y W H m w' w.heap.size x y p q a n k) ∧ Below w.heap.size w w' := h
/-- a field alone -/
def OneP (X Y W H : Int) (m : List Nat) (w : World) (e : Ending) (w' : World) : Prop :=
  (∃ x y p q a n k, e = .returned (fldV x y p q a n k) ∧ OutV 0 X Y W H m w' w.heap.size x y p q a n k) ∧ Below w.heap.size w w'

set_option maxRecDepth 100000 in
set_option maxHeartbeats 1000000 in
theorem refcut_ok (X Y : Int) (Wn Hn : Nat) (b o c : Nat) (l : List Nat) (P Q : Int) (A B : Nat) (w : World) (hl : SRow w (some ⟨b, o, none⟩) l) (hr : Right X Y Wn Hn l) (hz : chk P Q A B = 0) (hi : insB P Q A B X Y Wn Hn = true) :
    Calls Try.prog 30 #[fldV X Y Wn Hn (some ⟨b, o, none⟩) l.length c, reg P Q A B] w fun e w' => OneP P Q A B (cutL l X Y Wn P Q A (B * A)) w e w' := by
  obtain ⟨c1, c2, c3, c4, c5, c6, c7, c8, _⟩ := chk_zero hz
  obtain ⟨i1, i2, i3, i4⟩ := insB_parts hi
  have KM : Hid (∀ q w (hl : SRow w (some ⟨b, o, none⟩) l) (hq : Fld w q X Y Wn Hn (.slice (some ⟨b, o, none⟩) l.length c)), Calls Try.prog 105 #[reg P Q A B, .func (.func 106) #[] #[.pointer (some ⟨q, 0, none⟩)]] w fun e w' => OpP 0 P Q A B (cutL l X Y Wn P Q A (B * A)) w e w') := by
    intro q w hl hq
    have := made_any 106 #[.pointer (some ⟨q, 0, none⟩)] (cutV l X Y Wn) P Q A B w (by omega) (by omega) (by omega) (by omega) (by omega) (by omega) (by omega) (by omega) (enters_of Try.func106 (by kernel_rfl) rfl) (fun x y _ _ _ _ => cutV_lt (Hn := Hn) hl x y) (fun x y _ _ _ _ W' hb' => refcutfn_any X Y Wn Hn b o c q l x y W' (SRow.below hl hb') hr (by omega) (by omega) (by omega) (by omega) (hq.below hb' hq.lt))
    have e := cutL_ht hr P Q A (B * A)
    refine this.mono fun e' w' h => ?_
    have h2 := h.res.op
    unfold resC at e
    change OpP (if allHt (cutL l X Y Wn P Q A (B * A)) = true then 0 else 3) P Q A B (cutL l X Y Wn P Q A (B * A)) w e' w' at h2
    rw [e] at h2
    exact h2
  have HL := Lib.hid hl
  clear hl hr hz hi c1 c2 c3 c4 c5 c6 c7 c8 i1 i2 i3 i4
  generalize cutL l X Y Wn P Q A (B * A) = S at *
  go_enter Try.func30, Try.ntmps30
  go_wp2_with fail
  generalize hW0 : ((w.alloc (.cells #[.int .i64 X, .int .i64 Y, .int .i64 Wn, .int .i64 Hn, .slice (some ⟨b, o, none⟩) l.length c] 36)).alloc (.cells #[.int .i64 P, .int .i64 Q, .int .i64 (A : Int), .int .i64 (B : Int)] 23)).alloc (.cells #[.int .i64 0, .int .i64 0, .int .i64 0, .int .i64 0, .slice none 0 0] 36) = W0 at *
  obtain ⟨E0, P0, F0, B0⟩ := box_fr w X Y Wn Hn (.slice (some ⟨b, o, none⟩) l.length c) P Q A B W0 hW0.symm
  clear hW0
  obtain ⟨p0, p1, p2, p3⟩ := P0.cells
  refine (KM.out _ _ (HL.out.below B0) E0).mono ?_
  rintro e w7 ⟨⟨x, y, p, q, a, m, k, rfl, o7⟩, b7⟩
  have HOZ := Lib.hid o7
  have HFZ := Lib.hid (F0.below b7 F0.lt)
  have HBZ := Lib.hid (B0.trans (b7.mono B0.size))
  have HZB : Hid (w.heap.size + 1 + 1 < W0.heap.size) := F0.lt
  have HBB : Hid (w.heap.size ≤ W0.heap.size) := B0.size
  clear o7 b7 KM E0 P0 F0 B0 p0 p1 p2 p3
  obtain ⟨d0, d1, d2, d3, d4⟩ := HFZ.out.cells
  have qf0 := HFZ.out.frozen 0
  have qf1 := HFZ.out.frozen 1
  have qf2 := HFZ.out.frozen 2
  have qf3 := HFZ.out.frozen 3
  have qf4 := HFZ.out.frozen 4
  have lz := HFZ.out.lt
  go_wp2_with fail
  generalize hW5 : ((((w7.setCell ⟨w.heap.size + 1 + 1, 0, none⟩ (.int .i64 x)).setCell ⟨w.heap.size + 1 + 1, 1, none⟩ (.int .i64 y)).setCell ⟨w.heap.size + 1 + 1, 2, none⟩ (.int .i64 p)).setCell ⟨w.heap.size + 1 + 1, 3, none⟩ (.int .i64 q)).setCell ⟨w.heap.size + 1 + 1, 4, none⟩ (.slice a m k) = W5 at *
  obtain ⟨f5, bb5, oo5, _, z5⟩ := fld_store w7 (w.heap.size + 1 + 1) 0 0 0 0 _ x y p q (.slice a m k) HFZ.out W5 hW5.symm
  have hO5 := (HOZ.out.set oo5 HZB.out).base HBB.out
  have hB5 := HBZ.out.trans (bb5.mono (by omega))
  clear d0 d1 d2 d3 d4 qf0 qf1 qf2 qf3 qf4 hW5 oo5
  have BA : Below W5.heap.size W5 (W5.alloc (.cells #[.int .i64 x, .int .i64 y, .int .i64 p, .int .i64 q, .slice a m k] 36)) := (Below.refl _ _).alloc (Nat.le_refl _) _
  have hO6 := hO5.below BA
  have hB6 := hB5.trans (BA.mono hB5.size)
  have f6 := f5.below BA f5.lt
  generalize W5.alloc (.cells #[.int .i64 x, .int .i64 y, .int .i64 p, .int .i64 q, .slice a m k] 36) = W6 at *
  obtain ⟨d0, d1, d2, d3, d4⟩ := f6.cells
  exact bodyPost_ret (v := fldV x y p q a m k) (by simp [results, Try.results30, go_sem, *]) rfl ⟨⟨x, y, p, q, a, m, k, rfl, hO6⟩, hB6⟩
end Go.Proofs.Ytnfebeebjelgbaa
