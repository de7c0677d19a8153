import Derived.Test.YtnfebeebjelgbaaPasteF
namespace Go.Proofs.Ytnfebeebjelgbaa
open Go.ChangeShapes Go.WideShapes Go.ChangeAt Go.RowKit
open Ieee.Format (fin finE htE allFin allHt all_true all_false mulF subF addF Ht Bd divF rootF floorF easeF mixF)
set_option linter.unusedVariables false

/-! ### Paste of the reference -/
theorem box_ff2 (w : World) (X Y W H : Int) (v : Value) (X' Y' W' H' : Int) (v' : Value) : ∀ W0, W0 = ((w.alloc (.cells #[.int .i64 X, .int .i64 Y, .int .i64 W, .int .i64 H, v] 36)).alloc (.cells #[.int .i64 X', .int .i64 Y', .int .i64 W', .int .i64 H', v'] 36)).alloc (.cells #[.int .i64 0, .int .i64 0, .int .i64 0, .int .i64 0, .slice none 0 0] 36) →
    Fld W0 w.heap.size X Y W H v ∧ Fld W0 (w.heap.size + 1) X' Y' W' H' v' ∧ Fld W0 (w.heap.size + 1 + 1) 0 0 0 0 (.slice none 0 0) ∧ Below w.heap.size w W0 := by
  rintro _ rfl
  refine ⟨((Fld.new w X Y W H v).alloc _).alloc _, ?_, ?_, (by repeat (first | with_reducible exact Below.refl _ _ | with_reducible apply Below.drew | with_reducible refine below_drewN ?_ _ | (with_reducible refine Below.setCell ?_ ?_ _; rotate_left; focus (first | omega | (simp <;> omega))) | (with_reducible refine Below.alloc ?_ ?_ _; rotate_left; focus (first | omega | (simp <;> omega)))))⟩
  · have := (Fld.new (w.alloc (.cells #[.int .i64 X, .int .i64 Y, .int .i64 W, .int .i64 H, v] 36)) X' Y' W' H' v').alloc (.cells #[.int .i64 0, .int .i64 0, .int .i64 0, .int .i64 0, .slice none 0 0] 36)
    simpa using this
  · have := Fld.new ((w.alloc (.cells #[.int .i64 X, .int .i64 Y, .int .i64 W, .int .i64 H, v] 36)).alloc (.cells #[.int .i64 X', .int .i64 Y', .int .i64 W', .int .i64 H', v'] 36)) 0 0 0 0 (.slice none 0 0)
    simpa using this
set_option maxHeartbeats 1000000 in
theorem refpastefn_any (X Y : Int) (Wn Hn : Nat) (b o c : Nat) (l : List Nat) (X' Y' : Int) (Wn' Hn' : Nat) (b' o' c' : Nat) (l' : List Nat) (q q' : Nat) (x y : Int) (w : World)
    (hl : SRow w (some ⟨b, o, none⟩) l) (hr : Right X Y Wn Hn l) (hl' : SRow w (some ⟨b', o', none⟩) l') (hr' : Right X' Y' Wn' Hn' l') (h1 : X ≤ x) (h2 : x < X + Wn) (h3 : Y ≤ y) (h4 : y < Y + Hn)
    (hq : Fld w q X Y Wn Hn (.slice (some ⟨b, o, none⟩) l.length c)) (hq' : Fld w q' X' Y' Wn' Hn' (.slice (some ⟨b', o', none⟩) l'.length c')) :
    Calls Try.prog 110 #[.int .i64 x, .int .i64 y, .pointer (some ⟨q', 0, none⟩), .pointer (some ⟨q, 0, none⟩)] w fun e w' => e = .returned (.float .f32 (pasR l l' X Y Wn X' Y' Wn' Hn' x y)) ∧ Below w.heap.size w w' := by
  have r1 := hr.x1; have r2 := hr.x2; have r3 := hr.y1; have r4 := hr.y2; have r5 := hr.w2; have r6 := hr.h2
  have s1 := hr'.w1; have s2 := hr'.w2; have s3 := hr'.h1; have s4 := hr'.h2; have s5 := hr'.x1; have s6 := hr'.x2; have s7 := hr'.y1; have s8 := hr'.y2
  have KT := Lib.hid (fun w => there_any X' Y' Wn' Hn' x y (some ⟨b', o', none⟩) l'.length c' w (by omega) (by omega) (by omega) (by omega) (by omega) (by omega) (by omega) (by omega) (by omega) (by omega) (by omega) (by omega))
  have HL := Lib.hid hl
  have HL' := Lib.hid hl'
  have HQ := Lib.hid hq
  have HQ' := Lib.hid hq'
  obtain ⟨f0, f1, f2, f3, f4⟩ := hq'.cells
  have l0 := hq'.lt
  by_cases hin : inR X' Y' Wn' Hn' x y
  · have hv : pasR l l' X Y Wn X' Y' Wn' Hn' x y = l'.getD (cellNo X' Y' Wn' x y).toNat 0 := by unfold pasR; rw [if_pos hin]; rfl
    have KA := Lib.hid (fun w hl => at_right X' Y' Wn' Hn' x y b' o' c' l' w hl hr' hin.1 hin.2.1 hin.2.2.1 hin.2.2.2)
    rw [show decide (inR X' Y' (Wn' : Int) (Hn' : Int) x y) = true from decide_eq_true hin] at KT
    rw [hv]
    clear hv hin hl hl' hr hr' h1 h2 h3 h4 hq hq' r1 r2 r3 r4 r5 r6 s1 s2 s3 s4 s5 s6 s7 s8
    generalize l'.getD (cellNo X' Y' Wn' x y).toNat 0 = v at *
    go_enter Try.func110, Try.ntmps110
    go_wp2_with fail
    refine (KT.out _).mono ?_
    rintro e w1 ⟨rfl, b1⟩
    clear f0 f1 f2 f3 f4 l0
    have HQ2 := HQ'.out.below b1 HQ'.out.lt
    obtain ⟨f0, f1, f2, f3, f4⟩ := HQ2.cells
    have l0 := HQ2.lt
    have HB1 := Lib.hid b1
    clear b1 HQ2
    go_wp2_with fail
    refine (KA.out _ (HL'.out.below HB1.out)).mono ?_
    rintro e w2 ⟨rfl, b2⟩
    have HB2 := Lib.hid (HB1.out.trans (b2.mono HB1.out.size))
    clear b2
    go_wp2_with fail
    go_ret
    exact ⟨rfl, HB2.out⟩
  · have hv : pasR l l' X Y Wn X' Y' Wn' Hn' x y = l.getD (cellNo X Y Wn x y).toNat 0 := by unfold pasR; rw [if_neg hin]; rfl
    have KA := Lib.hid (fun w hl => at_right X Y Wn Hn x y b o c l w hl hr h1 h2 h3 h4)
    rw [show decide (inR X' Y' (Wn' : Int) (Hn' : Int) x y) = false from decide_eq_false hin] at KT
    rw [hv]
    clear hv hin hl hl' hr hr' h1 h2 h3 h4 hq hq' r1 r2 r3 r4 r5 r6 s1 s2 s3 s4 s5 s6 s7 s8
    generalize l.getD (cellNo X Y Wn x y).toNat 0 = v at *
    go_enter Try.func110, Try.ntmps110
    go_wp2_with fail
    refine (KT.out _).mono ?_
    rintro e w1 ⟨rfl, b1⟩
    clear f0 f1 f2 f3 f4 l0
    have HQ2 := HQ.out.below b1 HQ.out.lt
    obtain ⟨f0, f1, f2, f3, f4⟩ := HQ2.cells
    have l0 := HQ2.lt
    have HB1 := Lib.hid b1
    clear b1 HQ2
    go_wp2_with fail
    refine (KA.out _ (HL.out.below HB1.out)).mono ?_
    rintro e w2 ⟨rfl, b2⟩
    have HB2 := Lib.hid (HB1.out.trans (b2.mono HB1.out.size))
    clear b2
    go_wp2_with fail
    go_ret
    exact ⟨rfl, HB2.out⟩
def pasRL (f g : List Nat) (X Y : Int) (Wn Hn : Nat) (X' Y' : Int) (Wn' Hn' : Nat) : List Nat := madeL (pasR f g X Y Wn X' Y' Wn' Hn') X Y Wn (Hn * Wn)
theorem pasR_lt {f g : List Nat} {X Y : Int} {Wn Hn : Nat} {X' Y' : Int} {Wn' Hn' : Nat} {w w' : World} {a a' : Option Addr} (hl : SRow w a f) (hl' : SRow w' a' g) (x y : Int) : pasR f g X Y Wn X' Y' Wn' Hn' x y < 4294967296 := by
  unfold pasR
  split
  · exact cutV_lt (Hn := Hn') hl' x y
  · exact cutV_lt (Hn := Hn) hl x y
theorem pasRL_ht {X Y : Int} {Wn Hn : Nat} {f g : List Nat} {X' Y' : Int} {Wn' Hn' : Nat} (hr : Right X Y Wn Hn f) (hr' : Right X' Y' Wn' Hn' g) : resC (pasRL f g X Y Wn Hn X' Y' Wn' Hn') = 0 := by
  unfold resC
  rw [if_pos]
  refine Ieee.Format.allHt_iff.2 fun x hx => ?_
  unfold pasRL madeL at hx
  obtain ⟨k, _, rfl⟩ := List.mem_map.1 hx
  unfold pasR
  split
  · exact hr'.getD _
  · exact hr.getD _
set_option maxRecDepth 100000 in
set_option maxHeartbeats 1000000 in
theorem refpaste_ok (X Y : Int) (Wn Hn : Nat) (b o c : Nat) (l : List Nat) (X' Y' : Int) (Wn' Hn' : Nat) (b' o' c' : Nat) (l' : List Nat) (w : World)
    (hl : SRow w (some ⟨b, o, none⟩) l) (hr : Right X Y Wn Hn l) (hl' : SRow w (some ⟨b', o', none⟩) l') (hr' : Right X' Y' Wn' Hn' l') :
    Calls Try.prog 33 #[fldV X Y Wn Hn (some ⟨b, o, none⟩) l.length c, fldV X' Y' Wn' Hn' (some ⟨b', o', none⟩) l'.length c'] w fun e w' => OneP X Y Wn Hn (pasRL l l' X Y Wn Hn X' Y' Wn' Hn') w e w' := by
  have g1 := hr.w1; have g2 := hr.w2; have g3 := hr.h1; have g4 := hr.h2; have g5 := hr.x1; have g6 := hr.x2; have g7 := hr.y1; have g8 := hr.y2
  have KM : Hid (∀ q q' w (hl : SRow w (some ⟨b, o, none⟩) l) (hl' : SRow w (some ⟨b', o', none⟩) l') (hq : Fld w q X Y Wn Hn (.slice (some ⟨b, o, none⟩) l.length c)) (hq' : Fld w q' X' Y' Wn' Hn' (.slice (some ⟨b', o', none⟩) l'.length c')), Calls Try.prog 105 #[reg X Y Wn Hn, .func (.func 110) #[] #[.pointer (some ⟨q', 0, none⟩), .pointer (some ⟨q, 0, none⟩)]] w fun e w' => OpP 0 X Y Wn Hn (pasRL l l' X Y Wn Hn X' Y' Wn' Hn') w e w') := by
    intro q q' w hl hl' hq hq'
    have := made_any 110 #[.pointer (some ⟨q', 0, none⟩), .pointer (some ⟨q, 0, none⟩)] (pasR l l' X Y Wn X' Y' Wn' Hn') X Y Wn Hn w (by omega) (by omega) (by omega) (by omega) (by omega) (by omega) (by omega) (by omega) (enters_of Try.func110 (by kernel_rfl) rfl) (fun x y _ _ _ _ => pasR_lt (Hn := Hn) hl hl' x y) (fun x y h1 h2 h3 h4 W' hb' => refpastefn_any X Y Wn Hn b o c l X' Y' Wn' Hn' b' o' c' l' q q' x y W' (SRow.below hl hb') hr (SRow.below hl' hb') hr' h1 h2 h3 h4 (hq.below hb' hq.lt) (hq'.below hb' hq'.lt))
    have e := pasRL_ht hr hr'
    refine this.mono fun e' w' h => ?_
    have h2 := h.res.op
    unfold resC at e
    change OpP (if allHt (pasRL l l' X Y Wn Hn X' Y' Wn' Hn') = true then 0 else 3) X Y Wn Hn (pasRL l l' X Y Wn Hn X' Y' Wn' Hn') w e' w' at h2
    rw [e] at h2
    exact h2
  have HL := Lib.hid hl
  have HL' := Lib.hid hl'
  clear hl hr hl' hr' g1 g2 g3 g4 g5 g6 g7 g8
  generalize pasRL l l' X Y Wn Hn X' Y' Wn' Hn' = S at *
  go_enter Try.func33, Try.ntmps33
  go_wp2_with fail
  generalize hW0 : ((w.alloc (.cells #[.int .i64 X, .int .i64 Y, .int .i64 Wn, .int .i64 Hn, .slice (some ⟨b, o, none⟩) l.length c] 36)).alloc (.cells #[.int .i64 X', .int .i64 Y', .int .i64 Wn', .int .i64 Hn', .slice (some ⟨b', o', none⟩) l'.length c'] 36)).alloc (.cells #[.int .i64 0, .int .i64 0, .int .i64 0, .int .i64 0, .slice none 0 0] 36) = W0 at *
  obtain ⟨E0, P0, F0, B0⟩ := box_ff2 w X Y Wn Hn (.slice (some ⟨b, o, none⟩) l.length c) X' Y' Wn' Hn' (.slice (some ⟨b', o', none⟩) l'.length c') W0 hW0.symm
  clear hW0
  refine (KM.out _ _ _ (HL.out.below B0) (HL'.out.below B0) E0 P0).mono ?_
  rintro e w7 ⟨⟨x, y, p, q, a, m, k, rfl, o7⟩, b7⟩
  have HOZ := Lib.hid o7
  have HFZ := Lib.hid (F0.below b7 F0.lt)
  have HBZ := Lib.hid (B0.trans (b7.mono B0.size))
  have HZB : Hid (w.heap.size + 1 + 1 < W0.heap.size) := F0.lt
  have HBB : Hid (w.heap.size ≤ W0.heap.size) := B0.size
  clear o7 b7 KM E0 P0 F0 B0
  obtain ⟨d0, d1, d2, d3, d4⟩ := HFZ.out.cells
  have qf0 := HFZ.out.frozen 0
  have qf1 := HFZ.out.frozen 1
  have qf2 := HFZ.out.frozen 2
  have qf3 := HFZ.out.frozen 3
  have qf4 := HFZ.out.frozen 4
  have lz := HFZ.out.lt
  go_wp2_with fail
  generalize hW5 : ((((w7.setCell ⟨w.heap.size + 1 + 1, 0, none⟩ (.int .i64 x)).setCell ⟨w.heap.size + 1 + 1, 1, none⟩ (.int .i64 y)).setCell ⟨w.heap.size + 1 + 1, 2, none⟩ (.int .i64 p)).setCell ⟨w.heap.size + 1 + 1, 3, none⟩ (.int .i64 q)).setCell ⟨w.heap.size + 1 + 1, 4, none⟩ (.slice a m k) = W5 at *
  obtain ⟨f5, bb5, oo5, _, z5⟩ := fld_store w7 (w.heap.size + 1 + 1) 0 0 0 0 _ x y p q (.slice a m k) HFZ.out W5 hW5.symm
  have hO5 := (HOZ.out.set oo5 HZB.out).base HBB.out
  have hB5 := HBZ.out.trans (bb5.mono (by omega))
  clear d0 d1 d2 d3 d4 qf0 qf1 qf2 qf3 qf4 hW5 oo5
  have BA : Below W5.heap.size W5 (W5.alloc (.cells #[.int .i64 x, .int .i64 y, .int .i64 p, .int .i64 q, .slice a m k] 36)) := (Below.refl _ _).alloc (Nat.le_refl _) _
  have hO6 := hO5.below BA
  have hB6 := hB5.trans (BA.mono hB5.size)
  have f6 := f5.below BA f5.lt
  generalize W5.alloc (.cells #[.int .i64 x, .int .i64 y, .int .i64 p, .int .i64 q, .slice a m k] 36) = W6 at *
  obtain ⟨d0, d1, d2, d3, d4⟩ := f6.cells
  exact bodyPost_ret (v := fldV x y p q a m k) (by simp [results, Try.results33, go_sem, *]) rfl ⟨⟨x, y, p, q, a, m, k, rfl, hO6⟩, hB6⟩
end Go.Proofs.Ytnfebeebjelgbaa
