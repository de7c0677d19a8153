import Derived.Test.YtgeeaegnohdejaaRepeated
namespace Go.Proofs.Ytgeeaegnohdejaa
open Go.Shelf
open Go.ChangeShapes Go.WideShapes Go.ChangeAt Go.RowKit
open Ieee.Format (fin finE htE allFin allHt all_true all_false mulF subF addF Ht Bd smoothF smooth_bd)
set_option linter.unusedVariables false

/-- what Smooth's values keep -/
def SmP (i x : Nat) : Prop := Bd (20 + 2 * i) x ∧ x < 4294967296
theorem SmP.zero (i : Nat) : SmP i 0 := ⟨(Ieee.Format.Ht.bd (show Ht 0 by decide)).mono (by omega), by decide⟩
theorem SmP.next {i n s e w v : Nat} (hi : i ≤ 30) (hn : SmP i n) (hs : SmP i s) (he : SmP i e) (hw : SmP i w) (hv : SmP i v) : SmP (i + 1) (smoothF n s e w v) :=
  ⟨(smooth_bd hn.1 hs.1 he.1 hw.1 hv.1 (by omega)).2.2.2.2.2.2, Ieee.Format.subF_lt _ _⟩
theorem SmP.all {X Y : Int} {Wn Hn : Nat} {l : List Nat} (hr : Right X Y Wn Hn l) (h : ∀ x ∈ l, x < 4294967296) : ∀ x ∈ l, SmP 0 x := fun x hx => ⟨(hr.ht x hx).bd, h x hx⟩

def smoothC (X Y : Int) (Wn Hn : Nat) (l : List Nat) (n : Int) : Int :=
  if n < 0 ∨ 64 < n then 3 else if Wn < 1 + 2 * n.toNat ∨ Hn < 1 + 2 * n.toNat then 10 else if allHt (stepsL smoothF X Y Wn Hn l n.toNat) = true then 0 else 3

theorem smooth_steps (X Y : Int) (Wn Hn : Nat) (b o c N : Nat) (l : List Nat) (w : World) (hl : SRow w (some ⟨b, o, none⟩) l) (hr : Right X Y Wn Hn l) (hw : Wn ≤ 16) (hN : N ≤ 64) :
    Calls Try.prog 101 #[fldV X Y Wn Hn (some ⟨b, o, none⟩) l.length c, .int .i64 N, .func (.func /-F-/102) #[] #[]] w fun e w' => OpP (smoothC X Y Wn Hn l N) (X + N) (Y + N) (Wn - 2 * N : Nat) (Hn - 2 * N : Nat) (stepsL smoothF X Y Wn Hn l N) w e w' := by
  have := hr.w1; have := hr.w2; have := hr.h1; have := hr.h2; have := hr.x1; have := hr.x2; have := hr.y1; have := hr.y2
  unfold smoothC
  rw [if_neg (by omega), Int.toNat_natCast]
  by_cases h : Wn < 1 + 2 * N ∨ Hn < 1 + 2 * N
  · rw [if_pos h]
    exact (steps_no N X Y Wn Hn _ _ c w (by omega) (by omega) (by omega) (by omega) hN (by omega) (by omega) (by omega) (by omega) h _ _).mono fun e w' ⟨h1, h2⟩ => OpP.err (by decide) h1 h2
  · rw [if_neg h]
    refine (steps_yes /-F-/102 #[] smoothF SmP N X Y Wn Hn b o c l w hl hr.len (by omega) (by omega) (by omega) (by omega) hN (by omega) (by omega) (by omega) (by omega) (enters_of Try.func102 (by kernel_rfl) rfl) SmP.zero (SmP.all hr hl.1.2) (fun i hi n s e w v => SmP.next (by omega)) (fun i x h => h.2) ?_).mono fun e w' h => h.op
    intro i hi n s e wv v hn hs he hw' hv W' _
    exact smoothfn_any (20 + 2 * i) n s e wv v W' hn.1 hs.1 he.1 hw'.1 hv.1 (by omega)

theorem refsmooth_steps (X Y : Int) (Wn Hn : Nat) (b o c N : Nat) (l : List Nat) (w : World) (hl : SRow w (some ⟨b, o, none⟩) l) (hr : Right X Y Wn Hn l) (hw : Wn ≤ 16) (hx : -1000000 ≤ X ∧ X ≤ 1000000 ∧ -1000000 ≤ Y ∧ Y ≤ 1000000) (hN : N ≤ 64) :
    Calls Try.prog 103 #[fldV X Y Wn Hn (some ⟨b, o, none⟩) l.length c, .int .i64 N, .func (.func /-F-/104) #[] #[]] w fun e w' => OpP (smoothC X Y Wn Hn l N) (X + N) (Y + N) (Wn - 2 * N : Nat) (Hn - 2 * N : Nat) (stepsL smoothF X Y Wn Hn l N) w e w' := by
  have := hr.w1; have := hr.w2; have := hr.h1; have := hr.h2
  unfold smoothC
  rw [if_neg (by omega), Int.toNat_natCast]
  by_cases h : Wn < 1 + 2 * N ∨ Hn < 1 + 2 * N
  · rw [if_pos h]
    exact (repeated_no _ _ X Y Wn Hn _ _ c N w (by omega) (by omega) (by omega) (by omega) hN (by omega) (by omega) (by omega) (by omega) h).mono fun e w' ⟨h1, h2⟩ => OpP.err (by decide) h1 h2
  · rw [if_neg h]
    refine (repeated_yes /-F-/104 #[] smoothF SmP N X Y Wn Hn b o c l w hl hr.len (by omega) (by omega) (by omega) (by omega) hN (by omega) (by omega) (by omega) (by omega) (enters_of Try.func104 (by kernel_rfl) rfl) SmP.zero (SmP.all hr hl.1.2) (fun i hi n s e w v => SmP.next (by omega)) (fun i x h => h.2) ?_).mono fun e w' h => h.op
    intro i Xi Yi Wi Hi b' o' c' m x y k W' hi _ hrow hlen hP g1 g2 g3 g4 g5 g6 g7 g8 g9 g10 g11 g12 hk
    exact refsmooth_fn (20 + 2 * i) Xi Yi Wi Hi x y b' o' c' k m W' hrow hlen (by omega) (by omega) (by omega) (by omega) (by omega) (by omega) (by omega) (by omega) g9 g10 g11 g12 hk (fun j => (hP j).1) (by omega)

theorem OutV.base {c X Y W H : Int} {m : List Nat} {w : World} {B B' : Nat} {x y p q : Int} {a : Option Addr} {n k : Nat} (h : OutV c X Y W H m w B x y p q a n k) (hb : B' ≤ B) : OutV c X Y W H m w B' x y p q a n k := by
  rcases h with h | ⟨h0, h1, h2, h3, h4, g, h5, h6, h7⟩
  · exact .inl h
  · exact .inr ⟨h0, h1, h2, h3, h4, g, h5, h6, h7.base hb⟩

/-- shape.Smooth at a right field: a bad number of steps -/
theorem smooth_bad (X Y : Int) (Wn Hn : Nat) (b o c : Nat) (n : Int) (l : List Nat) (w : World) (hl : SRow w (some ⟨b, o, none⟩) l) (hr : Right X Y Wn Hn l) (h : n < 0 ∨ 64 < n) :
    Calls Try.prog 52 #[fldV X Y Wn Hn (some ⟨b, o, none⟩) l.length c, .int .i64 n] w fun e w' => e = .returned (.tuple #[fldV 0 0 0 0 none 0 0, .int .i64 3]) ∧ Below w.heap.size w w' := by
  have K := Lib.hid (fun w h => check_field X Y Wn Hn (some ⟨b, o, none⟩) c l w h)
  rw [hr.chk] at K
  have HL := Lib.hid hl
  clear hl hr
  rcases h with h | h
  all_goals
    go_enter Try.func52, Try.ntmps52
    go_wp2_with fail
    generalize hW0 : (w.alloc (.cells #[.int .i64 X, .int .i64 Y, .int .i64 Wn, .int .i64 Hn, .slice (some ⟨b, o, none⟩) l.length c] /-T-/66)).alloc (.cells #[.int .i64 0, .int .i64 0, .int .i64 0, .int .i64 0, .slice none 0 0] /-T-/66) = W0 at *
    obtain ⟨E0, F0, B0, z0⟩ := two_fields w X Y Wn Hn (.slice (some ⟨b, o, none⟩) l.length c) W0 hW0.symm
    clear hW0
    refine (K.out _ (HL.out.below B0)).mono ?_
    rintro e w1 ⟨rfl, b1⟩
    have F1 := F0.below b1 F0.lt
    have B1 := Lib.hid (B0.trans (b1.mono B0.size))
    clear b1 B0 F0 E0 z0 K HL
    have l1 := F1.lt
    obtain ⟨d0, d1, d2, d3, d4⟩ := F1.cells
    have qf0 := F1.frozen 0
    have qf1 := F1.frozen 1
    have qf2 := F1.frozen 2
    have qf3 := F1.frozen 3
    have qf4 := F1.frozen 4
    clear F1
    go_wp2_with fail
    have B2 := B1.out
    exact bodyPost_ret (v := .tuple #[fldV 0 0 0 0 none 0 0, .int .i64 3]) (by simp [results, Try.results52, go_sem, *]) rfl ⟨rfl, (by have hszz := B2.size; repeat (first | with_reducible exact B2 | with_reducible apply Below.drew | with_reducible refine below_drewN ?_ _ | (with_reducible refine Below.setCell ?_ ?_ _; rotate_left; focus (first | omega | (simp <;> omega))) | (with_reducible refine Below.alloc ?_ ?_ _; rotate_left; focus (first | omega | (simp <;> omega)))))⟩

set_option maxRecDepth 100000 in
/-- shape.Smooth at a right field -/
theorem smooth_ok (X Y : Int) (Wn Hn : Nat) (b o c N : Nat) (l : List Nat) (w : World) (hl : SRow w (some ⟨b, o, none⟩) l) (hr : Right X Y Wn Hn l) (hw : Wn ≤ 16) (hN : N ≤ 64) :
    Calls Try.prog 52 #[fldV X Y Wn Hn (some ⟨b, o, none⟩) l.length c, .int .i64 N] w fun e w' => OpP (smoothC X Y Wn Hn l N) (X + N) (Y + N) (Wn - 2 * N : Nat) (Hn - 2 * N : Nat) (stepsL smoothF X Y Wn Hn l N) w e w' := by
  have K := Lib.hid (fun w h => check_field X Y Wn Hn (some ⟨b, o, none⟩) c l w h)
  rw [hr.chk] at K
  have HL := Lib.hid hl
  have KS := Lib.hid (fun w' hl => smooth_steps X Y Wn Hn b o c N l w' hl hr hw hN)
  clear hl hr hw
  generalize hcc : smoothC X Y Wn Hn l N = C at *
  generalize hss : stepsL smoothF X Y Wn Hn l N = S at *
  clear hcc hss
  go_enter Try.func52, Try.ntmps52
  go_wp2_with fail
  generalize hW0 : (w.alloc (.cells #[.int .i64 X, .int .i64 Y, .int .i64 Wn, .int .i64 Hn, .slice (some ⟨b, o, none⟩) l.length c] /-T-/66)).alloc (.cells #[.int .i64 0, .int .i64 0, .int .i64 0, .int .i64 0, .slice none 0 0] /-T-/66) = W0 at *
  obtain ⟨E0, F0, B0, z0⟩ := two_fields w X Y Wn Hn (.slice (some ⟨b, o, none⟩) l.length c) W0 hW0.symm
  clear hW0
  refine (K.out _ (HL.out.below B0)).mono ?_
  rintro e w1 ⟨rfl, b1⟩
  have E1 := E0.below b1 E0.lt
  have F1 := F0.below b1 F0.lt
  have HL1 := Lib.hid ((HL.out.below B0).below b1)
  have B1 := Lib.hid (B0.trans (b1.mono B0.size))
  clear b1 B0 F0 E0 z0 K HL
  obtain ⟨c0, c1, c2, c3, c4⟩ := E1.cells
  have l1 := F1.lt
  have HF1 := Lib.hid F1
  clear F1 E1
  go_wp2_with fail
  refine (KS.out _ HL1.out).mono ?_
  rintro e w2 ⟨⟨x, y, p, q, a, m, k, rfl, o2⟩, b2⟩
  have F2 := HF1.out.below b2 HF1.out.lt
  have l2 := F2.lt
  have HB2 := Lib.hid (B1.out.trans (b2.mono B1.out.size))
  have hz : w.heap.size + 1 < w1.heap.size := HF1.out.lt
  have HO2 := Lib.hid o2
  have HF2 := Lib.hid F2
  clear b2 o2 KS HF1
  obtain ⟨d0, d1, d2, d3, d4⟩ := F2.cells
  have qf0 := F2.frozen 0
  have qf1 := F2.frozen 1
  have qf2 := F2.frozen 2
  have qf3 := F2.frozen 3
  have qf4 := F2.frozen 4
  clear F2
  go_wp2_with fail
  generalize hW5 : ((((w2.setCell ⟨w.heap.size + 1, 0, none⟩ (.int .i64 x)).setCell ⟨w.heap.size + 1, 1, none⟩ (.int .i64 y)).setCell ⟨w.heap.size + 1, 2, none⟩ (.int .i64 p)).setCell ⟨w.heap.size + 1, 3, none⟩ (.int .i64 q)).setCell ⟨w.heap.size + 1, 4, none⟩ (.slice a m k) = W5 at *
  obtain ⟨f5, bb5, oo5, _, z5⟩ := fld_store w2 (w.heap.size + 1) 0 0 0 0 _ x y p q (.slice a m k) HF2.out W5 hW5.symm
  have hO5 := (HO2.out.set oo5 hz).base (show w.heap.size ≤ w1.heap.size by omega)
  have hB5 := HB2.out.trans (bb5.mono (by omega))
  clear d0 d1 d2 d3 d4 qf0 qf1 qf2 qf3 qf4 hW5 oo5 HO2 HB2 HF2
  obtain ⟨d0, d1, d2, d3, d4⟩ := f5.cells
  exact bodyPost_ret (v := .tuple #[fldV x y p q a m k, .int .i64 C]) (by simp [results, Try.results52, go_sem, *]) rfl ⟨⟨x, y, p, q, a, m, k, rfl, hO5⟩, hB5⟩

/-- the reference's Smooth at a right field: a bad number of steps -/
theorem refsmooth_bad (X Y : Int) (Wn Hn : Nat) (b o c : Nat) (n : Int) (l : List Nat) (w : World) (hl : SRow w (some ⟨b, o, none⟩) l) (hr : Right X Y Wn Hn l) (h : n < 0 ∨ 64 < n) :
    Calls Try.prog 53 #[fldV X Y Wn Hn (some ⟨b, o, none⟩) l.length c, .int .i64 n] w fun e w' => e = .returned (.tuple #[fldV 0 0 0 0 none 0 0, .int .i64 3]) ∧ Below w.heap.size w w' := by
  have HL := Lib.hid hl
  clear hl hr
  rcases h with h | h
  all_goals
    go_enter Try.func53, Try.ntmps53
    go_wp2_with fail
    exact bodyPost_ret (v := .tuple #[fldV 0 0 0 0 none 0 0, .int .i64 3]) (by simp [results, Try.results53, go_sem, *]) rfl ⟨rfl, (by repeat (first | with_reducible exact Below.refl _ _ | with_reducible apply Below.drew | with_reducible refine below_drewN ?_ _ | (with_reducible refine Below.setCell ?_ ?_ _; rotate_left; focus (first | omega | (simp <;> omega))) | (with_reducible refine Below.alloc ?_ ?_ _; rotate_left; focus (first | omega | (simp <;> omega)))))⟩

set_option maxRecDepth 100000 in
/-- the reference's Smooth at a right field -/
theorem refsmooth_ok (X Y : Int) (Wn Hn : Nat) (b o c N : Nat) (l : List Nat) (w : World) (hl : SRow w (some ⟨b, o, none⟩) l) (hr : Right X Y Wn Hn l) (hw : Wn ≤ 16) (hx : -1000000 ≤ X ∧ X ≤ 1000000 ∧ -1000000 ≤ Y ∧ Y ≤ 1000000) (hN : N ≤ 64) :
    Calls Try.prog 53 #[fldV X Y Wn Hn (some ⟨b, o, none⟩) l.length c, .int .i64 N] w fun e w' => OpP (smoothC X Y Wn Hn l N) (X + N) (Y + N) (Wn - 2 * N : Nat) (Hn - 2 * N : Nat) (stepsL smoothF X Y Wn Hn l N) w e w' := by
  have HL := Lib.hid hl
  have KS := Lib.hid (fun w' hl => refsmooth_steps X Y Wn Hn b o c N l w' hl hr hw hx hN)
  clear hl hr hw
  generalize hcc : smoothC X Y Wn Hn l N = C at *
  generalize hss : stepsL smoothF X Y Wn Hn l N = S at *
  clear hcc hss
  go_enter Try.func53, Try.ntmps53
  go_wp2_with fail
  generalize hW0 : (w.alloc (.cells #[.int .i64 X, .int .i64 Y, .int .i64 Wn, .int .i64 Hn, .slice (some ⟨b, o, none⟩) l.length c] /-T-/66)).alloc (.cells #[.int .i64 0, .int .i64 0, .int .i64 0, .int .i64 0, .slice none 0 0] /-T-/66) = W0 at *
  obtain ⟨E0, F0, B0, z0⟩ := two_fields w X Y Wn Hn (.slice (some ⟨b, o, none⟩) l.length c) W0 hW0.symm
  clear hW0
  obtain ⟨w1, hw1⟩ : ∃ w1, w1 = W0 := ⟨_, rfl⟩
  rw [← hw1] at E0 F0 B0 z0 ⊢
  have HL1 := Lib.hid (HL.out.below B0)
  have B1 := Lib.hid B0
  have HF1 := Lib.hid F0
  clear hw1 E0 F0 B0 z0 HL W0
  refine (KS.out _ HL1.out).mono ?_
  rintro e w2 ⟨⟨x, y, p, q, a, m, k, rfl, o2⟩, b2⟩
  have F2 := HF1.out.below b2 HF1.out.lt
  have l2 := F2.lt
  have HB2 := Lib.hid (B1.out.trans (b2.mono B1.out.size))
  have hz : w.heap.size + 1 < w1.heap.size := HF1.out.lt
  have HO2 := Lib.hid o2
  have HF2 := Lib.hid F2
  clear b2 o2 KS HF1
  obtain ⟨d0, d1, d2, d3, d4⟩ := F2.cells
  have qf0 := F2.frozen 0
  have qf1 := F2.frozen 1
  have qf2 := F2.frozen 2
  have qf3 := F2.frozen 3
  have qf4 := F2.frozen 4
  clear F2
  go_wp2_with fail
  generalize hW5 : ((((w2.setCell ⟨w.heap.size + 1, 0, none⟩ (.int .i64 x)).setCell ⟨w.heap.size + 1, 1, none⟩ (.int .i64 y)).setCell ⟨w.heap.size + 1, 2, none⟩ (.int .i64 p)).setCell ⟨w.heap.size + 1, 3, none⟩ (.int .i64 q)).setCell ⟨w.heap.size + 1, 4, none⟩ (.slice a m k) = W5 at *
  obtain ⟨f5, bb5, oo5, _, z5⟩ := fld_store w2 (w.heap.size + 1) 0 0 0 0 _ x y p q (.slice a m k) HF2.out W5 hW5.symm
  have hO5 := (HO2.out.set oo5 hz).base (show w.heap.size ≤ w1.heap.size by omega)
  have hB5 := HB2.out.trans (bb5.mono (by omega))
  clear d0 d1 d2 d3 d4 qf0 qf1 qf2 qf3 qf4 hW5 oo5 HO2 HB2 HF2
  obtain ⟨d0, d1, d2, d3, d4⟩ := f5.cells
  exact bodyPost_ret (v := .tuple #[fldV x y p q a m k, .int .i64 C]) (by simp [results, Try.results53, go_sem, *]) rfl ⟨⟨x, y, p, q, a, m, k, rfl, hO5⟩, hB5⟩

end Go.Proofs.Ytgeeaegnohdejaa
