import Derived.Test.YtkmcinibaffpmaaThermFn
namespace Go.Proofs.Ytkmcinibaffpmaa
open Go.ChangeShapes Go.WideShapes Go.ChangeAt Go.RowKit
open Ieee.Format (fin finE htE allFin allHt all_true all_false mulF subF addF Ht Bd divF rootF floorF easeF mixF)
set_option linter.unusedVariables false
open Ieee.Format (addF_lt)

/-- three boxes: a field, something, an empty field -/
theorem box_fbz (w : World) (X Y W H : Int) (v : Value) (cs : Array Value) (t : TypeId) : ∀ W0, W0 = ((w.alloc (.cells #[.int .i64 X, .int .i64 Y, .int .i64 W, .int .i64 H, v] 26)).alloc (.cells cs t)).alloc (.cells #[.int .i64 0, .int .i64 0, .int .i64 0, .int .i64 0, .slice none 0 0] 26) →
    Fld W0 w.heap.size X Y W H v ∧ Blk W0 (w.heap.size + 1) cs t ∧ Fld W0 (w.heap.size + 1 + 1) 0 0 0 0 (.slice none 0 0) ∧ Below w.heap.size w W0 ∧ W0.heap.size = w.heap.size + 3 := by
  rintro _ rfl
  refine ⟨((Fld.new w X Y W H v).alloc _).alloc _, ?_, ?_, (by repeat (first | with_reducible exact Below.refl _ _ | with_reducible apply Below.drew | with_reducible refine below_drewN ?_ _ | (with_reducible refine Below.setCell ?_ ?_ _; rotate_left; focus (first | omega | (simp <;> omega))) | (with_reducible refine Below.alloc ?_ ?_ _; rotate_left; focus (first | omega | (simp <;> omega))))), by simp⟩
  · have := (Blk.new (w.alloc (.cells #[.int .i64 X, .int .i64 Y, .int .i64 W, .int .i64 H, v] 26)) cs t).alloc (.cells #[.int .i64 0, .int .i64 0, .int .i64 0, .int .i64 0, .slice none 0 0] 26)
    simpa using this
  · have := Fld.new ((w.alloc (.cells #[.int .i64 X, .int .i64 Y, .int .i64 W, .int .i64 H, v] 26)).alloc (.cells cs t)) 0 0 0 0 (.slice none 0 0)
    simpa using this

theorem OutV.base {c X Y W H : Int} {m : List Nat} {w : World} {B B' : Nat} {x y p q : Int} {a : Option Addr} {n k : Nat} (h : OutV c X Y W H m w B x y p q a n k) (hb : B' ≤ B) : OutV c X Y W H m w B' x y p q a n k := by
  rcases h with h | ⟨h0, h1, h2, h3, h4, g, h5, h6, h7⟩
  · exact .inl h
  · exact .inr ⟨h0, h1, h2, h3, h4, g, h5, h6, h7.base hb⟩

def ThP (i x : Nat) : Prop := Bd (20 + 8 * i) x ∧ x < 4294967296
theorem ThP.zero (i : Nat) : ThP i 0 := ⟨(Ieee.Format.Ht.bd (show Ht 0 by decide)).mono (by omega), by decide⟩
theorem ThP.next {T R i n s e w v : Nat} (hW : WearOk T R) (hi : i ≤ 7) (hn : ThP i n) (hs : ThP i s) (he : ThP i e) (hw : ThP i w) (hv : ThP i v) : ThP (i + 1) (thermalF T R n s e w v) :=
  ⟨(addT_bd hW hn.1 hs.1 he.1 hw.1 hv.1 (by omega) (by omega) 4 (by omega)).mono (by omega), addF_lt _ _⟩
theorem ThP.all {X Y : Int} {Wn Hn : Nat} {l : List Nat} (hr : Right X Y Wn Hn l) (h : ∀ x ∈ l, x < 4294967296) : ∀ x ∈ l, ThP 0 x := fun x hx => ⟨(hr.ht x hx).bd, h x hx⟩

def thermC (T R : Nat) (X Y : Int) (Wn Hn : Nat) (l : List Nat) (N : Nat) : Int :=
  if Wn < 1 + 2 * N ∨ Hn < 1 + 2 * N then 10 else if allHt (stepsL (thermalF T R) X Y Wn Hn l N) = true then 0 else 3

theorem therm_steps (T R p : Nat) (st : Int) (X Y : Int) (Wn Hn : Nat) (b o c N : Nat) (l : List Nat) (w : World) (hl : SRow w (some ⟨b, o, none⟩) l) (hr : Right X Y Wn Hn l) (hw : Wn ≤ 16) (hN : N ≤ 64) (hW : WearOk T R) (hp : WearAt w p T R st) :
    Calls Try.prog 120 #[fldV X Y Wn Hn (some ⟨b, o, none⟩) l.length c, .int .i64 N, .func (.func 121) #[] #[.pointer (some ⟨p, 0, none⟩)]] w fun e w' => OpP (thermC T R X Y Wn Hn l N) (X + N) (Y + N) (Wn - 2 * N : Nat) (Hn - 2 * N : Nat) (stepsL (thermalF T R) X Y Wn Hn l N) w e w' := by
  have := hr.w1; have := hr.w2; have := hr.h1; have := hr.h2; have := hr.x1; have := hr.x2; have := hr.y1; have := hr.y2
  unfold thermC
  by_cases h : Wn < 1 + 2 * N ∨ Hn < 1 + 2 * N
  · rw [if_pos h]
    exact (steps_no N X Y Wn Hn _ _ c w (by omega) (by omega) (by omega) (by omega) hN (by omega) (by omega) (by omega) (by omega) h _ _).mono fun e w' ⟨h1, h2⟩ => OpP.err (by decide) h1 h2
  · rw [if_neg h]
    refine (steps_yes 121 #[.pointer (some ⟨p, 0, none⟩)] (thermalF T R) ThP N X Y Wn Hn b o c l w hl hr.len (by omega) (by omega) (by omega) (by omega) hN (by omega) (by omega) (by omega) (by omega) (enters_of Try.func121 (by kernel_rfl) rfl) ThP.zero (ThP.all hr hl.1.2) (fun i hi n s e w v => ThP.next hW (by omega)) (fun i x h => h.2) ?_).mono fun e w' h => h.op
    intro i hi n s e wv v hn hs he hw' hv W' hb
    exact thermfn_any (20 + 8 * i) T R n s e wv v p st W' hW hn.1 hs.1 he.1 hw'.1 hv.1 (by omega) (by omega) (hp.below hb hp.lt)

/-- shape.Thermal at a right field: a bad wear -/
theorem therm_bad (T R : Nat) (X Y : Int) (Wn Hn : Nat) (b o c : Nat) (n : Int) (l : List Nat) (w : World) (hl : SRow w (some ⟨b, o, none⟩) l) (hr : Right X Y Wn Hn l) (hT : T < 4294967296) (hR : R < 4294967296) (h : wearE T R n ≠ 0) :
    Calls Try.prog 32 #[fldV X Y Wn Hn (some ⟨b, o, none⟩) l.length c, wearV T R n] w fun e w' => e = .returned (.tuple #[fldV 0 0 0 0 none 0 0, .int .i64 (wearE T R n)]) ∧ Below w.heap.size w w' := by
  have K := Lib.hid (fun w h => check_field X Y Wn Hn (some ⟨b, o, none⟩) c l w h)
  rw [hr.chk] at K
  have HL := Lib.hid hl
  have KW := Lib.hid (fun w => check_wear T R n w hT hR)
  clear hl hr hT hR
  generalize wearE T R n = q at *
  have hb : (q != 0) = true := by rw [bne_iff_ne]; exact h
  clear h
  go_enter Try.func32, Try.ntmps32
  go_wp2_with fail
  generalize hW0 : ((w.alloc (.cells #[.int .i64 X, .int .i64 Y, .int .i64 Wn, .int .i64 Hn, .slice (some ⟨b, o, none⟩) l.length c] 26)).alloc (.cells #[.float .f32 T, .float .f32 R, .int .i64 n] 62)).alloc (.cells #[.int .i64 0, .int .i64 0, .int .i64 0, .int .i64 0, .slice none 0 0] 26) = W0 at *
  obtain ⟨E0, G0, F0, B0, z0⟩ := box_fbz w X Y Wn Hn (.slice (some ⟨b, o, none⟩) l.length c) #[.float .f32 T, .float .f32 R, .int .i64 n] 62 W0 hW0.symm
  clear hW0
  refine (K.out _ (HL.out.below B0)).mono ?_
  rintro e w1 ⟨rfl, b1⟩
  have E1 := E0.below b1 E0.lt
  have G1 := G0.below b1 G0.lt
  have F1 := F0.below b1 F0.lt
  have HL1 := Lib.hid ((HL.out.below B0).below b1)
  have B1 := Lib.hid (B0.trans (b1.mono B0.size))
  clear b1 B0 F0 E0 z0 K HL G0
  obtain ⟨d0, d1, d2⟩ := WearAt.cells G1
  have l1 := F1.lt
  have HF1 := Lib.hid F1
  have HE1 := Lib.hid E1
  have HG1 := Lib.hid G1
  clear F1 E1 G1
  go_wp2_with fail
  refine (KW.out _).mono ?_
  rintro e w2 ⟨rfl, b2⟩
  have E2 := HE1.out.below b2 HE1.out.lt
  have G2 := HG1.out.below b2 HG1.out.lt
  have F2 := HF1.out.below b2 HF1.out.lt
  have HL2 := Lib.hid (HL1.out.below b2)
  have B2 := Lib.hid (B1.out.trans (b2.mono B1.out.size))
  clear b2 B1 HL1 HF1 HE1 HG1 d0 d1 d2 l1 KW
  have l2 := F2.lt
  obtain ⟨d0, d1, d2, d3, d4⟩ := F2.cells
  have qf0 := F2.frozen 0
  have qf1 := F2.frozen 1
  have qf2 := F2.frozen 2
  have qf3 := F2.frozen 3
  have qf4 := F2.frozen 4
  clear F2 E2 G2 HL2
  go_wp2_with fail
  have B3 := B2.out
  exact bodyPost_ret (v := .tuple #[fldV 0 0 0 0 none 0 0, .int .i64 q]) (by simp [results, Try.results32, go_sem, *]) rfl ⟨rfl, (by have hszz := B3.size; repeat (first | with_reducible exact B3 | with_reducible apply Below.drew | with_reducible refine below_drewN ?_ _ | (with_reducible refine Below.setCell ?_ ?_ _; rotate_left; focus (first | omega | (simp <;> omega))) | (with_reducible refine Below.alloc ?_ ?_ _; rotate_left; focus (first | omega | (simp <;> omega)))))⟩

set_option maxRecDepth 100000 in
/-- shape.Thermal at a right field -/
theorem therm_ok (T R : Nat) (X Y : Int) (Wn Hn : Nat) (b o c N : Nat) (l : List Nat) (w : World) (hl : SRow w (some ⟨b, o, none⟩) l) (hr : Right X Y Wn Hn l) (hw : Wn ≤ 16) (hN : N ≤ 64) (hT : T < 4294967296) (hR : R < 4294967296) (h : wearE T R N = 0) (hW : WearOk T R) :
    Calls Try.prog 32 #[fldV X Y Wn Hn (some ⟨b, o, none⟩) l.length c, wearV T R N] w fun e w' => OpP (thermC T R X Y Wn Hn l N) (X + N) (Y + N) (Wn - 2 * N : Nat) (Hn - 2 * N : Nat) (stepsL (thermalF T R) X Y Wn Hn l N) w e w' := by
  have K := Lib.hid (fun w h => check_field X Y Wn Hn (some ⟨b, o, none⟩) c l w h)
  rw [hr.chk] at K
  have HL := Lib.hid hl
  have KW := Lib.hid (fun w => check_wear T R N w hT hR)
  rw [h] at KW
  have KS := Lib.hid (fun p w' hl hp => therm_steps T R p N X Y Wn Hn b o c N l w' hl hr hw hN hW hp)
  clear hl hr hw hT hR h hW
  generalize hcc : thermC T R X Y Wn Hn l N = C at *
  generalize hss : stepsL (thermalF T R) X Y Wn Hn l N = S at *
  clear hcc hss
  generalize hnn : (N : Int) = n at *
  clear hnn
  go_enter Try.func32, Try.ntmps32
  go_wp2_with fail
  generalize hW0 : ((w.alloc (.cells #[.int .i64 X, .int .i64 Y, .int .i64 Wn, .int .i64 Hn, .slice (some ⟨b, o, none⟩) l.length c] 26)).alloc (.cells #[.float .f32 T, .float .f32 R, .int .i64 n] 62)).alloc (.cells #[.int .i64 0, .int .i64 0, .int .i64 0, .int .i64 0, .slice none 0 0] 26) = W0 at *
  obtain ⟨E0, G0, F0, B0, z0⟩ := box_fbz w X Y Wn Hn (.slice (some ⟨b, o, none⟩) l.length c) #[.float .f32 T, .float .f32 R, .int .i64 n] 62 W0 hW0.symm
  clear hW0
  refine (K.out _ (HL.out.below B0)).mono ?_
  rintro e w1 ⟨rfl, b1⟩
  have E1 := E0.below b1 E0.lt
  have G1 := G0.below b1 G0.lt
  have F1 := F0.below b1 F0.lt
  have HL1 := Lib.hid ((HL.out.below B0).below b1)
  have B1 := Lib.hid (B0.trans (b1.mono B0.size))
  clear b1 B0 F0 E0 z0 K HL G0
  obtain ⟨d0, d1, d2⟩ := WearAt.cells G1
  have l1 := F1.lt
  have HF1 := Lib.hid F1
  have HE1 := Lib.hid E1
  have HG1 := Lib.hid G1
  clear F1 E1 G1
  go_wp2_with fail
  refine (KW.out _).mono ?_
  rintro e w2 ⟨rfl, b2⟩
  have E2 := HE1.out.below b2 HE1.out.lt
  have G2 := HG1.out.below b2 HG1.out.lt
  have F2 := HF1.out.below b2 HF1.out.lt
  have HL2 := Lib.hid (HL1.out.below b2)
  have B2 := Lib.hid (B1.out.trans (b2.mono B1.out.size))
  clear b2 B1 HL1 HF1 HE1 HG1 d0 d1 d2 l1 KW
  have l2 := F2.lt
  obtain ⟨c0, c1, c2, c3, c4⟩ := E2.cells
  obtain ⟨d0, d1, d2⟩ := WearAt.cells G2
  have HF2 := Lib.hid F2
  have HG2 := Lib.hid G2
  clear F2 E2 G2
  go_wp2_with fail
  refine (KS.out _ _ HL2.out HG2.out).mono ?_
  rintro e w3 ⟨⟨x, y, p, q, a, m, k, rfl, o3⟩, b3⟩
  have F3 := HF2.out.below b3 HF2.out.lt
  have l3 := F3.lt
  have HB3 := Lib.hid (B2.out.trans (b3.mono B2.out.size))
  have hz : w.heap.size + 1 + 1 < w2.heap.size := HF2.out.lt
  have HO3 := Lib.hid o3
  have HF3 := Lib.hid F3
  clear b3 o3 KS HF2 c0 c1 c2 c3 c4 d0 d1 d2 HG2
  obtain ⟨d0, d1, d2, d3, d4⟩ := F3.cells
  have qf0 := F3.frozen 0
  have qf1 := F3.frozen 1
  have qf2 := F3.frozen 2
  have qf3 := F3.frozen 3
  have qf4 := F3.frozen 4
  clear F3
  go_wp2_with fail
  generalize hW5 : ((((w3.setCell ⟨w.heap.size + 1 + 1, 0, none⟩ (.int .i64 x)).setCell ⟨w.heap.size + 1 + 1, 1, none⟩ (.int .i64 y)).setCell ⟨w.heap.size + 1 + 1, 2, none⟩ (.int .i64 p)).setCell ⟨w.heap.size + 1 + 1, 3, none⟩ (.int .i64 q)).setCell ⟨w.heap.size + 1 + 1, 4, none⟩ (.slice a m k) = W5 at *
  obtain ⟨f5, bb5, oo5, _, z5⟩ := fld_store w3 (w.heap.size + 1 + 1) 0 0 0 0 _ x y p q (.slice a m k) HF3.out W5 hW5.symm
  have hO5 := (HO3.out.set oo5 hz).base (show w.heap.size ≤ w2.heap.size by omega)
  have hB5 := HB3.out.trans (bb5.mono (by omega))
  clear d0 d1 d2 d3 d4 qf0 qf1 qf2 qf3 qf4 hW5 oo5 HO3 HB3 HF3
  obtain ⟨d0, d1, d2, d3, d4⟩ := f5.cells
  exact bodyPost_ret (v := .tuple #[fldV x y p q a m k, .int .i64 C]) (by simp [results, Try.results32, go_sem, *]) rfl ⟨⟨x, y, p, q, a, m, k, rfl, hO5⟩, hB5⟩
theorem value_any (x : Nat) (w : World) (h : Ht x) : Calls Try.prog 97 #[.float .f32 x] w fun e w' => e = .returned (.tuple #[.float .f32 x, .int .i64 0]) ∧ w = w' := by
  have K := Lib.hid (fun w => height_any x w)
  have h' : decide (x % 2147483648 ≤ 1233125376) = true := decide_eq_true h
  rw [h'] at K
  clear h h'
  go_enter Try.func97, Try.ntmps97
  go_wp2_with fail
  refine (K.out _).mono ?_
  rintro e w' ⟨rfl, rfl⟩
  go_wp2_with fail
  go_ret2
  exact ⟨rfl, rfl⟩
theorem value_no (x : Nat) (w : World) (h : ¬ Ht x) : Calls Try.prog 97 #[.float .f32 x] w fun e w' => e = .returned (.tuple #[.float .f32 0, .int .i64 3]) ∧ w = w' := by
  have K := Lib.hid (fun w => height_any x w)
  have h' : decide (x % 2147483648 ≤ 1233125376) = false := decide_eq_false h
  rw [h'] at K
  clear h h'
  go_enter Try.func97, Try.ntmps97
  go_wp2_with fail
  refine (K.out _).mono ?_
  rintro e w' ⟨rfl, rfl⟩
  go_wp2_with fail
  go_ret2
  exact ⟨rfl, rfl⟩

def movedE (T R : Nat) (n : Int) (a b : Nat) : Int := if wearE T R n ≠ 0 then wearE T R n else htE [a, b]
def movedV (T R : Nat) (n : Int) (a b : Nat) : Nat := if movedE T R n a b = 0 then movedF T R a b else 0
theorem movedF_ht {T R a b : Nat} (hW : WearOk T R) (ha : Ht a) (hb : Ht b) : Ht (movedF T R a b) := by
  have := (moved_bd hW (Ieee.Format.Ht.bd ha) (Ieee.Format.Ht.bd hb) (by omega) (by omega)).2.2.2
  exact Ieee.Format.Ht.of ⟨this.2.1, this.2.2⟩
theorem movedE_w {T R : Nat} {n : Int} {a b : Nat} (h : wearE T R n ≠ 0) : movedE T R n a b = wearE T R n ∧ movedV T R n a b = 0 := by
  have e : movedE T R n a b = wearE T R n := by unfold movedE; rw [if_pos h]
  exact ⟨e, by unfold movedV; rw [e, if_neg h]⟩
theorem movedE_h {T R : Nat} {n : Int} {a b : Nat} (h : wearE T R n = 0) (h2 : htE [a, b] ≠ 0) : movedE T R n a b = htE [a, b] ∧ movedV T R n a b = 0 := by
  have e : movedE T R n a b = htE [a, b] := by unfold movedE; rw [if_neg (by omega)]
  exact ⟨e, by unfold movedV; rw [e, if_neg h2]⟩
theorem movedE_ok {T R : Nat} {n : Int} {a b : Nat} (h : wearE T R n = 0) (h2 : htE [a, b] = 0) : movedE T R n a b = 0 ∧ movedV T R n a b = movedF T R a b := by
  have e : movedE T R n a b = 0 := by unfold movedE; rw [if_neg (by omega)]; exact h2
  exact ⟨e, by unfold movedV; rw [e, if_pos rfl]⟩
theorem ret_f32e2 {x y : Nat} {c d : Int} (h : x = y) (h' : c = d) : Ending.returned (.tuple #[.float .f32 x, .int .i64 c]) = .returned (.tuple #[.float .f32 y, .int .i64 d]) := by rw [h, h']
end Go.Proofs.Ytkmcinibaffpmaa
