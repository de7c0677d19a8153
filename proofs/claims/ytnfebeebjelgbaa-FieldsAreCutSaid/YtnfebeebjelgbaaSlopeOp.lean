import Derived.Test.YtnfebeebjelgbaaRefSlope
namespace Go.Proofs.Ytnfebeebjelgbaa
open Go.ChangeShapes Go.WideShapes Go.ChangeAt Go.RowKit
open Ieee.Format (fin finE htE allFin allHt all_true all_false mulF subF addF Ht Bd divF rootF floorF easeF mixF)
set_option linter.unusedVariables false
open Ieee.Format (slopeF curveF)

/-- the values of the cells that are not at the edge -/
def innerL (φ : Nat → Nat → Nat → Nat → Nat → Nat) (X Y : Int) (Wn Hn : Nat) (l : List Nat) : List Nat := madeL (fun x y => nbr φ l Wn (cellNo X Y Wn x y).toNat) (X + 1) (Y + 1) (Wn - 2) ((Hn - 2) * (Wn - 2))
theorem innerL_len (φ : Nat → Nat → Nat → Nat → Nat → Nat) (X Y : Int) (Wn Hn : Nat) (l : List Nat) : (innerL φ X Y Wn Hn l).length = (Hn - 2) * (Wn - 2) := madeL_len _ _ _ _ _
theorem innerL_small (φ : Nat → Nat → Nat → Nat → Nat → Nat) {X Y : Int} {Wn Hn : Nat} {l : List Nat} (hr : Right X Y Wn Hn l) : (innerL φ X Y Wn Hn l).length ≤ 1099511627776 := by
  rw [innerL_len]
  have := hr.h2; have := hr.w2
  have := Nat.mul_le_mul (show Hn - 2 ≤ 512 by omega) (show Wn - 2 ≤ 512 by omega)
  omega

theorem make_inner (gn : Nat) (caps : Array Value) (φ : Nat → Nat → Nat → Nat → Nat → Nat) (X Y : Int) (Wn Hn : Nat) (l : List Nat) (w : World) (hr : Right X Y Wn Hn l) (h3 : 3 ≤ Wn) (h4 : 3 ≤ Hn)
    (eg : ∀ args w, (callFunc gn args).run Try.prog w = .ok (.enter gn args) w) (hlt : ∀ k, nbr φ l Wn k < 4294967296)
    (hf : ∀ x y k, InnerAt X Y Wn Hn x y k → ∀ W', Below w.heap.size w W' → Calls Try.prog gn (#[.int .i64 x, .int .i64 y] ++ caps) W' fun e w' => e = .returned (.float .f32 (nbr φ l Wn k)) ∧ Below W'.heap.size W' w') :
    Calls Try.prog 94 #[reg (X + 1) (Y + 1) ((Wn - 2 : Nat) : Int) ((Hn - 2 : Nat) : Int), .func (.func gn) #[] caps] w fun e w' => MakeP (X + 1) (Y + 1) ((Wn - 2 : Nat) : Int) ((Hn - 2 : Nat) : Int) (innerL φ X Y Wn Hn l) w e w' := by
  have g1 := hr.w2; have g2 := hr.h2; have g3 := hr.x1; have g4 := hr.x2; have g5 := hr.y1; have g6 := hr.y2
  refine make_any gn caps (fun x y => nbr φ l Wn (cellNo X Y Wn x y).toNat) (X + 1) (Y + 1) (Wn - 2) (Hn - 2) w (by omega) (by omega) (by omega) (by omega) (by omega) (by omega) (by omega) (by omega) eg (fun x y _ _ _ _ => hlt _) ?_
  intro x y h1 h2 h5 h6 W' hb
  exact hf x y _ (InnerAt.of h1 (by omega) h5 (by omega)) W' hb
theorem made_inner (gn : Nat) (caps : Array Value) (φ : Nat → Nat → Nat → Nat → Nat → Nat) (X Y : Int) (Wn Hn : Nat) (l : List Nat) (w : World) (hr : Right X Y Wn Hn l) (h3 : 3 ≤ Wn) (h4 : 3 ≤ Hn)
    (eg : ∀ args w, (callFunc gn args).run Try.prog w = .ok (.enter gn args) w) (hlt : ∀ k, nbr φ l Wn k < 4294967296)
    (hf : ∀ x y k, InnerAt X Y Wn Hn x y k → ∀ W', Below w.heap.size w W' → Calls Try.prog gn (#[.int .i64 x, .int .i64 y] ++ caps) W' fun e w' => e = .returned (.float .f32 (nbr φ l Wn k)) ∧ Below W'.heap.size W' w') :
    Calls Try.prog 105 #[reg (X + 1) (Y + 1) ((Wn - 2 : Nat) : Int) ((Hn - 2 : Nat) : Int), .func (.func gn) #[] caps] w fun e w' => OpP (resC (innerL φ X Y Wn Hn l)) (X + 1) (Y + 1) ((Wn - 2 : Nat) : Int) ((Hn - 2 : Nat) : Int) (innerL φ X Y Wn Hn l) w e w' := by
  have g1 := hr.w2; have g2 := hr.h2; have g3 := hr.x1; have g4 := hr.x2; have g5 := hr.y1; have g6 := hr.y2
  refine (made_any gn caps (fun x y => nbr φ l Wn (cellNo X Y Wn x y).toNat) (X + 1) (Y + 1) (Wn - 2) (Hn - 2) w (by omega) (by omega) (by omega) (by omega) (by omega) (by omega) (by omega) (by omega) eg (fun x y _ _ _ _ => hlt _) ?_).mono fun e w' h => h.res.op
  intro x y h1 h2 h5 h6 W' hb
  exact hf x y _ (InnerAt.of h1 (by omega) h5 (by omega)) W' hb

theorem slope_no (X Y : Int) (Wn Hn : Nat) (b o c : Nat) (l : List Nat) (w : World) (hl : SRow w (some ⟨b, o, none⟩) l) (hr : Right X Y Wn Hn l) (h : Wn < 3 ∨ Hn < 3) :
    Calls Try.prog 79 #[fldV X Y Wn Hn (some ⟨b, o, none⟩) l.length c] w fun e w' => e = .returned (.tuple #[fldV 0 0 0 0 none 0 0, .int .i64 10]) ∧ Below w.heap.size w w' := by
  have KI := Lib.hid (fun w hl => inner_no X Y Wn Hn b o c l w hl hr h)
  have HL := Lib.hid hl
  clear hl hr h
  go_enter Try.func79, Try.ntmps79
  go_wp2_with fail
  generalize hW0 : (w.alloc (.cells #[.int .i64 X, .int .i64 Y, .int .i64 Wn, .int .i64 Hn, .slice (some ⟨b, o, none⟩) l.length c] 36)).alloc (.cells #[.int .i64 0, .int .i64 0, .int .i64 0, .int .i64 0, .slice none 0 0] 36) = W0 at *
  obtain ⟨E0, F0, B0, z0⟩ := two_fields w X Y Wn Hn (.slice (some ⟨b, o, none⟩) l.length c) W0 hW0.symm
  clear hW0
  refine (KI.out _ (HL.out.below B0)).mono ?_
  rintro e w1 ⟨rfl, b1⟩
  have E1 := E0.below b1 E0.lt
  have F1 := F0.below b1 F0.lt
  have HL1 := Lib.hid ((HL.out.below B0).below b1)
  have B1 := Lib.hid (B0.trans (b1.mono B0.size))
  clear b1 B0 F0 E0 z0 KI HL
  have l1 := F1.lt
  obtain ⟨d0, d1, d2, d3, d4⟩ := F1.cells
  have qf0 := F1.frozen 0
  have qf1 := F1.frozen 1
  have qf2 := F1.frozen 2
  have qf3 := F1.frozen 3
  have qf4 := F1.frozen 4
  clear F1 E1
  go_wp2_with fail
  have B2 := B1.out
  exact bodyPost_ret (v := .tuple #[fldV 0 0 0 0 none 0 0, .int .i64 10]) (by simp [results, Try.results79, go_sem, *]) rfl ⟨rfl, (by have hszz := B2.size; repeat (first | with_reducible exact B2 | with_reducible apply Below.drew | with_reducible refine below_drewN ?_ _ | (with_reducible refine Below.setCell ?_ ?_ _; rotate_left; focus (first | omega | (simp <;> omega))) | (with_reducible refine Below.alloc ?_ ?_ _; rotate_left; focus (first | omega | (simp <;> omega)))))⟩
set_option maxRecDepth 100000 in
theorem slope_ok (X Y : Int) (Wn Hn : Nat) (b o c : Nat) (l : List Nat) (w : World) (hl : SRow w (some ⟨b, o, none⟩) l) (hr : Right X Y Wn Hn l) (h3 : 3 ≤ Wn) (h4 : 3 ≤ Hn) :
    Calls Try.prog 79 #[fldV X Y Wn Hn (some ⟨b, o, none⟩) l.length c] w fun e w' => OpP (resC (innerL slopeF X Y Wn Hn l)) (X + 1) (Y + 1) ((Wn - 2 : Nat) : Int) ((Hn - 2 : Nat) : Int) (innerL slopeF X Y Wn Hn l) w e w' := by
  have KI := Lib.hid (fun w hl => inner_ok X Y Wn Hn b o c l w hl hr h3 h4)
  have KM := Lib.hid (fun q w hl (hq : Fld w q X Y Wn Hn (.slice (some ⟨b, o, none⟩) l.length c)) => make_inner 183 #[.pointer (some ⟨q, 0, none⟩)] slopeF X Y Wn Hn l w hr h3 h4 (enters_of Try.func183 (by kernel_rfl) rfl) (fun k => Ieee.Format.rootF_lt _) (fun x y k hk W' hb => slopefn_any X Y Wn Hn x y b o c k q l W' (SRow.below hl hb) hr hk (hq.below hb hq.lt)))
  have KR := Lib.hid (fun X1 Y1 W1 H1 g cap B w ho => result_any X1 Y1 W1 H1 g cap B (innerL slopeF X Y Wn Hn l) w ho (innerL_small slopeF hr))
  have HL := Lib.hid hl
  clear hl hr h3 h4
  generalize innerL slopeF X Y Wn Hn l = S at *
  generalize resC S = C at *
  go_enter Try.func79, Try.ntmps79
  go_wp2_with fail
  generalize hW0 : (w.alloc (.cells #[.int .i64 X, .int .i64 Y, .int .i64 Wn, .int .i64 Hn, .slice (some ⟨b, o, none⟩) l.length c] 36)).alloc (.cells #[.int .i64 0, .int .i64 0, .int .i64 0, .int .i64 0, .slice none 0 0] 36) = W0 at *
  obtain ⟨E0, F0, B0, z0⟩ := two_fields w X Y Wn Hn (.slice (some ⟨b, o, none⟩) l.length c) W0 hW0.symm
  clear hW0
  refine (KI.out _ (HL.out.below B0)).mono ?_
  rintro e w1 ⟨rfl, b1⟩
  have E1 := E0.below b1 E0.lt
  have F1 := F0.below b1 F0.lt
  have HL1 := Lib.hid ((HL.out.below B0).below b1)
  have B1 := Lib.hid (B0.trans (b1.mono B0.size))
  clear b1 B0 F0 E0 z0 KI HL
  have hR := Reg.new w1 (X + 1) (Y + 1) ((Wn - 2 : Nat) : Int) ((Hn - 2 : Nat) : Int)
  have b2 : Below w1.heap.size w1 (w1.alloc (.cells #[.int .i64 (X + 1), .int .i64 (Y + 1), .int .i64 ((Wn - 2 : Nat) : Int), .int .i64 ((Hn - 2 : Nat) : Int)] 23)) := (by repeat (first | with_reducible exact Below.refl _ _ | with_reducible apply Below.drew | with_reducible refine below_drewN ?_ _ | (with_reducible refine Below.setCell ?_ ?_ _; rotate_left; focus (first | omega | (simp <;> omega))) | (with_reducible refine Below.alloc ?_ ?_ _; rotate_left; focus (first | omega | (simp <;> omega)))))
  have HE2 := Lib.hid (E1.below b2 E1.lt)
  have HF2 := Lib.hid (F1.below b2 F1.lt)
  have HL2 := Lib.hid (HL1.out.below b2)
  have HB2 := Lib.hid (B1.out.trans (b2.mono B1.out.size))
  have l0 : w.heap.size < w1.heap.size := E1.lt
  have l1 : w.heap.size + 1 < w1.heap.size := F1.lt
  have HR2 := Lib.hid hR
  clear E1 F1 HL1 B1 b2 hR
  have HS2 : Hid (w1.heap.size + 1 = (w1.alloc (.cells #[.int .i64 (X + 1), .int .i64 (Y + 1), .int .i64 ((Wn - 2 : Nat) : Int), .int .i64 ((Hn - 2 : Nat) : Int)] 23)).heap.size) := Lib.hid (by simp)
  go_wp2_with fail
  generalize w1.alloc (.cells #[.int .i64 (X + 1), .int .i64 (Y + 1), .int .i64 ((Wn - 2 : Nat) : Int), .int .i64 ((Hn - 2 : Nat) : Int)] 23) = w2 at *
  refine (KM.out _ _ HL2.out HE2.out).mono ?_
  rintro e w3 ⟨⟨g, cap, rfl, ho⟩, b3⟩
  have HO3 := Lib.hid ho
  have HF3 := Lib.hid (HF2.out.below b3 HF2.out.lt)
  have HB3 := Lib.hid (HB2.out.trans (b3.mono HB2.out.size))
  clear ho b3 KM HE2 HL2
  go_wp2_with fail
  refine (KR.out _ _ _ _ _ _ _ _ HO3.out).mono ?_
  rintro e w4 ⟨⟨x, y, p, q, a, m, k, rfl, o4⟩, b4⟩
  have HOZ := Lib.hid o4
  have HFZ := Lib.hid (HF3.out.below b4 HF3.out.lt)
  have HBZ := Lib.hid (HB3.out.trans (b4.mono HB3.out.size))
  have HZB : Hid (w.heap.size + 1 < w2.heap.size) := HF2.out.lt
  have HBB : Hid (w.heap.size ≤ w2.heap.size) := HB2.out.size
  clear o4 b4 KR HO3 HF3 HB3 HF2 HB2 l0 l1
  obtain ⟨d0, d1, d2, d3, d4⟩ := HFZ.out.cells
  have qf0 := HFZ.out.frozen 0
  have qf1 := HFZ.out.frozen 1
  have qf2 := HFZ.out.frozen 2
  have qf3 := HFZ.out.frozen 3
  have qf4 := HFZ.out.frozen 4
  have lz := HFZ.out.lt
  go_wp2_with fail
  generalize hW5 : ((((w4.setCell ⟨w.heap.size + 1, 0, none⟩ (.int .i64 x)).setCell ⟨w.heap.size + 1, 1, none⟩ (.int .i64 y)).setCell ⟨w.heap.size + 1, 2, none⟩ (.int .i64 p)).setCell ⟨w.heap.size + 1, 3, none⟩ (.int .i64 q)).setCell ⟨w.heap.size + 1, 4, none⟩ (.slice a m k) = W5 at *
  obtain ⟨f5, bb5, oo5, _, z5⟩ := fld_store w4 (w.heap.size + 1) 0 0 0 0 _ x y p q (.slice a m k) HFZ.out W5 hW5.symm
  have hO5 := (HOZ.out.set oo5 HZB.out).base HBB.out
  have hB5 := HBZ.out.trans (bb5.mono (by omega))
  clear d0 d1 d2 d3 d4 qf0 qf1 qf2 qf3 qf4 hW5 oo5
  obtain ⟨d0, d1, d2, d3, d4⟩ := f5.cells
  exact bodyPost_ret (v := .tuple #[fldV x y p q a m k, .int .i64 C]) (by simp [results, Try.results79, go_sem, *]) rfl ⟨⟨x, y, p, q, a, m, k, rfl, hO5⟩, hB5⟩

theorem refinner_rno (X Y : Int) (Wn Hn : Nat) (a : Option Addr) (n c : Nat) (l : List Nat) (w : World) (hr : Right X Y Wn Hn l) (hx : -1000000 ≤ X ∧ X ≤ 1000000 ∧ -1000000 ≤ Y ∧ Y ≤ 1000000) (h : Wn < 3 ∨ Hn < 3) :
    Calls Try.prog 162 #[fldV X Y Wn Hn a n c, .int .i64 1] w fun e w' => e = .returned (.tuple #[reg 0 0 0 0, .int .i64 10]) ∧ Below w.heap.size w w' := by
  have g1 := hr.w2; have g2 := hr.h2; have g7 := hr.w1; have g8 := hr.h1
  exact refinner_no X Y Wn Hn a n c 1 w (by omega) (by omega) (by omega) (by omega) (by omega) (by omega) (by omega) (by omega) (by omega) (by omega)
theorem refinner_ryes (X Y : Int) (Wn Hn : Nat) (a : Option Addr) (n c : Nat) (l : List Nat) (w : World) (hr : Right X Y Wn Hn l) (h3 : 3 ≤ Wn) (h4 : 3 ≤ Hn) :
    Calls Try.prog 162 #[fldV X Y Wn Hn a n c, .int .i64 1] w fun e w' => e = .returned (.tuple #[reg (X + 1) (Y + 1) ((Wn - 2 : Nat) : Int) ((Hn - 2 : Nat) : Int), .int .i64 0]) ∧ Below w.heap.size w w' := by
  have g1 := hr.w2; have g2 := hr.h2; have g3 := hr.x1; have g4 := hr.x2; have g5 := hr.y1; have g6 := hr.y2
  exact refinner_reg X Y Wn Hn a n c 1 w (by omega) (by omega) (by omega) (by omega) (by omega) (by omega) (by omega) (by omega) (by omega)

theorem refslope_no (X Y : Int) (Wn Hn : Nat) (b o c : Nat) (l : List Nat) (w : World) (hl : SRow w (some ⟨b, o, none⟩) l) (hr : Right X Y Wn Hn l) (hx : -1000000 ≤ X ∧ X ≤ 1000000 ∧ -1000000 ≤ Y ∧ Y ≤ 1000000) (h : Wn < 3 ∨ Hn < 3) :
    Calls Try.prog 80 #[fldV X Y Wn Hn (some ⟨b, o, none⟩) l.length c] w fun e w' => e = .returned (.tuple #[fldV 0 0 0 0 none 0 0, .int .i64 10]) ∧ Below w.heap.size w w' := by
  have KI := Lib.hid (fun w => refinner_rno X Y Wn Hn (some ⟨b, o, none⟩) l.length c l w hr hx h)
  have HL := Lib.hid hl
  clear hl hr h hx
  go_enter Try.func80, Try.ntmps80
  go_wp2_with fail
  generalize hW0 : (w.alloc (.cells #[.int .i64 X, .int .i64 Y, .int .i64 Wn, .int .i64 Hn, .slice (some ⟨b, o, none⟩) l.length c] 36)).alloc (.cells #[.int .i64 0, .int .i64 0, .int .i64 0, .int .i64 0, .slice none 0 0] 36) = W0 at *
  obtain ⟨E0, F0, B0, z0⟩ := two_fields w X Y Wn Hn (.slice (some ⟨b, o, none⟩) l.length c) W0 hW0.symm
  clear hW0
  refine (KI.out _).mono ?_
  rintro e w1 ⟨rfl, b1⟩
  have E1 := E0.below b1 E0.lt
  have F1 := F0.below b1 F0.lt
  have HL1 := Lib.hid ((HL.out.below B0).below b1)
  have B1 := Lib.hid (B0.trans (b1.mono B0.size))
  clear b1 B0 F0 E0 z0 KI HL
  have l1 := F1.lt
  obtain ⟨d0, d1, d2, d3, d4⟩ := F1.cells
  have qf0 := F1.frozen 0
  have qf1 := F1.frozen 1
  have qf2 := F1.frozen 2
  have qf3 := F1.frozen 3
  have qf4 := F1.frozen 4
  clear F1 E1
  go_wp2_with fail
  have B2 := B1.out
  exact bodyPost_ret (v := .tuple #[fldV 0 0 0 0 none 0 0, .int .i64 10]) (by simp [results, Try.results80, go_sem, *]) rfl ⟨rfl, (by have hszz := B2.size; repeat (first | with_reducible exact B2 | with_reducible apply Below.drew | with_reducible refine below_drewN ?_ _ | (with_reducible refine Below.setCell ?_ ?_ _; rotate_left; focus (first | omega | (simp <;> omega))) | (with_reducible refine Below.alloc ?_ ?_ _; rotate_left; focus (first | omega | (simp <;> omega)))))⟩
set_option maxRecDepth 100000 in
theorem refslope_ok (X Y : Int) (Wn Hn : Nat) (b o c : Nat) (l : List Nat) (w : World) (hl : SRow w (some ⟨b, o, none⟩) l) (hr : Right X Y Wn Hn l) (h3 : 3 ≤ Wn) (h4 : 3 ≤ Hn) :
    Calls Try.prog 80 #[fldV X Y Wn Hn (some ⟨b, o, none⟩) l.length c] w fun e w' => OpP (resC (innerL slopeF X Y Wn Hn l)) (X + 1) (Y + 1) ((Wn - 2 : Nat) : Int) ((Hn - 2 : Nat) : Int) (innerL slopeF X Y Wn Hn l) w e w' := by
  have KI := Lib.hid (fun w => refinner_ryes X Y Wn Hn (some ⟨b, o, none⟩) l.length c l w hr h3 h4)
  have KM := Lib.hid (fun q w hl (hq : Fld w q X Y Wn Hn (.slice (some ⟨b, o, none⟩) l.length c)) => made_inner 186 #[.pointer (some ⟨q, 0, none⟩)] slopeF X Y Wn Hn l w hr h3 h4 (enters_of Try.func186 (by kernel_rfl) rfl) (fun k => Ieee.Format.rootF_lt _) (fun x y k hk W' hb => refslope_fn X Y Wn Hn x y b o c k q l W' (SRow.below hl hb) hr hk (hq.below hb hq.lt)))
  have HL := Lib.hid hl
  clear hl hr h3 h4
  generalize innerL slopeF X Y Wn Hn l = S at *
  generalize resC S = C at *
  go_enter Try.func80, Try.ntmps80
  go_wp2_with fail
  generalize hW0 : (w.alloc (.cells #[.int .i64 X, .int .i64 Y, .int .i64 Wn, .int .i64 Hn, .slice (some ⟨b, o, none⟩) l.length c] 36)).alloc (.cells #[.int .i64 0, .int .i64 0, .int .i64 0, .int .i64 0, .slice none 0 0] 36) = W0 at *
  obtain ⟨E0, F0, B0, z0⟩ := two_fields w X Y Wn Hn (.slice (some ⟨b, o, none⟩) l.length c) W0 hW0.symm
  clear hW0
  refine (KI.out _).mono ?_
  rintro e w1 ⟨rfl, b1⟩
  have E1 := E0.below b1 E0.lt
  have F1 := F0.below b1 F0.lt
  have HL1 := Lib.hid ((HL.out.below B0).below b1)
  have B1 := Lib.hid (B0.trans (b1.mono B0.size))
  clear b1 B0 F0 E0 z0 KI HL
  have hR := Reg.new w1 (X + 1) (Y + 1) ((Wn - 2 : Nat) : Int) ((Hn - 2 : Nat) : Int)
  have b2 : Below w1.heap.size w1 (w1.alloc (.cells #[.int .i64 (X + 1), .int .i64 (Y + 1), .int .i64 ((Wn - 2 : Nat) : Int), .int .i64 ((Hn - 2 : Nat) : Int)] 23)) := (by repeat (first | with_reducible exact Below.refl _ _ | with_reducible apply Below.drew | with_reducible refine below_drewN ?_ _ | (with_reducible refine Below.setCell ?_ ?_ _; rotate_left; focus (first | omega | (simp <;> omega))) | (with_reducible refine Below.alloc ?_ ?_ _; rotate_left; focus (first | omega | (simp <;> omega)))))
  have HE2 := Lib.hid (E1.below b2 E1.lt)
  have HF2 := Lib.hid (F1.below b2 F1.lt)
  have HL2 := Lib.hid (HL1.out.below b2)
  have HB2 := Lib.hid (B1.out.trans (b2.mono B1.out.size))
  have l0 : w.heap.size < w1.heap.size := E1.lt
  have l1 : w.heap.size + 1 < w1.heap.size := F1.lt
  have HR2 := Lib.hid hR
  clear E1 F1 HL1 B1 b2 hR
  have HS2 : Hid (w1.heap.size + 1 = (w1.alloc (.cells #[.int .i64 (X + 1), .int .i64 (Y + 1), .int .i64 ((Wn - 2 : Nat) : Int), .int .i64 ((Hn - 2 : Nat) : Int)] 23)).heap.size) := Lib.hid (by simp)
  go_wp2_with fail
  generalize w1.alloc (.cells #[.int .i64 (X + 1), .int .i64 (Y + 1), .int .i64 ((Wn - 2 : Nat) : Int), .int .i64 ((Hn - 2 : Nat) : Int)] 23) = w2 at *
  refine (KM.out _ _ HL2.out HE2.out).mono ?_
  rintro e w4 ⟨⟨x, y, p, q, a, m, k, rfl, o4⟩, b4⟩
  have HOZ := Lib.hid o4
  have HFZ := Lib.hid (HF2.out.below b4 HF2.out.lt)
  have HBZ := Lib.hid (HB2.out.trans (b4.mono HB2.out.size))
  have HZB : Hid (w.heap.size + 1 < w2.heap.size) := HF2.out.lt
  have HBB : Hid (w.heap.size ≤ w2.heap.size) := HB2.out.size
  clear o4 b4 KM HE2 HL2 HF2 HB2 l0 l1
  obtain ⟨d0, d1, d2, d3, d4⟩ := HFZ.out.cells
  have qf0 := HFZ.out.frozen 0
  have qf1 := HFZ.out.frozen 1
  have qf2 := HFZ.out.frozen 2
  have qf3 := HFZ.out.frozen 3
  have qf4 := HFZ.out.frozen 4
  have lz := HFZ.out.lt
  go_wp2_with fail
  generalize hW5 : ((((w4.setCell ⟨w.heap.size + 1, 0, none⟩ (.int .i64 x)).setCell ⟨w.heap.size + 1, 1, none⟩ (.int .i64 y)).setCell ⟨w.heap.size + 1, 2, none⟩ (.int .i64 p)).setCell ⟨w.heap.size + 1, 3, none⟩ (.int .i64 q)).setCell ⟨w.heap.size + 1, 4, none⟩ (.slice a m k) = W5 at *
  obtain ⟨f5, bb5, oo5, _, z5⟩ := fld_store w4 (w.heap.size + 1) 0 0 0 0 _ x y p q (.slice a m k) HFZ.out W5 hW5.symm
  have hO5 := (HOZ.out.set oo5 HZB.out).base HBB.out
  have hB5 := HBZ.out.trans (bb5.mono (by omega))
  clear d0 d1 d2 d3 d4 qf0 qf1 qf2 qf3 qf4 hW5 oo5
  obtain ⟨d0, d1, d2, d3, d4⟩ := f5.cells
  exact bodyPost_ret (v := .tuple #[fldV x y p q a m k, .int .i64 C]) (by simp [results, Try.results80, go_sem, *]) rfl ⟨⟨x, y, p, q, a, m, k, rfl, hO5⟩, hB5⟩

theorem op_pair (f g : Nat) (caps : Array Value) (X Y : Int) (Wn Hn : Nat) (b o c : Nat) (l : List Nat) (φ : Nat → Nat → Nat → Nat → Nat → Nat) (hr : Right X Y Wn Hn l)
    (n1 : Wn < 3 ∨ Hn < 3 → ∀ w, SRow w (some ⟨b, o, none⟩) l → Calls Try.prog f (#[fldV X Y Wn Hn (some ⟨b, o, none⟩) l.length c] ++ caps) w fun e w' => e = .returned (.tuple #[fldV 0 0 0 0 none 0 0, .int .i64 10]) ∧ Below w.heap.size w w')
    (n2 : Wn < 3 ∨ Hn < 3 → ∀ w, SRow w (some ⟨b, o, none⟩) l → Calls Try.prog g (#[fldV X Y Wn Hn (some ⟨b, o, none⟩) l.length c] ++ caps) w fun e w' => e = .returned (.tuple #[fldV 0 0 0 0 none 0 0, .int .i64 10]) ∧ Below w.heap.size w w')
    (y1 : 3 ≤ Wn → 3 ≤ Hn → ∀ w, SRow w (some ⟨b, o, none⟩) l → Calls Try.prog f (#[fldV X Y Wn Hn (some ⟨b, o, none⟩) l.length c] ++ caps) w fun e w' => OpP (resC (innerL φ X Y Wn Hn l)) (X + 1) (Y + 1) ((Wn - 2 : Nat) : Int) ((Hn - 2 : Nat) : Int) (innerL φ X Y Wn Hn l) w e w')
    (y2 : 3 ≤ Wn → 3 ≤ Hn → ∀ w, SRow w (some ⟨b, o, none⟩) l → Calls Try.prog g (#[fldV X Y Wn Hn (some ⟨b, o, none⟩) l.length c] ++ caps) w fun e w' => OpP (resC (innerL φ X Y Wn Hn l)) (X + 1) (Y + 1) ((Wn - 2 : Nat) : Int) ((Hn - 2 : Nat) : Int) (innerL φ X Y Wn Hn l) w e w') :
    ∃ (C X1 Y1 W1 H1 : Int) (S : List Nat), (S.length ≤ 1099511627776 ∧ (S = [] ∨ S = innerL φ X Y Wn Hn l)) ∧
      (∀ w, SRow w (some ⟨b, o, none⟩) l → Calls Try.prog f (#[fldV X Y Wn Hn (some ⟨b, o, none⟩) l.length c] ++ caps) w fun e w' => OpP C X1 Y1 W1 H1 S w e w') ∧
      (∀ w, SRow w (some ⟨b, o, none⟩) l → Calls Try.prog g (#[fldV X Y Wn Hn (some ⟨b, o, none⟩) l.length c] ++ caps) w fun e w' => OpP C X1 Y1 W1 H1 S w e w') := by
  by_cases h : Wn < 3 ∨ Hn < 3
  · refine ⟨10, 0, 0, 0, 0, [], ⟨by simp, .inl rfl⟩, fun w hl => ?_, fun w hl => ?_⟩
    · exact (n1 h w hl).mono fun e w' ⟨h1, h2⟩ => OpP.err (by decide) h1 h2
    · exact (n2 h w hl).mono fun e w' ⟨h1, h2⟩ => OpP.err (by decide) h1 h2
  · exact ⟨_, _, _, _, _, _, ⟨innerL_small φ hr, .inr rfl⟩, fun w hl => y1 (by omega) (by omega) w hl, fun w hl => y2 (by omega) (by omega) w hl⟩
end Go.Proofs.Ytnfebeebjelgbaa
