import Derived.Test.YtnfebeebjelgbaaTerOp
import Derived.Test.YtnfebeebjelgbaaAdded
import Derived.Deep.RegionHeld3
namespace Go.Proofs.Ytnfebeebjelgbaa
open Go.ChangeShapes Go.WideShapes Go.ChangeAt Go.RowKit
open Ieee.Format (fin finE htE allFin allHt all_true all_false mulF subF addF Ht Bd divF rootF floorF easeF mixF)
set_option linter.unusedVariables false

theorem box_fm (w : World) (X Y W H : Int) (v : Value) (c1 : Array Value) (t : TypeId) : ∀ W0, W0 = ((w.alloc (.cells #[.int .i64 X, .int .i64 Y, .int .i64 W, .int .i64 H, v] 36)).alloc (.cells c1 t)).alloc (.cells #[.int .i64 0, .int .i64 0, .int .i64 0, .int .i64 0, .slice none 0 0] 36) →
    Fld W0 w.heap.size X Y W H v ∧ Blk W0 (w.heap.size + 1) c1 t ∧ Fld W0 (w.heap.size + 1 + 1) 0 0 0 0 (.slice none 0 0) ∧ Below w.heap.size w W0 := by
  rintro _ rfl
  refine ⟨((Fld.new w X Y W H v).alloc _).alloc _, ?_, ?_, (by repeat (first | with_reducible exact Below.refl _ _ | with_reducible apply Below.drew | with_reducible refine below_drewN ?_ _ | (with_reducible refine Below.setCell ?_ ?_ _; rotate_left; focus (first | omega | (simp <;> omega))) | (with_reducible refine Below.alloc ?_ ?_ _; rotate_left; focus (first | omega | (simp <;> omega)))))⟩
  · have := (Blk.new (w.alloc (.cells #[.int .i64 X, .int .i64 Y, .int .i64 W, .int .i64 H, v] 36)) c1 t).alloc (.cells #[.int .i64 0, .int .i64 0, .int .i64 0, .int .i64 0, .slice none 0 0] 36)
    simpa using this
  · have := Fld.new ((w.alloc (.cells #[.int .i64 X, .int .i64 Y, .int .i64 W, .int .i64 H, v] 36)).alloc (.cells c1 t)) 0 0 0 0 (.slice none 0 0)
    simpa using this

/-- the field's values, each given with its place to a function -/
def addL (φ : Int → Int → Nat → Nat) (X Y : Int) (Wn Hn : Nat) (l : List Nat) : List Nat := madeL (fun x y => φ x y (l.getD (cellNo X Y Wn x y).toNat 0)) X Y Wn (Hn * Wn)
theorem addL_small (φ : Int → Int → Nat → Nat) {X Y : Int} {Wn Hn : Nat} {l : List Nat} (hr : Right X Y Wn Hn l) : (addL φ X Y Wn Hn l).length ≤ 1099511627776 := by
  unfold addL
  rw [madeL_len]
  have := hr.small
  rw [hr.len] at this
  exact this

set_option maxRecDepth 100000 in
set_option maxHeartbeats 1000000 in
theorem added_any (gn : Nat) (caps : Array Value) (φ : Int → Int → Nat → Nat) (X Y : Int) (Wn Hn : Nat) (b o c : Nat) (l : List Nat) (w : World) (hl : SRow w (some ⟨b, o, none⟩) l) (hr : Right X Y Wn Hn l)
    (eg : ∀ args w, (callFunc gn args).run Try.prog w = .ok (.enter gn args) w) (hφ : ∀ x y v, φ x y v < 4294967296)
    (hf : ∀ x y v, X ≤ x → x < X + Wn → Y ≤ y → y < Y + Hn → Bd 20 v → ∀ W', Below w.heap.size w W' → Calls Try.prog gn (#[.int .i64 x, .int .i64 y, .float .f32 v] ++ caps) W' fun e w' => e = .returned (.float .f32 (φ x y v)) ∧ Below W'.heap.size W' w') :
    Calls Try.prog 152 #[fldV X Y Wn Hn (some ⟨b, o, none⟩) l.length c, .func (.func gn) #[] caps] w fun e w' => OpP (resC (addL φ X Y Wn Hn l)) X Y Wn Hn (addL φ X Y Wn Hn l) w e w' := by
  have HL := Lib.hid hl
  have HBL : Hid (b < w.heap.size) := SRow.blt hl hr.pos
  have g1 := hr.w1; have g2 := hr.w2; have g3 := hr.h1; have g4 := hr.h2; have g5 := hr.x1; have g6 := hr.x2; have g7 := hr.y1; have g8 := hr.y2
  have KM := Lib.hid (fun p q pm w1 (hl1 : SRow w1 (some ⟨b, o, none⟩) l) (hq : Fld w1 q X Y Wn Hn (.slice (some ⟨b, o, none⟩) l.length c)) (hm : Blk w1 pm #[.func (.func gn) #[] caps] 152) (hp : CntAt w1 p (-1)) (qp : q ≠ p) (bp : b ≠ p) (pmp : pm ≠ p) (wp : w.heap.size ≤ p) (hB : Below w.heap.size w w1) =>
    make_cnt 214 #[.pointer (some ⟨p, 0, none⟩), .pointer (some ⟨pm, 0, none⟩), .pointer (some ⟨q, 0, none⟩)] p (fun x y => φ x y (l.getD (cellNo X Y Wn x y).toNat 0)) X Y Wn Hn w1 (by omega) (by omega) (by omega) (by omega) (by omega) (by omega) (by omega) (by omega)
      (enters_of Try.func214 (by kernel_rfl) rfl) hp (fun x y => hφ _ _ _)
      (fun i j k hi hj hk W' hb' hcnt => by
        have hpl := hp.lt
        have hpl' := hcnt.lt
        have e := cell_ij (X := X) (Y := Y) hk
        have hkl : k < l.length := by rw [hr.len]; exact cell_lt hi hj hk
        show Calls Try.prog _ _ W' fun e w' => e = .returned (.float .f32 (φ (X + (i : Int)) (Y + (j : Int)) (l.getD (cellNo X Y Wn (X + (i : Int)) (Y + (j : Int))).toNat 0))) ∧ _
        rw [e]
        exact addedfn_any gn caps _ (X + (i : Int)) (Y + (j : Int)) p q b o c pm k X Y Wn Hn l _ W' ⟨hcnt, hq.but hb' hq.lt qp, SRow.but hl1 hb' (SRow.blt hl1 hr.pos) bp, qp, bp, hkl, by have := hb'.size; have := SRow.blt hl1 hr.pos; omega⟩
          (hm.but hb' hm.lt pmp) pmp eg (fun W'' hb'' => hf _ _ _ (by omega) (by omega) (by omega) (by omega) (hr.bd k) W'' ((hB.trans ((hb'.lowp (by omega)).mono wp)).trans ((hb''.lowp (by omega)).mono wp)))))
  have KR := Lib.hid (fun X1 Y1 W1 H1 g cap B w ho => result_any X1 Y1 W1 H1 g cap B (addL φ X Y Wn Hn l) w ho (addL_small φ hr))
  change Hid (∀ p q pm w1 (hl1 : SRow w1 (some ⟨b, o, none⟩) l) (hq : Fld w1 q X Y Wn Hn (.slice (some ⟨b, o, none⟩) l.length c)) (hm : Blk w1 pm #[.func (.func gn) #[] caps] 152) (hp : CntAt w1 p (-1)) (qp : q ≠ p) (bp : b ≠ p) (pmp : pm ≠ p) (wp : w.heap.size ≤ p) (hB : Below w.heap.size w w1),
    Calls Try.prog 94 #[reg X Y Wn Hn, .func (.func 214) #[] #[.pointer (some ⟨p, 0, none⟩), .pointer (some ⟨pm, 0, none⟩), .pointer (some ⟨q, 0, none⟩)]] w1 fun e w' => MakeCP p X Y Wn Hn (addL φ X Y Wn Hn l) w1 e w') at KM
  clear hl hr eg hφ hf g1 g2 g3 g4 g5 g6 g7 g8
  generalize addL φ X Y Wn Hn l = S at *
  generalize resC S = C at *
  go_enter Try.func152, Try.ntmps152
  go_wp2_with fail
  generalize hW0 : ((w.alloc (.cells #[.int .i64 X, .int .i64 Y, .int .i64 Wn, .int .i64 Hn, .slice (some ⟨b, o, none⟩) l.length c] 36)).alloc (.cells #[.func (.func gn) #[] caps] 152)).alloc (.cells #[.int .i64 0, .int .i64 0, .int .i64 0, .int .i64 0, .slice none 0 0] 36) = W0 at *
  obtain ⟨E0, P0, F0, B0⟩ := box_fm w X Y Wn Hn (.slice (some ⟨b, o, none⟩) l.length c) #[.func (.func gn) #[] caps] 152 W0 hW0.symm
  have hz0 : W0.heap.size = w.heap.size + 1 + 1 + 1 := by subst hW0; simp
  clear hW0
  generalize hW3 : W0.alloc (.cells #[.int .i64 (-1)] 3) = W3 at *
  obtain ⟨n3, B3, z3⟩ := cnt_world1 W0 W3 hW3.symm
  clear hW3
  have HE3 := Lib.hid (E0.below B3 E0.lt)
  have HP3 := Lib.hid (P0.below B3 P0.lt)
  have HF3 := Lib.hid (F0.below B3 F0.lt)
  have HL3 := Lib.hid ((HL.out.below B0).below B3)
  have HB3 := Lib.hid (B0.trans (B3.mono B0.size))
  rw [hz0] at n3
  refine (KM.out _ _ _ _ HL3.out HE3.out HP3.out n3 (by omega) (by have := HBL.out; omega) (by omega) (by omega) HB3.out).mono ?_
  rintro e w4 ⟨⟨g, cap, rfl, ho⟩, b4⟩
  have HF4 := Lib.hid (HF3.out.below b4 (by omega))
  have HB4 := Lib.hid (HB3.out.trans (b4.mono (by omega)))
  have HO4 := Lib.hid ho
  have HZ3 : Hid (w.heap.size + 1 + 1 < W3.heap.size) := HF3.out.lt
  clear ho b4 KM HE3 HP3 HL3 HB3 B3 B0 E0 P0 F0 n3 z3 hz0 HF3
  go_wp2_with fail
  refine (KR.out _ _ _ _ _ _ _ _ HO4.out).mono ?_
  rintro e w7 ⟨⟨x, y, p, q, a, m, k, rfl, o7⟩, b7⟩
  have HOZ := Lib.hid o7
  have HFZ := Lib.hid (HF4.out.below b7 HF4.out.lt)
  have HBZ := Lib.hid (HB4.out.trans (b7.mono HB4.out.size))
  have HZB : Hid (w.heap.size + 1 + 1 < W3.heap.size) := HZ3.out
  have HBB : Hid (w.heap.size ≤ W3.heap.size) := by have := HZB.out; unfold Hid; omega
  clear o7 b7 KR HO4 HF4 HB4
  obtain ⟨d0, d1, d2, d3, d4⟩ := HFZ.out.cells
  have qf0 := HFZ.out.frozen 0
  have qf1 := HFZ.out.frozen 1
  have qf2 := HFZ.out.frozen 2
  have qf3 := HFZ.out.frozen 3
  have qf4 := HFZ.out.frozen 4
  have lz := HFZ.out.lt
  go_wp2_with fail
  generalize hW5 : ((((w7.setCell ⟨w.heap.size + 1 + 1, 0, none⟩ (.int .i64 x)).setCell ⟨w.heap.size + 1 + 1, 1, none⟩ (.int .i64 y)).setCell ⟨w.heap.size + 1 + 1, 2, none⟩ (.int .i64 p)).setCell ⟨w.heap.size + 1 + 1, 3, none⟩ (.int .i64 q)).setCell ⟨w.heap.size + 1 + 1, 4, none⟩ (.slice a m k) = W5 at *
  obtain ⟨f5, bb5, oo5, _, z5⟩ := fld_store w7 (w.heap.size + 1 + 1) 0 0 0 0 _ x y p q (.slice a m k) HFZ.out W5 hW5.symm
  have hO5 := (HOZ.out.set oo5 HZB.out).base HBB.out
  have hB5 := HBZ.out.trans (bb5.mono (by omega))
  clear d0 d1 d2 d3 d4 qf0 qf1 qf2 qf3 qf4 hW5 oo5
  obtain ⟨d0, d1, d2, d3, d4⟩ := f5.cells
  exact bodyPost_ret (v := .tuple #[fldV x y p q a m k, .int .i64 C]) (by simp [results, Try.results152, go_sem, *]) rfl ⟨⟨x, y, p, q, a, m, k, rfl, hO5⟩, hB5⟩
end Go.Proofs.Ytnfebeebjelgbaa
