import Derived.Test.YtnfebeebjelgbaaPartFn
import Derived.Test.YtnfebeebjelgbaaContains
import Derived.Test.YtnfebeebjelgbaaWear
namespace Go.Proofs.Ytnfebeebjelgbaa
open Go.ChangeShapes Go.WideShapes Go.ChangeAt Go.RowKit
open Ieee.Format (fin finE htE allFin allHt all_true all_false mulF subF addF Ht Bd divF rootF floorF easeF mixF)
set_option linter.unusedVariables false

/-! ### Fill -/
theorem MakeP.outw {X Y W H : Int} {m : List Nat} {w : World} {e : Ending} {w' : World} (h : MakeP X Y W H m w e w') : (∃ x y p q a n k, e = .returned (fldV x y p q a n k) ∧ OutV 0 X Y W H m w' w.heap.size x y p q a n k) ∧ Below w.heap.size w w' := by
  obtain ⟨⟨g, cap, he, ho⟩, hb⟩ := h
  exact ⟨⟨X, Y, W, H, _, _, cap, he, .inr ⟨rfl, rfl, rfl, rfl, rfl, g, rfl, rfl, ho⟩⟩, hb⟩
theorem fillfn_any (h : Nat) (x y : Int) (p : Nat) (w : World) (hp : Blk w p #[.float .f32 h] 37) :
    Calls Try.prog 95 #[.int .i64 x, .int .i64 y, .pointer (some ⟨p, 0, none⟩)] w fun e w' => e = .returned (.float .f32 h) ∧ Below w.heap.size w w' := by
  have c0 : w.cell? ⟨p, 0, none⟩ = some (.float .f32 h) := hp.cell 0
  have l0 := hp.lt
  clear hp
  go_enter Try.func95, Try.ntmps95
  go_wp2_with fail
  go_ret
  exact ⟨rfl, (by repeat (first | with_reducible exact Below.refl _ _ | with_reducible apply Below.drew | with_reducible refine below_drewN ?_ _ | (with_reducible refine Below.setCell ?_ ?_ _; rotate_left; focus (first | omega | (simp <;> omega))) | (with_reducible refine Below.alloc ?_ ?_ _; rotate_left; focus (first | omega | (simp <;> omega)))))⟩
/-- the error of Fill -/
def fillE (X Y W H : Int) (h : Nat) : Int := if chk X Y W H ≠ 0 then chk X Y W H else htE [h]

theorem box_rg (w : World) (X Y W H : Int) (c1 : Array Value) (t1 : TypeId) : ∀ W0, W0 = ((w.alloc (.cells #[.int .i64 X, .int .i64 Y, .int .i64 W, .int .i64 H] 23)).alloc (.cells c1 t1)).alloc (.cells #[.int .i64 0, .int .i64 0, .int .i64 0, .int .i64 0, .slice none 0 0] 36) →
    Reg W0 w.heap.size X Y W H ∧ Blk W0 (w.heap.size + 1) c1 t1 ∧ Fld W0 (w.heap.size + 1 + 1) 0 0 0 0 (.slice none 0 0) ∧ Below w.heap.size w W0 := by
  rintro _ rfl
  refine ⟨((Reg.new w X Y W H).alloc _).alloc _, ?_, ?_, (by repeat (first | with_reducible exact Below.refl _ _ | with_reducible apply Below.drew | with_reducible refine below_drewN ?_ _ | (with_reducible refine Below.setCell ?_ ?_ _; rotate_left; focus (first | omega | (simp <;> omega))) | (with_reducible refine Below.alloc ?_ ?_ _; rotate_left; focus (first | omega | (simp <;> omega)))))⟩
  · have := (Blk.new (w.alloc (.cells #[.int .i64 X, .int .i64 Y, .int .i64 W, .int .i64 H] 23)) c1 t1).alloc (.cells #[.int .i64 0, .int .i64 0, .int .i64 0, .int .i64 0, .slice none 0 0] 36)
    simpa using this
  · have := Fld.new ((w.alloc (.cells #[.int .i64 X, .int .i64 Y, .int .i64 W, .int .i64 H] 23)).alloc (.cells c1 t1)) 0 0 0 0 (.slice none 0 0)
    simpa using this

set_option maxRecDepth 100000 in
theorem fill_bad (X Y W H : Int) (h : Nat) (w : World) (hh : h < 4294967296) (hz : fillE X Y W H h ≠ 0) :
    Calls Try.prog 22 #[reg X Y W H, .float .f32 h] w fun e w' => e = .returned (.tuple #[fldV 0 0 0 0 none 0 0, .int .i64 (fillE X Y W H h)]) ∧ Below w.heap.size w w' := by
  have K := Lib.hid (fun w => check1 X Y W H w)
  have KC := Lib.hid (fun W g h0 => heights_one W g h hh h0)
  unfold fillE at hz ⊢
  by_cases hc : chk X Y W H ≠ 0
  · rw [if_pos hc]
    clear KC hz
    generalize chk X Y W H = a at *
    have hb' : (a != 0) = true := by rw [bne_iff_ne]; exact hc
    clear hc
    go_enter Try.func22, Try.ntmps22
    go_wp2_with fail
    generalize hW0 : ((w.alloc (.cells #[.int .i64 X, .int .i64 Y, .int .i64 W, .int .i64 H] 23)).alloc (.cells #[.float .f32 h] 37)).alloc (.cells #[.int .i64 0, .int .i64 0, .int .i64 0, .int .i64 0, .slice none 0 0] 36) = W0 at *
    obtain ⟨E0, P0, F0, B0⟩ := box_rg w X Y W H #[.float .f32 h] 37 W0 hW0.symm
    clear hW0
    refine (K.out _).mono ?_
    rintro e w1 ⟨rfl, b1⟩
    have HE1 := Lib.hid (E0.below b1 E0.lt)
    have HP1 := Lib.hid (P0.below b1 P0.lt)
    have HF1 := Lib.hid (F0.below b1 F0.lt)
    have HB1 := Lib.hid (B0.trans (b1.mono B0.size))
    clear b1 B0 F0 E0 P0 K
    obtain ⟨d0, d1, d2, d3, d4⟩ := HF1.out.cells
    have qf0 := HF1.out.frozen 0
    have qf1 := HF1.out.frozen 1
    have qf2 := HF1.out.frozen 2
    have qf3 := HF1.out.frozen 3
    have qf4 := HF1.out.frozen 4
    have lz := HF1.out.lt
    go_wp2_with fail
    have B3 := HB1.out
    exact bodyPost_ret (v := .tuple #[fldV 0 0 0 0 none 0 0, .int .i64 a]) (by simp [results, Try.results22, go_sem, *]) rfl ⟨rfl, (by have hszz := B3.size; repeat (first | with_reducible exact B3 | with_reducible apply Below.drew | with_reducible refine below_drewN ?_ _ | (with_reducible refine Below.setCell ?_ ?_ _; rotate_left; focus (first | omega | (simp <;> omega))) | (with_reducible refine Below.alloc ?_ ?_ _; rotate_left; focus (first | omega | (simp <;> omega)))))⟩
  · rw [if_neg hc] at hz ⊢
    rw [show chk X Y W H = 0 by omega] at K
    clear hc
    generalize htE [h] = a at *
    have hb' : (a != 0) = true := by rw [bne_iff_ne]; exact hz
    clear hz
    go_enter Try.func22, Try.ntmps22
    go_wp2_with fail
    generalize hW0 : ((w.alloc (.cells #[.int .i64 X, .int .i64 Y, .int .i64 W, .int .i64 H] 23)).alloc (.cells #[.float .f32 h] 37)).alloc (.cells #[.int .i64 0, .int .i64 0, .int .i64 0, .int .i64 0, .slice none 0 0] 36) = W0 at *
    obtain ⟨E0, P0, F0, B0⟩ := box_rg w X Y W H #[.float .f32 h] 37 W0 hW0.symm
    clear hW0
    refine (K.out _).mono ?_
    rintro e w1 ⟨rfl, b1⟩
    have HE1 := Lib.hid (E0.below b1 E0.lt)
    have HP1 := Lib.hid (P0.below b1 P0.lt)
    have HF1 := Lib.hid (F0.below b1 F0.lt)
    have HB1 := Lib.hid (B0.trans (b1.mono B0.size))
    clear b1 B0 F0 E0 P0 K
    have p1 : w1.cell? ⟨w.heap.size + 1, 0, none⟩ = some (.float .f32 h) := HP1.out.cell 0
    have l2 : w.heap.size + 1 + 1 < w1.heap.size := HF1.out.lt
    have l1 : w.heap.size + 1 < w1.heap.size := by omega
    go_wp2_with fail
    have HS := Lib.hid ((Below.refl w1.heap.size w1).alloc (Nat.le_refl _) (.cells #[.float .f32 h] 37))
    refine (KC.out _ _ (by simp [go_sem])).mono ?_
    rintro e w2 ⟨rfl, rfl⟩
    have HE2 := Lib.hid (HE1.out.below HS.out HE1.out.lt)
    have HP2 := Lib.hid (HP1.out.below HS.out HP1.out.lt)
    have HF2 := Lib.hid (HF1.out.below HS.out HF1.out.lt)
    have HB2 := Lib.hid (HB1.out.trans (HS.out.mono HB1.out.size))
    generalize w1.alloc (.cells #[.float .f32 h] 37) = w2 at *
    clear p1 l2 l1 HE1 HP1 HF1 HB1 HS
    obtain ⟨d0, d1, d2, d3, d4⟩ := HF2.out.cells
    have qf0 := HF2.out.frozen 0
    have qf1 := HF2.out.frozen 1
    have qf2 := HF2.out.frozen 2
    have qf3 := HF2.out.frozen 3
    have qf4 := HF2.out.frozen 4
    have lz := HF2.out.lt
    go_wp2_with fail
    have B3 := HB2.out
    exact bodyPost_ret (v := .tuple #[fldV 0 0 0 0 none 0 0, .int .i64 a]) (by simp [results, Try.results22, go_sem, *]) rfl ⟨rfl, (by have hszz := B3.size; repeat (first | with_reducible exact B3 | with_reducible apply Below.drew | with_reducible refine below_drewN ?_ _ | (with_reducible refine Below.setCell ?_ ?_ _; rotate_left; focus (first | omega | (simp <;> omega))) | (with_reducible refine Below.alloc ?_ ?_ _; rotate_left; focus (first | omega | (simp <;> omega)))))⟩
/-- a field of one value -/
def fillL (h : Nat) (X Y : Int) (A B : Nat) : List Nat := madeL (fun _ _ => h) X Y A (B * A)
theorem fillL_all (h : Nat) (X Y : Int) (A B : Nat) : (fillL h X Y A B).length = B * A ∧ ∀ x ∈ fillL h X Y A B, x = h := by
  unfold fillL madeL
  refine ⟨by simp, fun x hx => ?_⟩
  obtain ⟨_, _, rfl⟩ := List.mem_map.1 hx
  rfl
set_option maxRecDepth 100000 in
set_option maxHeartbeats 1000000 in
theorem fill_ok (X Y : Int) (A B h : Nat) (w : World) (hh : h < 4294967296) (hz : fillE X Y A B h = 0) :
    Calls Try.prog 22 #[reg X Y A B, .float .f32 h] w fun e w' => OpP 0 X Y A B (fillL h X Y A B) w e w' := by
  have K := Lib.hid (fun w => check1 X Y A B w)
  have KC := Lib.hid (fun W g h0 => heights_one W g h hh h0)
  have hc : chk X Y A B = 0 := by
    unfold fillE at hz
    split at hz
    · exact hz
    · omega
  have h1 : htE [h] = 0 := by
    unfold fillE at hz
    rwa [if_neg (by omega)] at hz
  rw [hc] at K
  rw [h1] at KC
  obtain ⟨g1, g2, g3, g4, g5, g6, g7, g8, _⟩ := chk_zero hc
  have KM := Lib.hid (fun pa w1 (ha : Blk w1 pa #[.float .f32 h] 37) => (make_any 95 #[.pointer (some ⟨pa, 0, none⟩)] (fun _ _ => h) X Y A B w1 (by omega) (by omega) (by omega) (by omega) (by omega) (by omega) (by omega) (by omega)
    (enters_of Try.func95 (by kernel_rfl) rfl) (fun x y _ _ _ _ => hh) (fun x y _ _ _ _ W' hb' => fillfn_any h x y pa W' (ha.below hb' ha.lt))).mono fun e w' h => MakeP.outw h)
  change Hid (∀ pa w1 (ha : Blk w1 pa #[.float .f32 h] 37), Calls Try.prog 94 #[reg X Y A B, .func (.func 95) #[] #[.pointer (some ⟨pa, 0, none⟩)]] w1 fun e w' => (∃ x y pp q a n k, e = .returned (fldV x y pp q a n k) ∧ OutV 0 X Y A B (fillL h X Y A B) w' w1.heap.size x y pp q a n k) ∧ Below w1.heap.size w1 w') at KM
  clear hz hc h1 hh g1 g2 g3 g4 g5 g6 g7 g8
  generalize fillL h X Y A B = S at *
  go_enter Try.func22, Try.ntmps22
  go_wp2_with fail
  generalize hW0 : ((w.alloc (.cells #[.int .i64 X, .int .i64 Y, .int .i64 (A : Int), .int .i64 (B : Int)] 23)).alloc (.cells #[.float .f32 h] 37)).alloc (.cells #[.int .i64 0, .int .i64 0, .int .i64 0, .int .i64 0, .slice none 0 0] 36) = W0 at *
  obtain ⟨E0, P0, F0, B0⟩ := box_rg w X Y (A : Int) (B : Int) #[.float .f32 h] 37 W0 hW0.symm
  clear hW0
  refine (K.out _).mono ?_
  rintro e w1 ⟨rfl, b1⟩
  have HE1 := Lib.hid (E0.below b1 E0.lt)
  have HP1 := Lib.hid (P0.below b1 P0.lt)
  have HF1 := Lib.hid (F0.below b1 F0.lt)
  have HB1 := Lib.hid (B0.trans (b1.mono B0.size))
  clear b1 B0 F0 E0 P0 K
  have p1 : w1.cell? ⟨w.heap.size + 1, 0, none⟩ = some (.float .f32 h) := HP1.out.cell 0
  have l2 : w.heap.size + 1 + 1 < w1.heap.size := HF1.out.lt
  have l1 : w.heap.size + 1 < w1.heap.size := by omega
  go_wp2_with fail
  have HS := Lib.hid ((Below.refl w1.heap.size w1).alloc (Nat.le_refl _) (.cells #[.float .f32 h] 37))
  refine (KC.out _ _ (by simp [go_sem])).mono ?_
  rintro e w2 ⟨rfl, rfl⟩
  have HE2 := Lib.hid (HE1.out.below HS.out HE1.out.lt)
  have HP2 := Lib.hid (HP1.out.below HS.out HP1.out.lt)
  have HF2 := Lib.hid (HF1.out.below HS.out HF1.out.lt)
  have HB2 := Lib.hid (HB1.out.trans (HS.out.mono HB1.out.size))
  generalize w1.alloc (.cells #[.float .f32 h] 37) = w2 at *
  clear p1 l2 l1 HE1 HP1 HF1 HB1 HS
  have l3 : w.heap.size + 1 + 1 < w2.heap.size := HF2.out.lt
  obtain ⟨c0, c1, c2, c3⟩ := HE2.out.cells
  have l0 := HE2.out.lt
  go_wp2_with fail
  generalize h = hv at *
  refine (KM.out _ _ HP2.out).mono ?_
  rintro e w7 ⟨⟨x, y, p, q, a, m, k, rfl, o7⟩, b7⟩
  have HOZ := Lib.hid o7
  have HFZ := Lib.hid (HF2.out.below b7 HF2.out.lt)
  have HBZ := Lib.hid (HB2.out.trans (b7.mono HB2.out.size))
  have HZB : Hid (w.heap.size + 1 + 1 < w2.heap.size) := HF2.out.lt
  have HBB : Hid (w.heap.size ≤ w2.heap.size) := HB2.out.size
  clear o7 b7 KM HE2 HP2 HF2 HB2 c0 c1 c2 c3 l0 l3
  obtain ⟨d0, d1, d2, d3, d4⟩ := HFZ.out.cells
  have qf0 := HFZ.out.frozen 0
  have qf1 := HFZ.out.frozen 1
  have qf2 := HFZ.out.frozen 2
  have qf3 := HFZ.out.frozen 3
  have qf4 := HFZ.out.frozen 4
  have lz := HFZ.out.lt
  go_wp2_with fail
  generalize hW5 : ((((w7.setCell ⟨w.heap.size + 1 + 1, 0, none⟩ (.int .i64 x)).setCell ⟨w.heap.size + 1 + 1, 1, none⟩ (.int .i64 y)).setCell ⟨w.heap.size + 1 + 1, 2, none⟩ (.int .i64 p)).setCell ⟨w.heap.size + 1 + 1, 3, none⟩ (.int .i64 q)).setCell ⟨w.heap.size + 1 + 1, 4, none⟩ (.slice a m k) = W5 at *
  obtain ⟨f5, bb5, oo5, _, z5⟩ := fld_store w7 (w.heap.size + 1 + 1) 0 0 0 0 _ x y p q (.slice a m k) HFZ.out W5 hW5.symm
  have hO5 := (HOZ.out.set oo5 HZB.out).base HBB.out
  have hB5 := HBZ.out.trans (bb5.mono (by omega))
  clear d0 d1 d2 d3 d4 qf0 qf1 qf2 qf3 qf4 hW5 oo5
  obtain ⟨d0, d1, d2, d3, d4⟩ := f5.cells
  exact bodyPost_ret (v := .tuple #[fldV x y p q a m k, .int .i64 0]) (by simp [results, Try.results22, go_sem, *]) rfl ⟨⟨x, y, p, q, a, m, k, rfl, hO5⟩, hB5⟩
end Go.Proofs.Ytnfebeebjelgbaa
