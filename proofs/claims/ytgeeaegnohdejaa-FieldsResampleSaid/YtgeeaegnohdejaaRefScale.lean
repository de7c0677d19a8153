import Derived.Test.YtgeeaegnohdejaaScale
import Derived.Test.YtgeeaegnohdejaaSameF
import Derived.Deep.RegionHeld3
namespace Go.Proofs.Ytgeeaegnohdejaa
open Go.Shelf
open Go.ChangeShapes Go.WideShapes Go.ChangeAt Go.RowKit
open Ieee.Format (fin finE htE allFin allHt all_true all_false finE_ok finE_bad htE_ok htE_far htE_bad mulF subF addF Ht scaleF)
set_option linter.unusedVariables false

theorem Right.getD {X Y : Int} {Wn Hn : Nat} {l : List Nat} (h : Right X Y Wn Hn l) (i : Nat) : Ht (l.getD i 0) := by
  rcases Nat.lt_or_ge i l.length with hlt | hge
  · rw [List.getD_eq_getElem?_getD, List.getElem?_eq_getElem hlt]; exact h.ht _ (List.getElem_mem hlt)
  · rw [List.getD_eq_getElem?_getD, List.getElem?_eq_none hge]; show (0 : Nat) % 2147483648 ≤ 1233125376; decide

/-- the reference's At at a right field -/
theorem at_right (X Y : Int) (Wn Hn : Nat) (x y : Int) (b o c : Nat) (l : List Nat) (w : World) (hl : SRow w (some ⟨b, o, none⟩) l) (hr : Right X Y Wn Hn l) (hx : X ≤ x) (hx' : x < X + Wn) (hy : Y ≤ y) (hy' : y < Y + Hn) :
    Calls Try.prog 97 #[fldV X Y Wn Hn (some ⟨b, o, none⟩) l.length c, .int .i64 x, .int .i64 y] w fun e w' => e = .returned (.float .f32 (l.getD (cellNo X Y Wn x y).toNat 0)) ∧ Below w.heap.size w w' := by
  have := hr.w1; have := hr.w2; have := hr.h1; have := hr.h2; have := hr.x1; have := hr.x2; have := hr.y1; have := hr.y2
  exact refat_any X Y Wn Hn x y b o c l w hl (by rw [hr.len, Int.natCast_mul, Int.mul_comm]) (by omega) (by omega) (by omega) (by omega) (by omega) (by omega) (by omega) (by omega) hx hx' hy hy'

set_option maxRecDepth 100000 in
theorem refscale_fn (X Y : Int) (Wn Hn : Nat) (x y : Int) (b o c k p q a d : Nat) (l : List Nat) (w : World) (hl : SRow w (some ⟨b, o, none⟩) l) (hr : Right X Y Wn Hn l) (hx : X ≤ x) (hx' : x < X + Wn) (hy : Y ≤ y) (hy' : y < Y + Hn)
    (hk : Fld w k X Y Wn Hn (.slice (some ⟨b, o, none⟩) l.length c)) (hp : w.cell? ⟨p, 0, none⟩ = some (.float .f32 a)) (hq : w.cell? ⟨q, 0, none⟩ = some (.float .f32 d)) (hpl : p < w.heap.size) (hql : q < w.heap.size) (ha : Ht a) (hd : Ht d) :
    Calls Try.prog 95 #[.int .i64 x, .int .i64 y, .pointer (some ⟨k, 0, none⟩), .pointer (some ⟨p, 0, none⟩), .pointer (some ⟨q, 0, none⟩)] w fun e w' => e = .returned (.float .f32 (scaleF a d (l.getD (cellNo X Y Wn x y).toNat 0))) ∧ Below w.heap.size w w' := by
  have K1 := Lib.hid (fun w' hl => at_right X Y Wn Hn x y b o c l w' hl hr hx hx' hy hy')
  have hz := hr.getD (cellNo X Y Wn x y).toNat
  generalize l.getD (cellNo X Y Wn x y).toNat 0 = z at *
  have K2 := Lib.hid (fun w' => scaled_any z a d w' ha hd hz)
  have HL := Lib.hid hl
  have hkl := hk.lt
  obtain ⟨c0, c1, c2, c3, c4⟩ := hk.cells
  clear hk hr hl hx hx' hy hy' ha hd hz
  go_enter Try.func95, Try.ntmps95
  go_wp2_with fail
  go_region_held3 (fun w' => w'.cell? ⟨k, 0, none⟩ = some (.int .i64 X) ∧ w'.cell? ⟨k, 1, none⟩ = some (.int .i64 Y) ∧ w'.cell? ⟨k, 2, none⟩ = some (.int .i64 Wn) ∧ w'.cell? ⟨k, 3, none⟩ = some (.int .i64 Hn) ∧ w'.cell? ⟨k, 4, none⟩ = some (.slice (some ⟨b, o, none⟩) l.length c) ∧ w'.cell? ⟨p, 0, none⟩ = some (.float .f32 a) ∧ w'.cell? ⟨q, 0, none⟩ = some (.float .f32 d) ∧ Below w.heap.size w w')
    (first
      | exact ⟨c0, c1, c2, c3, c4, hp, hq, (Below.refl _ _).drew⟩
      | (go_split_ands
         have hs := (show Below w.heap.size w _ by assumption).size
         refine ⟨?_, ?_, ?_, ?_, ?_, ?_, ?_, ?_⟩
         all_goals first
           | (rw [hb.cell (by simp; omega)]; assumption)
           | exact Below.trans (by assumption) (hb.mono (by omega)))
      | (go_split_ands; refine ⟨?_, ?_, ?_, ?_, ?_, ?_, ?_, ?_⟩ <;> assumption))
    (first
      | (go_at_call 97; go_split_ands; refine (K1.out _ (HL.out.below (by assumption))).mono ?_; rintro e2 w2 ⟨rfl, hb⟩)
      | (go_at_call 96; refine (K2.out _).mono ?_; rintro e2 w2 ⟨rfl, rfl⟩))
  rename_i hHeld
  obtain ⟨_, _, _, _, _, _, _, hB⟩ := hHeld
  go_wp2_with fail
  go_ret
  exact ⟨rfl, hB⟩

theorem row_two_at (W : World) (g x y : Nat) (hx : x < 4294967296) (hy : y < 4294967296) (h0 : W.cell? ⟨g, 0, none⟩ = some (.float .f32 x)) (h1 : W.cell? ⟨g, 1, none⟩ = some (.float .f32 y)) : SRow W (some ⟨g, 0, none⟩) [x, y] := by
  refine ⟨⟨by simp, by simp; exact ⟨hx, hy⟩⟩, .inr ⟨g, 0, rfl, ?_⟩⟩
  intro i hi
  have : i = 0 ∨ i = 1 := by simp at hi; omega
  rcases this with rfl | rfl
  · exact h0
  · exact h1
theorem refheight_two (W : World) (g x y : Nat) (hx : x < 4294967296) (hy : y < 4294967296) (h0 : W.cell? ⟨g, 0, none⟩ = some (.float .f32 x)) (h1 : W.cell? ⟨g, 1, none⟩ = some (.float .f32 y)) :
    Calls Try.prog 39 #[.slice (some ⟨g, 0, none⟩) 2 2] W fun e w' => e = .returned (.int .i64 (htE [x, y])) ∧ W = w' :=
  refheight_any (some ⟨g, 0, none⟩) 2 [x, y] W (row_two_at W g x y hx hy h0 h1)

set_option maxHeartbeats 1000000 in
theorem refscale_no (X Y W H : Int) (a : Option Addr) (n c : Nat) (x y : Nat) (w : World) (hx : x < 4294967296) (hy : y < 4294967296) (hn : htE [x, y] ≠ 0) :
    Calls Try.prog 48 #[fldV X Y W H a n c, .float .f32 x, .float .f32 y] w fun e w' => e = .returned (.tuple #[fldV 0 0 0 0 none 0 0, .int .i64 (htE [x, y])]) ∧ Below w.heap.size w w' := by
  have K2 := Lib.hid (fun W g h0 h1 => refheight_two W g x y hx hy h0 h1)
  have hb : (htE [x, y] != 0) = true := by rw [bne_iff_ne]; exact hn
  clear hx hy hn
  generalize htE [x, y] = q at *
  go_enter Try.func48, Try.ntmps48
  go_wp2_with fail
  refine (K2.out _ _ (by simp [go_sem]) (by simp [go_sem])).mono ?_
  rintro e w2 ⟨rfl, rfl⟩
  go_wp2
  exact bodyPost_ret (v := .tuple #[fldV 0 0 0 0 none 0 0, .int .i64 q]) (by simp [results, Try.results48, go_sem, *]) rfl ⟨rfl, (by repeat (first | with_reducible exact Below.refl _ _ | with_reducible apply Below.drew | with_reducible refine below_drewN ?_ _ | (with_reducible refine Below.setCell ?_ ?_ _; rotate_left; focus (first | omega | (simp <;> omega))) | (with_reducible refine Below.alloc ?_ ?_ _; rotate_left; focus (first | omega | (simp <;> omega)))))⟩

theorem scale_world (w : World) (X Y W H : Int) (v : Value) (x y : Nat) : ∀ W0, W0 = ((((w.alloc (.cells #[.int .i64 X, .int .i64 Y, .int .i64 W, .int .i64 H, v] /-T-/66)).alloc (.cells #[.float .f32 x] /-T-/24)).alloc (.cells #[.float .f32 y] /-T-/24)).alloc (.cells #[.int .i64 0, .int .i64 0, .int .i64 0, .int .i64 0, .slice none 0 0] /-T-/66)).alloc (.cells #[.float .f32 x, .float .f32 y] /-T-/24) →
    Fld W0 w.heap.size X Y W H v ∧ Fld W0 (w.heap.size + 1 + 1 + 1) 0 0 0 0 (.slice none 0 0) ∧ W0.cell? ⟨w.heap.size + 1, 0, none⟩ = some (.float .f32 x) ∧ W0.cell? ⟨w.heap.size + 1 + 1, 0, none⟩ = some (.float .f32 y) ∧ Below w.heap.size w W0 ∧ W0.heap.size = w.heap.size + 5 := by
  rintro _ rfl
  refine ⟨((((Fld.new w X Y W H v).alloc _).alloc _).alloc _).alloc _, ?_, by simp [go_sem], by simp [go_sem], (by repeat (first | with_reducible exact Below.refl _ _ | with_reducible apply Below.drew | with_reducible refine below_drewN ?_ _ | (with_reducible refine Below.setCell ?_ ?_ _; rotate_left; focus (first | omega | (simp <;> omega))) | (with_reducible refine Below.alloc ?_ ?_ _; rotate_left; focus (first | omega | (simp <;> omega))))), by simp⟩
  have := (Fld.new (((w.alloc (.cells #[.int .i64 X, .int .i64 Y, .int .i64 W, .int .i64 H, v] /-T-/66)).alloc (.cells #[.float .f32 x] /-T-/24)).alloc (.cells #[.float .f32 y] /-T-/24)) 0 0 0 0 (.slice none 0 0)).alloc (.cells #[.float .f32 x, .float .f32 y] /-T-/24)
  simpa using this

set_option maxRecDepth 100000 in
set_option maxHeartbeats 1000000 in
theorem refscale_yes (X Y : Int) (Wn Hn : Nat) (b o c : Nat) (l : List Nat) (x y : Nat) (w : World) (hl : SRow w (some ⟨b, o, none⟩) l) (hr : Right X Y Wn Hn l) (hx : x < 4294967296) (hy : y < 4294967296) (hn : htE [x, y] = 0) :
    Calls Try.prog 48 #[fldV X Y Wn Hn (some ⟨b, o, none⟩) l.length c, .float .f32 x, .float .f32 y] w fun e w' => ResP X Y Wn Hn (l.map (scaleF x y)) w e w' := by
  have hts := Ieee.Format.allHt_iff.1 (Ieee.Format.htE_zero hn)
  have hax : Ht x := hts x (by simp)
  have hay : Ht y := hts y (by simp)
  have HL := Lib.hid hl
  have HR := Lib.hid hr
  have HX := Lib.hid hax
  have HY := Lib.hid hay
  have K2 := Lib.hid (fun W g h0 h1 => refheight_two W g x y hx hy h0 h1)
  rw [hn] at K2
  have eg := Lib.hid (enters_of Try.func95 (by kernel_rfl) rfl)
  have hm := Lib.hid (madeL_map (scaleF x y) X Y Wn Hn l hr.w1 hr.len)
  clear hl hx hy hn hts hax hay hr
  go_enter Try.func48, Try.ntmps48
  go_wp2_with fail
  refine (K2.out _ _ (by simp [go_sem]) (by simp [go_sem])).mono ?_
  rintro e w2 ⟨rfl, rfl⟩
  go_wp2_with fail
  generalize hW0 : ((((w.alloc (.cells #[.int .i64 X, .int .i64 Y, .int .i64 Wn, .int .i64 Hn, .slice (some ⟨b, o, none⟩) l.length c] /-T-/66)).alloc (.cells #[.float .f32 x] /-T-/24)).alloc (.cells #[.float .f32 y] /-T-/24)).alloc (.cells #[.int .i64 0, .int .i64 0, .int .i64 0, .int .i64 0, .slice none 0 0] /-T-/66)).alloc (.cells #[.float .f32 x, .float .f32 y] /-T-/24) = W0 at *
  obtain ⟨f1, f2, e1, e2, hB, hz⟩ := scale_world w X Y Wn Hn _ x y W0 hW0.symm
  clear hW0
  have hr := HR.out
  have := hr.w1; have := hr.w2; have := hr.h1; have := hr.h2; have := hr.x1; have := hr.x2; have := hr.y1; have := hr.y2
  refine (made_any /-F-/95 _ (fun i j => scaleF x y (l.getD (cellNo X Y Wn i j).toNat 0)) X Y Wn Hn W0 (by omega) (by omega) (by omega) (by omega) (by omega) (by omega) (by omega) (by omega) eg.out (fun _ _ _ _ _ _ => Ieee.Format.addF_lt _ _) ?_).mono ?_
  · intro i j g1 g2 g3 g4 W' hb
    exact refscale_fn X Y Wn Hn i j b o c _ _ _ x y l W' ((HL.out.below hB).below hb) hr g1 g2 g3 g4 (f1.below hb f1.lt) ((hb.cell (p := ⟨w.heap.size + 1, 0, none⟩) (by simp; omega)).trans e1) ((hb.cell (p := ⟨w.heap.size + 1 + 1, 0, none⟩) (by simp; omega)).trans e2) (by have := hb.size; omega) (by have := hb.size; omega) HX.out HY.out
  rintro e w3 hM
  rw [hm] at hM
  obtain ⟨M1, M2, hb3⟩ := hM.res
  have F3 := Lib.hid (f2.below hb3 f2.lt)
  have B3 := Lib.hid (hB.trans (hb3.mono hB.size))
  have hgs : w.heap.size ≤ W0.heap.size := hB.size
  have hz' := Lib.hid hz
  clear hM hb3 f1 f2 e1 e2 hB K2 eg HL HX HY this hr hz
  clear hm
  generalize hmq : l.map (scaleF x y) = m at *
  have HMQ := Lib.hid hmq
  clear hmq
  have F3b := F3.out
  cases hh : allHt m with
  | true =>
    have HH := Lib.hid hh
    obtain ⟨g, cap, rfl, ho⟩ := M1 hh
    have HO := Lib.hid (OwnF.base ho hgs)
    have hgl : Hid (W0.heap.size ≤ g) := ho.lt.1
    clear M1 M2 hh ho
    obtain ⟨d0, d1, d2, d3, d4⟩ := F3b.cells
    have qf0 := F3b.frozen 0
    have qf1 := F3b.frozen 1
    have qf2 := F3b.frozen 2
    have qf3 := F3b.frozen 3
    have qf4 := F3b.frozen 4
    clear F3b
    go_wp2_with fail
    have B4 := B3.out
    have O4 := HO.out
    have hgl' : w.heap.size + 5 ≤ g := by have := hgl.out; have := hz'.out; omega
    obtain rfl := HMQ.out
    refine bodyPost_ret (v := .tuple #[fldV X Y Wn Hn (some ⟨g, 0, none⟩) (l.map (scaleF x y)).length cap, .int .i64 0]) (by simp [results, Try.results48, go_sem, *]) rfl ⟨fun _ => ⟨g, cap, rfl, (by have hgg := O4.lt; repeat (first | with_reducible exact O4 | with_reducible refine OwnF.drew ?_ | with_reducible refine OwnF.drewN ?_ _ | (with_reducible refine OwnF.setCell ?_ ?_ _; rotate_left; focus (first | omega | (simp <;> omega))) | with_reducible refine OwnF.alloc ?_ _))⟩, fun h => absurd (HH.out.symm.trans h) (by decide), (by have hszz := B4.size; repeat (first | with_reducible exact B4 | with_reducible apply Below.drew | with_reducible refine below_drewN ?_ _ | (with_reducible refine Below.setCell ?_ ?_ _; rotate_left; focus (first | omega | (simp <;> omega))) | (with_reducible refine Below.alloc ?_ ?_ _; rotate_left; focus (first | omega | (simp <;> omega)))))⟩
  | false =>
    have HH := Lib.hid hh
    obtain rfl := M2 hh
    clear M1 M2 hh
    obtain ⟨d0, d1, d2, d3, d4⟩ := F3b.cells
    have qf0 := F3b.frozen 0
    have qf1 := F3b.frozen 1
    have qf2 := F3b.frozen 2
    have qf3 := F3b.frozen 3
    have qf4 := F3b.frozen 4
    clear F3b
    go_wp2_with fail
    have B4 := B3.out
    obtain rfl := HMQ.out
    refine bodyPost_ret (v := .tuple #[fldV 0 0 0 0 none 0 0, .int .i64 3]) (by simp [results, Try.results48, go_sem, *]) rfl ⟨fun h => absurd (HH.out.symm.trans h) (by decide), fun _ => rfl, (by have hszz := B4.size; repeat (first | with_reducible exact B4 | with_reducible apply Below.drew | with_reducible refine below_drewN ?_ _ | (with_reducible refine Below.setCell ?_ ?_ _; rotate_left; focus (first | omega | (simp <;> omega))) | (with_reducible refine Below.alloc ?_ ?_ _; rotate_left; focus (first | omega | (simp <;> omega)))))⟩
end Go.Proofs.Ytgeeaegnohdejaa
