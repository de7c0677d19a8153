import Derived.Test.YtgeeaegnohdejaaClampA
namespace Go.Proofs.Ytgeeaegnohdejaa
open Go.Shelf
open Go.ChangeShapes Go.WideShapes Go.ChangeAt Go.RowKit
open Ieee.Format (fin finE htE allFin allHt all_true all_false finE_ok finE_bad htE_ok htE_far htE_bad mulF subF addF Ht scaleF)
set_option linter.unusedVariables false

theorem map_clamp_ht {X Y : Int} {Wn Hn : Nat} {l : List Nat} {x y : Nat} (hr : Right X Y Wn Hn l) (hx : Ht x) (hy : Ht y) : allHt (l.map (clampF x y)) = true := by
  refine Ieee.Format.allHt_iff.2 fun z hz => ?_
  obtain ⟨v, hv, rfl⟩ := List.mem_map.1 hz
  exact clampF_ht hx hy (hr.ht v hv)
theorem ht_lt {w : World} {a : Option Addr} {l : List Nat} (h : SRow w a l) (i : Nat) : l.getD i 0 < 4294967296 := by
  rcases Nat.lt_or_ge i l.length with hlt | hge
  · rw [List.getD_eq_getElem?_getD, List.getElem?_eq_getElem hlt]; exact h.1.2 _ (List.getElem_mem hlt)
  · rw [List.getD_eq_getElem?_getD, List.getElem?_eq_none hge]; show (0 : Nat) < 4294967296; decide

set_option maxRecDepth 100000 in
theorem clamp_yes (X Y : Int) (Wn Hn : Nat) (b o c : Nat) (l : List Nat) (x y : Nat) (w : World) (hl : SRow w (some ⟨b, o, none⟩) l) (hr : Right X Y Wn Hn l) (hx : x < 4294967296) (hy : y < 4294967296) (hn : htE [x, y] = 0) (hg : (Go.FloatKind.f32.format.order x y == some .gt) = false) :
    Calls Try.prog 50 #[fldV X Y Wn Hn (some ⟨b, o, none⟩) l.length c, .float .f32 x, .float .f32 y] w fun e w' => ResP X Y Wn Hn (l.map (clampF x y)) w e w' := by
  have hts := Ieee.Format.allHt_iff.1 (Ieee.Format.htE_zero hn)
  have hax : Ht x := hts x (by simp)
  have hay : Ht y := hts y (by simp)
  have K := Lib.hid (fun w h => check_field X Y Wn Hn (some ⟨b, o, none⟩) c l w h)
  rw [hr.chk] at K
  have HL := Lib.hid hl
  have HT := Lib.hid hr.ht
  have H0 := Lib.hid hr.ne
  have HX0 := Lib.hid hx
  have HY0 := Lib.hid hy
  have HLT := Lib.hid hl.1.2
  have HAL := Lib.hid (map_clamp_ht hr hax hay)
  have K2 := Lib.hid (fun w c => heights_any (some ⟨w.heap.size, 0, none⟩) c [x, y] (w.alloc (.cells #[.float .f32 x, .float .f32 y] /-T-/24)) (row_two w x y hx hy _))
  rw [hn] at K2
  have eg := Lib.hid (enters_of Try.func98 (by kernel_rfl) rfl)
  have hlen := hl.1.1
  clear hl hx hy hn hts hax hay hr
  have hA : Below w.heap.size w ((((w.alloc (.cells #[.int .i64 X, .int .i64 Y, .int .i64 Wn, .int .i64 Hn, .slice (some ⟨b, o, none⟩) l.length c] /-T-/66)).alloc (.cells #[.float .f32 x] /-T-/24)).alloc (.cells #[.float .f32 y] /-T-/24)).alloc (.cells #[.int .i64 0, .int .i64 0, .int .i64 0, .int .i64 0, .slice none 0 0] /-T-/66)) := (by repeat (first | with_reducible exact Below.refl _ _ | with_reducible apply Below.drew | with_reducible refine below_drewN ?_ _ | (with_reducible refine Below.setCell ?_ ?_ _; rotate_left; focus (first | omega | (simp <;> omega))) | (with_reducible refine Below.alloc ?_ ?_ _; rotate_left; focus (first | omega | (simp <;> omega)))))
  have HA := Lib.hid hA
  clear hA
  go_enter Try.func50, Try.ntmps50
  go_wp2_with fail
  refine (K.out _ (HL.out.below HA.out)).mono ?_
  rintro e w1 ⟨rfl, b1⟩
  have B1 := Lib.hid (HA.out.trans (b1.mono HA.out.size))
  have cx : Hid (w1.cell? ⟨w.heap.size + 1, 0, none⟩ = some (.float .f32 x)) := by
    unfold Hid; exact (b1.cell (p := ⟨w.heap.size + 1, 0, none⟩) (by simp)).trans (by simp [go_sem])
  have cy : Hid (w1.cell? ⟨w.heap.size + 1 + 1, 0, none⟩ = some (.float .f32 y)) := by
    unfold Hid; exact (b1.cell (p := ⟨w.heap.size + 1 + 1, 0, none⟩) (by simp)).trans (by simp [go_sem])
  have FZ : Hid (Fld w1 (w.heap.size + 1 + 1 + 1) 0 0 0 0 (.slice none 0 0)) := by
    have := (Fld.new (((w.alloc (.cells #[.int .i64 X, .int .i64 Y, .int .i64 Wn, .int .i64 Hn, .slice (some ⟨b, o, none⟩) l.length c] /-T-/66)).alloc (.cells #[.float .f32 x] /-T-/24)).alloc (.cells #[.float .f32 y] /-T-/24)) 0 0 0 0 (.slice none 0 0)).below b1 (by simp)
    unfold Hid; simpa using this
  obtain ⟨hcc, hf⟩ := bcell b1
  have hs := b1.size
  simp at hs
  have lta0 : w.heap.size < w1.heap.size := by omega
  have lta1 : w.heap.size + 1 < w1.heap.size := by omega
  have lta2 : w.heap.size + 1 + 1 < w1.heap.size := by omega
  have lta3 : w.heap.size + 1 + 1 + 1 < w1.heap.size := by omega
  clear b1
  go_wp2_with fail
  refine (K2.out _ _).mono ?_
  rintro e w2 ⟨rfl, rfl⟩
  go_wp2_with fail
  have W3 : Hid (Below w1.heap.size w1 (w1.alloc (.cells #[.float .f32 x, .float .f32 y] /-T-/24))) := by
    unfold Hid; exact (by repeat (first | with_reducible exact Below.refl _ _ | with_reducible apply Below.drew | with_reducible refine below_drewN ?_ _ | (with_reducible refine Below.setCell ?_ ?_ _; rotate_left; focus (first | omega | (simp <;> omega))) | (with_reducible refine Below.alloc ?_ ?_ _; rotate_left; focus (first | omega | (simp <;> omega)))))
  have hfn : Hid (∀ z ∈ l, ∀ W', Below (w1.alloc (.cells #[.float .f32 x, .float .f32 y] /-T-/24)).heap.size (w1.alloc (.cells #[.float .f32 x, .float .f32 y] /-T-/24)) W' → Calls Try.prog /-F-/98 (#[.float .f32 z] ++ #[.pointer (some ⟨w.heap.size + 1, 0, none⟩), .pointer (some ⟨w.heap.size + 1 + 1, 0, none⟩)]) W' fun e w' => e = .returned (.float .f32 (clampF x y z)) ∧ W' = w') := by
    intro z hz W' hb
    have hb1 : Below w1.heap.size w1 W' := W3.out.trans (hb.mono (by simp))
    exact clampfn_any z x y _ _ W' ((hb1.cell (p := ⟨w.heap.size + 1, 0, none⟩) lta1).trans cx.out) ((hb1.cell (p := ⟨w.heap.size + 1 + 1, 0, none⟩) lta2).trans cy.out)
  refine (each_any /-F-/98 _ (clampF x y) X Y Wn Hn b o c l _ (HL.out.below (B1.out.trans (W3.out.mono B1.out.size))) H0.out eg.out (fun z hz => clampF_lt HX0.out HY0.out (HLT.out z hz)) hfn.out).mono ?_
  rintro e w3 ⟨g, cap, rfl, ho, hb3⟩
  have B3 : Below w.heap.size w w3 := (B1.out.trans (W3.out.mono B1.out.size)).trans (hb3.mono (by simp; omega))
  have F3 := (FZ.out.alloc _).below hb3 (by simp; omega)
  have O3 : OwnF w3 w.heap.size g cap (l.map (clampF x y)) := ho.base (by simp; omega)
  have hgl : w.heap.size + 1 + 1 + 1 < g := by have := ho.lt.1; simp at this; omega
  have HR3 : Hid (SRow w3 (some ⟨g, 0, none⟩) (l.map (clampF x y))) := O3.row (by rw [List.length_map]; exact hlen)
  have HB3 := Lib.hid B3
  have HF3 := Lib.hid F3
  have HO3 := Lib.hid O3
  have hml : Hid ((l.map (clampF x y)).length = l.length) := List.length_map _
  clear ho hb3 B3 F3 O3 hfn W3 B1 FZ K K2 HT HX0 HY0 HLT cx cy HA H0 eg HL hcc hf
  generalize hmq : l.map (clampF x y) = m at *
  have HMQ := Lib.hid hmq
  clear hmq
  have F4 := HF3.out
  have O4 := HO3.out
  have B4 := HB3.out
  obtain ⟨d0, d1, d2, d3, d4⟩ := F4.cells
  have qf0 := F4.frozen 0
  have qf1 := F4.frozen 1
  have qf2 := F4.frozen 2
  have qf3 := F4.frozen 3
  have qf4 := F4.frozen 4
  go_wp2_with fail
  obtain rfl := HMQ.out
  refine bodyPost_ret (v := .tuple #[fldV X Y Wn Hn (some ⟨g, 0, none⟩) (l.map (clampF x y)).length cap, .int .i64 0]) (by simp [results, Try.results50, go_sem, *]) rfl ⟨fun _ => ⟨g, cap, rfl, (by have hgg := O4.lt; repeat (first | with_reducible exact O4 | with_reducible refine OwnF.drew ?_ | with_reducible refine OwnF.drewN ?_ _ | (with_reducible refine OwnF.setCell ?_ ?_ _; rotate_left; focus (first | omega | (simp <;> omega))) | with_reducible refine OwnF.alloc ?_ _))⟩, fun h => absurd (HAL.out.symm.trans h) (by decide), (by have hszz := B4.size; repeat (first | with_reducible exact B4 | with_reducible apply Below.drew | with_reducible refine below_drewN ?_ _ | (with_reducible refine Below.setCell ?_ ?_ _; rotate_left; focus (first | omega | (simp <;> omega))) | (with_reducible refine Below.alloc ?_ ?_ _; rotate_left; focus (first | omega | (simp <;> omega)))))⟩

set_option maxHeartbeats 1000000 in
theorem clamp_bad (X Y W H : Int) (a : Option Addr) (c : Nat) (l : List Nat) (x y : Nat) (w : World) (hl : SRow w a l) (h0 : chkF X Y W H l = 0) (hx : x < 4294967296) (hy : y < 4294967296) (hn : htE [x, y] = 0) (hg : (Go.FloatKind.f32.format.order x y == some .gt) = true) :
    Calls Try.prog 50 #[fldV X Y W H a l.length c, .float .f32 x, .float .f32 y] w fun e w' => e = .returned (.tuple #[fldV 0 0 0 0 none 0 0, .int .i64 8]) ∧ Below w.heap.size w w' := by
  have K := Lib.hid (fun w h => check_field X Y W H a c l w h)
  rw [h0] at K
  have HL := Lib.hid hl
  have K2 := Lib.hid (fun w c => heights_any (some ⟨w.heap.size, 0, none⟩) c [x, y] (w.alloc (.cells #[.float .f32 x, .float .f32 y] /-T-/24)) (row_two w x y hx hy _))
  rw [hn] at K2
  clear hl h0 hx hy hn
  have hA : Below w.heap.size w ((((w.alloc (.cells #[.int .i64 X, .int .i64 Y, .int .i64 W, .int .i64 H, .slice a l.length c] /-T-/66)).alloc (.cells #[.float .f32 x] /-T-/24)).alloc (.cells #[.float .f32 y] /-T-/24)).alloc (.cells #[.int .i64 0, .int .i64 0, .int .i64 0, .int .i64 0, .slice none 0 0] /-T-/66)) := (by repeat (first | with_reducible exact Below.refl _ _ | with_reducible apply Below.drew | with_reducible refine below_drewN ?_ _ | (with_reducible refine Below.setCell ?_ ?_ _; rotate_left; focus (first | omega | (simp <;> omega))) | (with_reducible refine Below.alloc ?_ ?_ _; rotate_left; focus (first | omega | (simp <;> omega)))))
  have HA := Lib.hid hA
  clear hA
  go_enter Try.func50, Try.ntmps50
  go_wp2_with fail
  refine (K.out _ (HL.out.below HA.out)).mono ?_
  rintro e w1 ⟨rfl, b1⟩
  have B1 := Lib.hid (HA.out.trans (b1.mono HA.out.size))
  obtain ⟨hcc, hf⟩ := bcell b1
  have hs := b1.size
  simp at hs
  have lta0 : w.heap.size < w1.heap.size := by omega
  have lta1 : w.heap.size + 1 < w1.heap.size := by omega
  have lta2 : w.heap.size + 1 + 1 < w1.heap.size := by omega
  have lta3 : w.heap.size + 1 + 1 + 1 < w1.heap.size := by omega
  clear b1
  go_wp2_with fail
  refine (K2.out _ _).mono ?_
  rintro e w2 ⟨rfl, rfl⟩
  go_wp2
  have B2 := B1.out
  exact bodyPost_ret (v := .tuple #[fldV 0 0 0 0 none 0 0, .int .i64 8]) (by simp [results, Try.results50, go_sem, *]) rfl ⟨rfl, (by have hszz := B2.size; repeat (first | with_reducible exact B2 | with_reducible apply Below.drew | with_reducible refine below_drewN ?_ _ | (with_reducible refine Below.setCell ?_ ?_ _; rotate_left; focus (first | omega | (simp <;> omega))) | (with_reducible refine Below.alloc ?_ ?_ _; rotate_left; focus (first | omega | (simp <;> omega)))))⟩

set_option maxHeartbeats 1000000 in
theorem refclamp_bad (X Y W H : Int) (a : Option Addr) (n c : Nat) (x y : Nat) (w : World) (hx : x < 4294967296) (hy : y < 4294967296) (hn : htE [x, y] = 0) (hg : (Go.FloatKind.f32.format.order x y == some .gt) = true) :
    Calls Try.prog 51 #[fldV X Y W H a n c, .float .f32 x, .float .f32 y] w fun e w' => e = .returned (.tuple #[fldV 0 0 0 0 none 0 0, .int .i64 8]) ∧ Below w.heap.size w w' := by
  have K2 := Lib.hid (fun W g h0 h1 => refheight_two W g x y hx hy h0 h1)
  rw [hn] at K2
  clear hx hy hn
  go_enter Try.func51, Try.ntmps51
  go_wp2_with fail
  refine (K2.out _ _ (by simp [go_sem]) (by simp [go_sem])).mono ?_
  rintro e w2 ⟨rfl, rfl⟩
  go_wp2
  exact bodyPost_ret (v := .tuple #[fldV 0 0 0 0 none 0 0, .int .i64 8]) (by simp [results, Try.results51, go_sem, *]) rfl ⟨rfl, (by repeat (first | with_reducible exact Below.refl _ _ | with_reducible apply Below.drew | with_reducible refine below_drewN ?_ _ | (with_reducible refine Below.setCell ?_ ?_ _; rotate_left; focus (first | omega | (simp <;> omega))) | (with_reducible refine Below.alloc ?_ ?_ _; rotate_left; focus (first | omega | (simp <;> omega)))))⟩

set_option maxRecDepth 100000 in
set_option maxHeartbeats 1000000 in
theorem refclamp_yes (X Y : Int) (Wn Hn : Nat) (b o c : Nat) (l : List Nat) (x y : Nat) (w : World) (hl : SRow w (some ⟨b, o, none⟩) l) (hr : Right X Y Wn Hn l) (hx : x < 4294967296) (hy : y < 4294967296) (hn : htE [x, y] = 0) (hg : (Go.FloatKind.f32.format.order x y == some .gt) = false) :
    Calls Try.prog 51 #[fldV X Y Wn Hn (some ⟨b, o, none⟩) l.length c, .float .f32 x, .float .f32 y] w fun e w' => ResP X Y Wn Hn (l.map (clampF x y)) w e w' := by
  have hts := Ieee.Format.allHt_iff.1 (Ieee.Format.htE_zero hn)
  have hax : Ht x := hts x (by simp)
  have hay : Ht y := hts y (by simp)
  have HL := Lib.hid hl
  have HR := Lib.hid hr
  have HX0 := Lib.hid hx
  have HY0 := Lib.hid hy
  have HX := Lib.hid hax
  have HY := Lib.hid hay
  have K2 := Lib.hid (fun W g h0 h1 => refheight_two W g x y hx hy h0 h1)
  rw [hn] at K2
  have eg := Lib.hid (enters_of Try.func99 (by kernel_rfl) rfl)
  have hm := Lib.hid (madeL_map (clampF x y) X Y Wn Hn l hr.w1 hr.len)
  clear hl hx hy hn hts hax hay hr
  go_enter Try.func51, Try.ntmps51
  go_wp2_with fail
  refine (K2.out _ _ (by simp [go_sem]) (by simp [go_sem])).mono ?_
  rintro e w2 ⟨rfl, rfl⟩
  go_wp2_with fail
  generalize hW0 : ((((w.alloc (.cells #[.int .i64 X, .int .i64 Y, .int .i64 Wn, .int .i64 Hn, .slice (some ⟨b, o, none⟩) l.length c] /-T-/66)).alloc (.cells #[.float .f32 x] /-T-/24)).alloc (.cells #[.float .f32 y] /-T-/24)).alloc (.cells #[.int .i64 0, .int .i64 0, .int .i64 0, .int .i64 0, .slice none 0 0] /-T-/66)).alloc (.cells #[.float .f32 x, .float .f32 y] /-T-/24) = W0 at *
  obtain ⟨f1, f2, e1, e2, hB, hz⟩ := scale_world w X Y Wn Hn _ x y W0 hW0.symm
  clear hW0
  have hr := HR.out
  have := hr.w1; have := hr.w2; have := hr.h1; have := hr.h2; have := hr.x1; have := hr.x2; have := hr.y1; have := hr.y2
  refine (made_any /-F-/99 _ (fun i j => clampF x y (l.getD (cellNo X Y Wn i j).toNat 0)) X Y Wn Hn W0 (by omega) (by omega) (by omega) (by omega) (by omega) (by omega) (by omega) (by omega) eg.out (fun i j _ _ _ _ => clampF_lt HX0.out HY0.out (ht_lt (HL.out) _)) ?_).mono ?_
  · intro i j g1 g2 g3 g4 W' hb
    exact refclamp_fn X Y Wn Hn i j b o c _ _ _ x y l W' ((HL.out.below hB).below hb) hr g1 g2 g3 g4 (f1.below hb f1.lt) ((hb.cell (p := ⟨w.heap.size + 1, 0, none⟩) (by simp; omega)).trans e1) ((hb.cell (p := ⟨w.heap.size + 1 + 1, 0, none⟩) (by simp; omega)).trans e2) (by have := hb.size; omega) (by have := hb.size; omega) HX.out HY.out
  rintro e w3 hM
  rw [hm] at hM
  obtain ⟨M1, M2, hb3⟩ := hM.res
  have F3 := Lib.hid (f2.below hb3 f2.lt)
  have B3 := Lib.hid (hB.trans (hb3.mono hB.size))
  have hgs : w.heap.size ≤ W0.heap.size := hB.size
  have hz' := Lib.hid hz
  clear hM hb3 f1 f2 e1 e2 hB K2 eg HL HX HY this hr hz
  clear hm
  generalize hmq : l.map (clampF x y) = m at *
  have HMQ := Lib.hid hmq
  clear hmq
  have F3b := F3.out
  cases hh : allHt m with
  | true =>
    have HH := Lib.hid hh
    obtain ⟨g, cap, rfl, ho⟩ := M1 hh
    have HO := Lib.hid (OwnF.base ho hgs)
    have hgl : Hid (W0.heap.size ≤ g) := ho.lt.1
    clear M1 M2 hh ho
    obtain ⟨d0, d1, d2, d3, d4⟩ := F3b.cells
    have qf0 := F3b.frozen 0
    have qf1 := F3b.frozen 1
    have qf2 := F3b.frozen 2
    have qf3 := F3b.frozen 3
    have qf4 := F3b.frozen 4
    clear F3b
    go_wp2_with fail
    have B4 := B3.out
    have O4 := HO.out
    have hgl' : w.heap.size + 5 ≤ g := by have := hgl.out; have := hz'.out; omega
    obtain rfl := HMQ.out
    refine bodyPost_ret (v := .tuple #[fldV X Y Wn Hn (some ⟨g, 0, none⟩) (l.map (clampF x y)).length cap, .int .i64 0]) (by simp [results, Try.results51, go_sem, *]) rfl ⟨fun _ => ⟨g, cap, rfl, (by have hgg := O4.lt; repeat (first | with_reducible exact O4 | with_reducible refine OwnF.drew ?_ | with_reducible refine OwnF.drewN ?_ _ | (with_reducible refine OwnF.setCell ?_ ?_ _; rotate_left; focus (first | omega | (simp <;> omega))) | with_reducible refine OwnF.alloc ?_ _))⟩, fun h => absurd (HH.out.symm.trans h) (by decide), (by have hszz := B4.size; repeat (first | with_reducible exact B4 | with_reducible apply Below.drew | with_reducible refine below_drewN ?_ _ | (with_reducible refine Below.setCell ?_ ?_ _; rotate_left; focus (first | omega | (simp <;> omega))) | (with_reducible refine Below.alloc ?_ ?_ _; rotate_left; focus (first | omega | (simp <;> omega)))))⟩
  | false =>
    have HH := Lib.hid hh
    obtain rfl := M2 hh
    clear M1 M2 hh
    obtain ⟨d0, d1, d2, d3, d4⟩ := F3b.cells
    have qf0 := F3b.frozen 0
    have qf1 := F3b.frozen 1
    have qf2 := F3b.frozen 2
    have qf3 := F3b.frozen 3
    have qf4 := F3b.frozen 4
    clear F3b
    go_wp2_with fail
    have B4 := B3.out
    obtain rfl := HMQ.out
    refine bodyPost_ret (v := .tuple #[fldV 0 0 0 0 none 0 0, .int .i64 3]) (by simp [results, Try.results51, go_sem, *]) rfl ⟨fun h => absurd (HH.out.symm.trans h) (by decide), fun _ => rfl, (by have hszz := B4.size; repeat (first | with_reducible exact B4 | with_reducible apply Below.drew | with_reducible refine below_drewN ?_ _ | (with_reducible refine Below.setCell ?_ ?_ _; rotate_left; focus (first | omega | (simp <;> omega))) | (with_reducible refine Below.alloc ?_ ?_ _; rotate_left; focus (first | omega | (simp <;> omega)))))⟩
end Go.Proofs.Ytgeeaegnohdejaa
