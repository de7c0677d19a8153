import Derived.Test.YtgeeaegnohdejaaMade
import Derived.Test.YtgeeaegnohdejaaFloatH
import Derived.Deep.RegionHeld3
import Derived.Outline
namespace Go.Proofs.Ytgeeaegnohdejaa
open Go.Shelf
open Go.ChangeShapes Go.WideShapes Go.ChangeAt Go.RowKit
open Ieee.Format (fin finE htE allFin allHt all_true all_false finE_ok finE_bad htE_ok htE_far htE_bad mulF subF addF Ht scaleF)
set_option linter.unusedVariables false

/-- 'made' over the cells of a field is the field's values turned -/
theorem madeL_map (φ : Nat → Nat) (X Y : Int) (Wn Hn : Nat) (l : List Nat) (h1 : 1 ≤ Wn) (hl : l.length = Hn * Wn) :
    madeL (fun x y => φ (l.getD (cellNo X Y Wn x y).toNat 0)) X Y Wn (Hn * Wn) = l.map φ := by
  refine List.ext_getElem? fun k => ?_
  unfold madeL
  rw [List.getElem?_map, List.getElem?_map]
  by_cases hk : k < Hn * Wn
  · have e : (cellNo X Y Wn (X + ((k % Wn : Nat) : Int)) (Y + ((k / Wn : Nat) : Int))).toNat = k := by
      unfold cellNo
      have := Nat.div_add_mod k Wn
      have h : (Y + ((k / Wn : Nat) : Int) - Y) * (Wn : Int) = ((Wn * (k / Wn) : Nat) : Int) := by
        rw [show Y + ((k / Wn : Nat) : Int) - Y = ((k / Wn : Nat) : Int) from by omega, Int.natCast_mul, Int.mul_comm]
      rw [h]
      omega
    rw [List.getElem?_range hk, List.getElem?_eq_getElem (by omega), Option.map_some, Option.map_some]
    dsimp only
    rw [e, List.getD_eq_getElem?_getD, List.getElem?_eq_getElem (by omega)]
    rfl
  · rw [List.getElem?_eq_none (by rw [List.length_range]; omega), List.getElem?_eq_none (by omega)]
    rfl

/-- a field of these values, or ErrRange where one of them is no height -/
def ResP (X Y W H : Int) (m : List Nat) (w : World) (e : Ending) (w' : World) : Prop :=
  (allHt m = true → ∃ g cap, e = .returned (.tuple #[fldV X Y W H (some ⟨g, 0, none⟩) m.length cap, .int .i64 0]) ∧ OwnF w' w.heap.size g cap m) ∧
  (allHt m = false → e = .returned (.tuple #[fldV 0 0 0 0 none 0 0, .int .i64 3])) ∧ Below w.heap.size w w'
theorem MadeP.res {X Y W H : Int} {m : List Nat} {w : World} {e : Ending} {w' : World} (h : MadeP X Y W H m w e w') : ResP X Y W H m w e w' := by
  refine ⟨fun hh => h.1 ?_, fun hh => h.2.1 ?_, h.2.2⟩
  · unfold outE; rw [Ieee.Format.htE_of_ht hh]; rfl
  · unfold outE; rw [if_neg (Ieee.Format.htE_ne hh)]; decide

theorem scalefn_any (x a b : Nat) (p q : Nat) (w : World) (ha : Ht a) (hb : Ht b) (hx : Ht x) (c1 : w.cell? ⟨p, 0, none⟩ = some (.float .f32 a)) (c2 : w.cell? ⟨q, 0, none⟩ = some (.float .f32 b)) :
    Calls Try.prog 93 #[.float .f32 x, .pointer (some ⟨p, 0, none⟩), .pointer (some ⟨q, 0, none⟩)] w fun e w' => e = .returned (.float .f32 (scaleF a b x)) ∧ w = w' := by
  obtain ⟨f1, f2⟩ := Ieee.Format.scale_fin ha hb hx
  have k1 := fun w => run_float_arith (P := Try.prog) w .mul 24 .f32 x a (mulF x a) (Ieee.Format.bits_mul hx.fin ha.fin)
  have k2 := fun w => run_float_arith (P := Try.prog) w .add 24 .f32 (mulF x a) b (scaleF a b x) (Ieee.Format.bits_add f1 hb.fin)
  clear f1 f2 ha hb hx
  generalize mulF x a = y at *
  generalize scaleF a b x = z at *
  go_enter Try.func93, Try.ntmps93
  go_wp2
  go_ret
  exact ⟨rfl, rfl⟩

theorem scaled_any (x a b : Nat) (w : World) (ha : Ht a) (hb : Ht b) (hx : Ht x) :
    Calls Try.prog 96 #[.float .f32 x, .float .f32 a, .float .f32 b] w fun e w' => e = .returned (.float .f32 (scaleF a b x)) ∧ w = w' := by
  obtain ⟨f1, f2⟩ := Ieee.Format.scale_fin ha hb hx
  have k1 := Lib.hid (fun w => ref_mul_ok x a w hx.fin ha.fin f1)
  have k2 := Lib.hid (fun w => ref_add_ok (mulF x a) b w f1 hb.fin f2)
  change Hid (∀ w, Calls Try.prog 106 #[.float .f32 (mulF x a), .float .f32 b] w fun e w' => e = .returned (.float .f32 (scaleF a b x)) ∧ w = w') at k2
  clear f1 f2 ha hb hx
  generalize mulF x a = y at *
  generalize scaleF a b x = z at *
  go_enter Try.func96, Try.ntmps96
  go_wp2_with (first | (go_at_call 77; refine (k1.out _).mono ?_; rintro e w' ⟨rfl, rfl⟩) | (go_at_call 106; refine (k2.out _).mono ?_; rintro e w' ⟨rfl, rfl⟩))
  go_ret
  exact ⟨rfl, rfl⟩

theorem row_two (w : World) (x y : Nat) (hx : x < 4294967296) (hy : y < 4294967296) (t : TypeId) : SRow (w.alloc (.cells #[.float .f32 x, .float .f32 y] t)) (some ⟨w.heap.size, 0, none⟩) [x, y] := by
  refine ⟨⟨by simp, by simp; exact ⟨hx, hy⟩⟩, .inr ⟨w.heap.size, 0, rfl, ?_⟩⟩
  intro i hi
  have : i = 0 ∨ i = 1 := by simp at hi; omega
  rcases this with rfl | rfl <;> simp

set_option maxHeartbeats 1000000 in
theorem scale_no (X Y W H : Int) (a : Option Addr) (c : Nat) (l : List Nat) (x y : Nat) (w : World) (hl : SRow w a l) (h0 : chkF X Y W H l = 0) (hx : x < 4294967296) (hy : y < 4294967296) (hn : htE [x, y] ≠ 0) :
    Calls Try.prog 47 #[fldV X Y W H a l.length c, .float .f32 x, .float .f32 y] w fun e w' => e = .returned (.tuple #[fldV 0 0 0 0 none 0 0, .int .i64 (htE [x, y])]) ∧ Below w.heap.size w w' := by
  have K := Lib.hid (fun w h => check_field X Y W H a c l w h)
  rw [h0] at K
  have HL := Lib.hid hl
  have K2 := Lib.hid (fun w c => heights_any (some ⟨w.heap.size, 0, none⟩) c [x, y] (w.alloc (.cells #[.float .f32 x, .float .f32 y] /-T-/24)) (row_two w x y hx hy _))
  have hb : (htE [x, y] != 0) = true := by rw [bne_iff_ne]; exact hn
  clear hl h0 hx hy hn
  generalize htE [x, y] = q at *
  have hA : Below w.heap.size w ((((w.alloc (.cells #[.int .i64 X, .int .i64 Y, .int .i64 W, .int .i64 H, .slice a l.length c] /-T-/66)).alloc (.cells #[.float .f32 x] /-T-/24)).alloc (.cells #[.float .f32 y] /-T-/24)).alloc (.cells #[.int .i64 0, .int .i64 0, .int .i64 0, .int .i64 0, .slice none 0 0] /-T-/66)) := (by repeat (first | with_reducible exact Below.refl _ _ | with_reducible apply Below.drew | with_reducible refine below_drewN ?_ _ | (with_reducible refine Below.setCell ?_ ?_ _; rotate_left; focus (first | omega | (simp <;> omega))) | (with_reducible refine Below.alloc ?_ ?_ _; rotate_left; focus (first | omega | (simp <;> omega)))))
  have HA := Lib.hid hA
  clear hA
  go_enter Try.func47, Try.ntmps47
  go_wp2_with fail
  refine (K.out _ (HL.out.below HA.out)).mono ?_
  rintro e w1 ⟨rfl, b1⟩
  have B1 := Lib.hid (HA.out.trans (b1.mono HA.out.size))
  obtain ⟨hcc, hf⟩ := bcell b1
  have hs := b1.size
  simp at hs
  have lta0 : w.heap.size < w1.heap.size := by omega
  have lta1 : w.heap.size + 1 < w1.heap.size := by omega
  have lta2 : w.heap.size + 1 + 1 < w1.heap.size := by omega
  have lta3 : w.heap.size + 1 + 1 + 1 < w1.heap.size := by omega
  clear b1
  go_wp2_with fail
  refine (K2.out _ _).mono ?_
  rintro e w2 ⟨rfl, rfl⟩
  go_wp2
  have B2 := B1.out
  exact bodyPost_ret (v := .tuple #[fldV 0 0 0 0 none 0 0, .int .i64 q]) (by simp [results, Try.results47, go_sem, *]) rfl ⟨rfl, (by have hszz := B2.size; repeat (first | with_reducible exact B2 | with_reducible apply Below.drew | with_reducible refine below_drewN ?_ _ | (with_reducible refine Below.setCell ?_ ?_ _; rotate_left; focus (first | omega | (simp <;> omega))) | (with_reducible refine Below.alloc ?_ ?_ _; rotate_left; focus (first | omega | (simp <;> omega)))))⟩

/-- a right field: its region and values are right -/
structure Right (X Y : Int) (Wn Hn : Nat) (l : List Nat) : Prop where
  w1 : 1 ≤ Wn
  w2 : Wn ≤ 512
  h1 : 1 ≤ Hn
  h2 : Hn ≤ 512
  wh : Wn * Hn ≤ 65536
  x1 : -4194304 ≤ X
  x2 : X ≤ 4194304 - Wn
  y1 : -4194304 ≤ Y
  y2 : Y ≤ 4194304 - Hn
  len : l.length = Hn * Wn
  ht : ∀ x ∈ l, Ht x
theorem Right.chk {X Y : Int} {Wn Hn : Nat} {l : List Nat} (h : Right X Y Wn Hn l) : chkF X Y Wn Hn l = 0 := by
  have c : Go.Proofs.Ytgeeaegnohdejaa.chk X Y Wn Hn = 0 := by
    unfold Go.Proofs.Ytgeeaegnohdejaa.chk
    have e : ((Wn : Int) * (Hn : Int)) = ((Wn * Hn : Nat) : Int) := by rw [Int.natCast_mul]
    have := h.w1; have := h.w2; have := h.h1; have := h.h2; have := h.wh; have := h.x1; have := h.x2; have := h.y1; have := h.y2
    rw [if_neg (by omega), if_neg (by rw [e]; omega), if_neg (by omega)]
  rw [chkF_vals c (by rw [h.len, Int.natCast_mul, Int.mul_comm])]
  exact Ieee.Format.htE_of_ht (Ieee.Format.allHt_iff.2 h.ht)
theorem Right.ne {X Y : Int} {Wn Hn : Nat} {l : List Nat} (h : Right X Y Wn Hn l) : l ≠ [] := by
  intro e
  have := h.len
  rw [e] at this
  have := Nat.mul_le_mul h.h1 h.w1
  simp at *; omega

set_option maxHeartbeats 1000000 in
set_option maxRecDepth 100000 in
theorem scale_yes (X Y : Int) (Wn Hn : Nat) (b o c : Nat) (l : List Nat) (x y : Nat) (w : World) (hl : SRow w (some ⟨b, o, none⟩) l) (hr : Right X Y Wn Hn l) (hx : x < 4294967296) (hy : y < 4294967296) (hn : htE [x, y] = 0) :
    Calls Try.prog 47 #[fldV X Y Wn Hn (some ⟨b, o, none⟩) l.length c, .float .f32 x, .float .f32 y] w fun e w' => ResP X Y Wn Hn (l.map (scaleF x y)) w e w' := by
  have hts := Ieee.Format.allHt_iff.1 (Ieee.Format.htE_zero hn)
  have hax : Ht x := hts x (by simp)
  have hay : Ht y := hts y (by simp)
  have K := Lib.hid (fun w h => check_field X Y Wn Hn (some ⟨b, o, none⟩) c l w h)
  rw [hr.chk] at K
  have HL := Lib.hid hl
  have HT := Lib.hid hr.ht
  have H0 := Lib.hid hr.ne
  have HX := Lib.hid hax
  have HY := Lib.hid hay
  have K2 := Lib.hid (fun w c => heights_any (some ⟨w.heap.size, 0, none⟩) c [x, y] (w.alloc (.cells #[.float .f32 x, .float .f32 y] /-T-/24)) (row_two w x y hx hy _))
  rw [hn] at K2
  have eg := Lib.hid (enters_of Try.func93 (by kernel_rfl) rfl)
  have hlen := hl.1.1
  clear hl hx hy hn hts hax hay hr
  have hA : Below w.heap.size w ((((w.alloc (.cells #[.int .i64 X, .int .i64 Y, .int .i64 Wn, .int .i64 Hn, .slice (some ⟨b, o, none⟩) l.length c] /-T-/66)).alloc (.cells #[.float .f32 x] /-T-/24)).alloc (.cells #[.float .f32 y] /-T-/24)).alloc (.cells #[.int .i64 0, .int .i64 0, .int .i64 0, .int .i64 0, .slice none 0 0] /-T-/66)) := (by repeat (first | with_reducible exact Below.refl _ _ | with_reducible apply Below.drew | with_reducible refine below_drewN ?_ _ | (with_reducible refine Below.setCell ?_ ?_ _; rotate_left; focus (first | omega | (simp <;> omega))) | (with_reducible refine Below.alloc ?_ ?_ _; rotate_left; focus (first | omega | (simp <;> omega)))))
  have HA := Lib.hid hA
  clear hA
  go_enter Try.func47, Try.ntmps47
  go_wp2_with fail
  refine (K.out _ (HL.out.below HA.out)).mono ?_
  rintro e w1 ⟨rfl, b1⟩
  have B1 := Lib.hid (HA.out.trans (b1.mono HA.out.size))
  have cx : Hid (w1.cell? ⟨w.heap.size + 1, 0, none⟩ = some (.float .f32 x)) := by
    unfold Hid; exact (b1.cell (p := ⟨w.heap.size + 1, 0, none⟩) (by simp)).trans (by simp [go_sem])
  have cy : Hid (w1.cell? ⟨w.heap.size + 1 + 1, 0, none⟩ = some (.float .f32 y)) := by
    unfold Hid; exact (b1.cell (p := ⟨w.heap.size + 1 + 1, 0, none⟩) (by simp)).trans (by simp [go_sem])
  have FZ : Hid (Fld w1 (w.heap.size + 1 + 1 + 1) 0 0 0 0 (.slice none 0 0)) := by
    have := (Fld.new (((w.alloc (.cells #[.int .i64 X, .int .i64 Y, .int .i64 Wn, .int .i64 Hn, .slice (some ⟨b, o, none⟩) l.length c] /-T-/66)).alloc (.cells #[.float .f32 x] /-T-/24)).alloc (.cells #[.float .f32 y] /-T-/24)) 0 0 0 0 (.slice none 0 0)).below b1 (by simp)
    unfold Hid; simpa using this
  obtain ⟨hcc, hf⟩ := bcell b1
  have hs := b1.size
  simp at hs
  have lta0 : w.heap.size < w1.heap.size := by omega
  have lta1 : w.heap.size + 1 < w1.heap.size := by omega
  have lta2 : w.heap.size + 1 + 1 < w1.heap.size := by omega
  have lta3 : w.heap.size + 1 + 1 + 1 < w1.heap.size := by omega
  clear b1
  go_wp2_with fail
  refine (K2.out _ _).mono ?_
  rintro e w2 ⟨rfl, rfl⟩
  go_wp2_with fail
  have W3 : Hid (Below w1.heap.size w1 (w1.alloc (.cells #[.float .f32 x, .float .f32 y] /-T-/24))) := by
    unfold Hid; exact (by repeat (first | with_reducible exact Below.refl _ _ | with_reducible apply Below.drew | with_reducible refine below_drewN ?_ _ | (with_reducible refine Below.setCell ?_ ?_ _; rotate_left; focus (first | omega | (simp <;> omega))) | (with_reducible refine Below.alloc ?_ ?_ _; rotate_left; focus (first | omega | (simp <;> omega)))))
  have hfn : Hid (∀ z ∈ l, ∀ W', Below (w1.alloc (.cells #[.float .f32 x, .float .f32 y] /-T-/24)).heap.size (w1.alloc (.cells #[.float .f32 x, .float .f32 y] /-T-/24)) W' → Calls Try.prog /-F-/93 (#[.float .f32 z] ++ #[.pointer (some ⟨w.heap.size + 1, 0, none⟩), .pointer (some ⟨w.heap.size + 1 + 1, 0, none⟩)]) W' fun e w' => e = .returned (.float .f32 (scaleF x y z)) ∧ W' = w') := by
    intro z hz W' hb
    have hb1 : Below w1.heap.size w1 W' := W3.out.trans (hb.mono (by simp))
    exact scalefn_any z x y _ _ W' HX.out HY.out (HT.out z hz) ((hb1.cell (p := ⟨w.heap.size + 1, 0, none⟩) lta1).trans cx.out) ((hb1.cell (p := ⟨w.heap.size + 1 + 1, 0, none⟩) lta2).trans cy.out)
  refine (each_any /-F-/93 _ (scaleF x y) X Y Wn Hn b o c l _ (HL.out.below (B1.out.trans (W3.out.mono B1.out.size))) H0.out eg.out (fun z _ => Ieee.Format.addF_lt _ _) hfn.out).mono ?_
  rintro e w3 ⟨g, cap, rfl, ho, hb3⟩
  have B3 : Below w.heap.size w w3 := (B1.out.trans (W3.out.mono B1.out.size)).trans (hb3.mono (by simp; omega))
  have F3 := (FZ.out.alloc _).below hb3 (by simp; omega)
  have O3 : OwnF w3 w.heap.size g cap (l.map (scaleF x y)) := ho.base (by simp; omega)
  have hgl : w.heap.size + 1 + 1 + 1 < g := by have := ho.lt.1; simp at this; omega
  have HR3 : Hid (SRow w3 (some ⟨g, 0, none⟩) (l.map (scaleF x y))) := O3.row (by rw [List.length_map]; exact hlen)
  have HB3 := Lib.hid B3
  have HF3 := Lib.hid F3
  have HO3 := Lib.hid O3
  have hml : Hid ((l.map (scaleF x y)).length = l.length) := List.length_map _
  clear ho hb3 B3 F3 O3 hfn W3 B1 FZ K K2 HT HX HY cx cy HA H0 eg HL hcc hf
  generalize hmq : l.map (scaleF x y) = m at *
  have HMQ := Lib.hid hmq
  clear hmq
  cases hh : allHt m with
  | true =>
    have HH := Lib.hid hh
    go_wp2_with fail
    rw [← hml.out]
    refine (result_ok X Y Wn Hn g 0 cap m w3 HR3.out ?_).mono ?_
    · intro j hj
      have := Ieee.Format.allHt_iff.1 HH.out (m.getD j 0) (by rw [List.getD_eq_getElem?_getD, List.getElem?_eq_getElem hj]; exact List.getElem_mem hj)
      exact this
    rintro e w4 ⟨rfl, hb4⟩
    have F4 := HF3.out.below hb4 HF3.out.lt
    have O4 := HO3.out.below hb4 HO3.out.lt.2
    have B4 := HB3.out.trans (hb4.mono HB3.out.size)
    clear hh hb4
    obtain ⟨d0, d1, d2, d3, d4⟩ := F4.cells
    have qf0 := F4.frozen 0
    have qf1 := F4.frozen 1
    have qf2 := F4.frozen 2
    have qf3 := F4.frozen 3
    have qf4 := F4.frozen 4
    go_wp2_with fail
    obtain rfl := HMQ.out
    refine bodyPost_ret (v := .tuple #[fldV X Y Wn Hn (some ⟨g, 0, none⟩) (l.map (scaleF x y)).length cap, .int .i64 0]) (by simp [results, Try.results47, go_sem, *]) rfl ⟨fun _ => ⟨g, cap, rfl, (by have hgg := O4.lt; repeat (first | with_reducible exact O4 | with_reducible refine OwnF.drew ?_ | with_reducible refine OwnF.drewN ?_ _ | (with_reducible refine OwnF.setCell ?_ ?_ _; rotate_left; focus (first | omega | (simp <;> omega))) | with_reducible refine OwnF.alloc ?_ _))⟩, fun h => absurd (HH.out.symm.trans h) (by decide), (by have hszz := B4.size; repeat (first | with_reducible exact B4 | with_reducible apply Below.drew | with_reducible refine below_drewN ?_ _ | (with_reducible refine Below.setCell ?_ ?_ _; rotate_left; focus (first | omega | (simp <;> omega))) | (with_reducible refine Below.alloc ?_ ?_ _; rotate_left; focus (first | omega | (simp <;> omega)))))⟩
  | false =>
    have HH := Lib.hid hh
    go_wp2_with fail
    rw [← hml.out]
    refine (result_no X Y Wn Hn g 0 cap m w3 HR3.out hh).mono ?_
    rintro e w4 ⟨rfl, hb4⟩
    have F4 := HF3.out.below hb4 HF3.out.lt
    have B4 := HB3.out.trans (hb4.mono HB3.out.size)
    clear hh hb4
    obtain ⟨d0, d1, d2, d3, d4⟩ := F4.cells
    have qf0 := F4.frozen 0
    have qf1 := F4.frozen 1
    have qf2 := F4.frozen 2
    have qf3 := F4.frozen 3
    have qf4 := F4.frozen 4
    go_wp2_with fail
    obtain rfl := HMQ.out
    refine bodyPost_ret (v := .tuple #[fldV 0 0 0 0 none 0 0, .int .i64 3]) (by simp [results, Try.results47, go_sem, *]) rfl ⟨fun h => absurd (HH.out.symm.trans h) (by decide), fun _ => rfl, (by have hszz := B4.size; repeat (first | with_reducible exact B4 | with_reducible apply Below.drew | with_reducible refine below_drewN ?_ _ | (with_reducible refine Below.setCell ?_ ?_ _; rotate_left; focus (first | omega | (simp <;> omega))) | (with_reducible refine Below.alloc ?_ ?_ _; rotate_left; focus (first | omega | (simp <;> omega)))))⟩
end Go.Proofs.Ytgeeaegnohdejaa
