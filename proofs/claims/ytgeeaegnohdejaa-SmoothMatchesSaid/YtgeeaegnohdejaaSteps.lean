import Derived.Test.YtgeeaegnohdejaaStepFn
import Derived.Test.YtgeeaegnohdejaaScaleLaw
namespace Go.Proofs.Ytgeeaegnohdejaa
open Go.Shelf
open Go.ChangeShapes Go.WideShapes Go.ChangeAt Go.RowKit
open Ieee.Format (fin finE htE allFin allHt all_true all_false mulF subF addF Ht)
set_option linter.unusedVariables false

/-- a field's values after 'i' steps -/
def stepsL (φ : Nat → Nat → Nat → Nat → Nat → Nat) (X Y : Int) (Wn Hn : Nat) (l : List Nat) : Nat → List Nat
  | 0 => l
  | i + 1 => madeL (fun x y => nbr φ (stepsL φ X Y Wn Hn l i) (Wn - 2 * i) (cellNo (X + i) (Y + i) ((Wn - 2 * i : Nat) : Int) x y).toNat) (X + i + 1) (Y + i + 1) (Wn - 2 * i - 2) ((Hn - 2 * i - 2) * (Wn - 2 * i - 2))

theorem stepsL_len (φ : Nat → Nat → Nat → Nat → Nat → Nat) (X Y : Int) (Wn Hn : Nat) (l : List Nat) (hn : l.length = Hn * Wn) (i : Nat) : (stepsL φ X Y Wn Hn l i).length = (Hn - 2 * i) * (Wn - 2 * i) := by
  cases i with
  | zero => simpa [stepsL] using hn
  | succ i =>
    show (madeL _ _ _ _ _).length = _
    rw [madeL_len, show Hn - 2 * (i + 1) = Hn - 2 * i - 2 from by omega, show Wn - 2 * (i + 1) = Wn - 2 * i - 2 from by omega]

theorem getD_all {P : Nat → Prop} (h0 : P 0) {l : List Nat} (h : ∀ x ∈ l, P x) (j : Nat) : P (l.getD j 0) := by
  rcases Nat.lt_or_ge j l.length with hlt | hge
  · rw [List.getD_eq_getElem?_getD, List.getElem?_eq_getElem hlt]; exact h _ (List.getElem_mem hlt)
  · rw [List.getD_eq_getElem?_getD, List.getElem?_eq_none hge]; exact h0

theorem stepsL_all (P : Nat → Nat → Prop) (φ : Nat → Nat → Nat → Nat → Nat → Nat) (X Y : Int) (Wn Hn : Nat) (l : List Nat) (N : Nat) (h0 : ∀ i, P i 0) (hl : ∀ x ∈ l, P 0 x)
    (hφ : ∀ i, i < N → ∀ n s e w v, P i n → P i s → P i e → P i w → P i v → P (i + 1) (φ n s e w v)) : ∀ i, i ≤ N → ∀ x ∈ stepsL φ X Y Wn Hn l i, P i x := by
  intro i
  induction i with
  | zero => exact fun _ => hl
  | succ i ih =>
    intro hi x hx
    have H := getD_all (h0 i) (ih (by omega))
    change x ∈ madeL _ _ _ _ _ at hx
    unfold madeL at hx
    obtain ⟨k, _, rfl⟩ := List.mem_map.1 hx
    exact hφ i (by omega) _ _ _ _ _ (H _) (H _) (H _) (H _) (H _)

theorem steps_world (w : World) (X Y W H : Int) (v u : Value) : ∀ W0, W0 = ((w.alloc (.cells #[.int .i64 X, .int .i64 Y, .int .i64 W, .int .i64 H, v] /-T-/66)).alloc (.cells #[u] /-T-/120)).alloc (.cells #[.int .i64 0, .int .i64 0, .int .i64 0, .int .i64 0, .slice none 0 0] /-T-/66) →
    Fld W0 w.heap.size X Y W H v ∧ W0.cell? ⟨w.heap.size + 1, 0, none⟩ = some u ∧ Fld W0 (w.heap.size + 1 + 1) 0 0 0 0 (.slice none 0 0) ∧ Below w.heap.size w W0 ∧ W0.heap.size = w.heap.size + 3 := by
  rintro _ rfl
  refine ⟨((Fld.new w X Y W H v).alloc _).alloc _, by simp [go_sem], ?_, (by repeat (first | with_reducible exact Below.refl _ _ | with_reducible apply Below.drew | with_reducible refine below_drewN ?_ _ | (with_reducible refine Below.setCell ?_ ?_ _; rotate_left; focus (first | omega | (simp <;> omega))) | (with_reducible refine Below.alloc ?_ ?_ _; rotate_left; focus (first | omega | (simp <;> omega))))), by simp⟩
  have := Fld.new ((w.alloc (.cells #[.int .i64 X, .int .i64 Y, .int .i64 W, .int .i64 H, v] /-T-/66)).alloc (.cells #[u] /-T-/120)) 0 0 0 0 (.slice none 0 0)
  simpa using this

set_option maxRecDepth 100000 in
theorem steps_no (N : Nat) (X Y : Int) (Wn Hn : Nat) (a : Option Addr) (n c : Nat) (w : World) (hw : 1 ≤ Wn) (hw2 : Wn ≤ 512) (hh : 1 ≤ Hn) (hh2 : Hn ≤ 512) (hN : N ≤ 64) (hx0 : -8388608 ≤ X) (hx1 : X ≤ 8388608) (hy0 : -8388608 ≤ Y) (hy1 : Y ≤ 8388608)
    (h : Wn < 1 + 2 * N ∨ Hn < 1 + 2 * N) (fn : Nat) (caps : Array Value) :
    Calls Try.prog 101 #[fldV X Y Wn Hn a n c, .int .i64 N, .func (.func fn) #[] caps] w fun e w' => e = .returned (.tuple #[fldV 0 0 0 0 none 0 0, .int .i64 10]) ∧ Below w.heap.size w w' := by
  have K := Lib.hid (fun w' => smaller_no X Y Wn Hn N w' (by omega) (by omega) hx0 hx1 hy0 hy1 (by omega) (by omega) (by omega) (by omega) (by omega))
  clear h hx0 hx1 hy0 hy1 hw hh
  go_enter Try.func101, Try.ntmps101
  go_wp2_with fail
  generalize hW0 : ((w.alloc (.cells #[.int .i64 X, .int .i64 Y, .int .i64 Wn, .int .i64 Hn, .slice a n c] /-T-/66)).alloc (.cells #[.func (.func fn) #[] caps] /-T-/120)).alloc (.cells #[.int .i64 0, .int .i64 0, .int .i64 0, .int .i64 0, .slice none 0 0] /-T-/66) = W0 at *
  obtain ⟨_, _, F0, B0, z0⟩ := steps_world w X Y Wn Hn (.slice a n c) (.func (.func fn) #[] caps) W0 hW0.symm
  clear hW0
  refine (K.out _).mono ?_
  rintro e w1 ⟨rfl, b1⟩
  have F1 := F0.below b1 F0.lt
  have B1 := Lib.hid (B0.trans (b1.mono B0.size))
  clear b1 B0 F0
  obtain ⟨d0, d1, d2, d3, d4⟩ := F1.cells
  have qf0 := F1.frozen 0
  have qf1 := F1.frozen 1
  have qf2 := F1.frozen 2
  have qf3 := F1.frozen 3
  have qf4 := F1.frozen 4
  have l1 := F1.lt
  clear F1
  go_wp2_with fail
  have B2 := B1.out
  exact bodyPost_ret (v := .tuple #[fldV 0 0 0 0 none 0 0, .int .i64 10]) (by simp [results, Try.results101, go_sem, *]) rfl ⟨rfl, (by have hszz := B2.size; repeat (first | with_reducible exact B2 | with_reducible apply Below.drew | with_reducible refine below_drewN ?_ _ | (with_reducible refine Below.setCell ?_ ?_ _; rotate_left; focus (first | omega | (simp <;> omega))) | (with_reducible refine Below.alloc ?_ ?_ _; rotate_left; focus (first | omega | (simp <;> omega)))))⟩

/-- the loop of 'steps' -/
structure StepInv (w wr : World) (kt : Nat) (u : Value) (X Y W H : Int) (m : List Nat) (g cap : Nat) : Prop where
  fo : Fld wr kt X Y W H (.slice (some ⟨g, 0, none⟩) m.length cap)
  rz : Fld wr (w.heap.size + 1 + 1) 0 0 0 0 (.slice none 0 0)
  fc : wr.cell? ⟨w.heap.size + 1, 0, none⟩ = some u
  own : OwnF wr w.heap.size g cap m
  kg : w.heap.size + 1 + 1 < kt
  ne : g ≠ kt
  gr : w.heap.size + 1 + 1 < g
  below : Below w.heap.size w wr
theorem StepInv.upto {w wr w2 : World} {kt : Nat} {u : Value} {X Y W H : Int} {m : List Nat} {g cap : Nat} (h : StepInv w wr kt u X Y W H m g cap) (hb : Below wr.heap.size wr w2) : StepInv w w2 kt u X Y W H m g cap := by
  have hk := h.fo.lt
  have hg := h.kg
  exact ⟨h.fo.below hb h.fo.lt, h.rz.below hb h.rz.lt, (hb.cell (p := ⟨w.heap.size + 1, 0, none⟩) (by simp; omega)).trans h.fc, h.own.below hb h.own.lt.2, h.kg, h.ne, h.gr, h.below.trans (hb.mono h.below.size)⟩
theorem StepInv.next {w wr : World} {kt : Nat} {u : Value} {X Y W H : Int} {m : List Nat} {g cap : Nat} (h : StepInv w wr kt u X Y W H m g cap) {X' Y' W' H' : Int} {m' : List Nat} {g' cap' : Nat} (ho : OwnF wr w.heap.size g' cap' m') (hg : g' ≠ kt) (hr : w.heap.size + 1 + 1 < g') :
    ∀ W6, W6 = ((((wr.setCell ⟨kt, 0, none⟩ (.int .i64 X')).setCell ⟨kt, 1, none⟩ (.int .i64 Y')).setCell ⟨kt, 2, none⟩ (.int .i64 W')).setCell ⟨kt, 3, none⟩ (.int .i64 H')).setCell ⟨kt, 4, none⟩ (.slice (some ⟨g', 0, none⟩) m'.length cap') →
    StepInv w W6 kt u X' Y' W' H' m' g' cap' := by
  intro W6 e
  obtain ⟨f, b, oo, ff, z⟩ := fld_store wr kt X Y W H _ X' Y' W' H' (.slice (some ⟨g', 0, none⟩) m'.length cap') h.fo W6 e
  have hk := h.kg
  refine ⟨f, ff _ _ _ _ _ _ h.rz (by omega), ?_, oo _ _ _ _ ho hg, hk, hg, hr, h.below.trans (b.mono (by omega))⟩
  exact (b.cell (p := ⟨w.heap.size + 1, 0, none⟩) (by simp; omega)).trans h.fc

set_option maxRecDepth 100000 in
set_option maxHeartbeats 4000000 in
theorem steps_yes (fn : Nat) (caps : Array Value) (φ : Nat → Nat → Nat → Nat → Nat → Nat) (P : Nat → Nat → Prop) (N : Nat) (X Y : Int) (Wn Hn : Nat) (b o c : Nat) (l : List Nat) (w : World) (hl : SRow w (some ⟨b, o, none⟩) l) (hn : l.length = Hn * Wn) (hw : 1 + 2 * N ≤ Wn) (hw2 : Wn ≤ 512) (hh : 1 + 2 * N ≤ Hn) (hh2 : Hn ≤ 512) (hN : N ≤ 64) (hx0 : -8388000 ≤ X) (hx1 : X ≤ 8388000) (hy0 : -8388000 ≤ Y) (hy1 : Y ≤ 8388000)
    (eg : ∀ args w, (callFunc fn args).run Try.prog w = .ok (.enter fn args) w)
    (h0 : ∀ i, P i 0) (hl0 : ∀ x ∈ l, P 0 x) (hφ : ∀ i, i < N → ∀ n s e w v, P i n → P i s → P i e → P i w → P i v → P (i + 1) (φ n s e w v)) (hlt : ∀ i x, P i x → x < 4294967296)
    (hf : ∀ i, i < N → ∀ n s e wv v, P i n → P i s → P i e → P i wv → P i v → ∀ W', Below w.heap.size w W' → Calls Try.prog fn (#[.agg #[.float .f32 n, .float .f32 s, .float .f32 e, .float .f32 wv, .float .f32 v]] ++ caps) W' fun e' w' => e' = .returned (.float .f32 (φ n s e wv v)) ∧ Below W'.heap.size W' w') :
    Calls Try.prog 101 #[fldV X Y Wn Hn (some ⟨b, o, none⟩) l.length c, .int .i64 N, .func (.func fn) #[] caps] w fun e w' => ResP (X + N) (Y + N) (Wn - 2 * N : Nat) (Hn - 2 * N : Nat) (stepsL φ X Y Wn Hn l N) w e w' := by
  have K := Lib.hid (fun w' => smaller_ok X Y Wn Hn N w' (by omega) (by omega) (by omega) (by omega) (by omega) (by omega) (by omega) (by omega) (by omega) (by omega))
  have HF := Lib.hid hf
  have HL := Lib.hid hl
  have HP := Lib.hid (stepsL_all P φ X Y Wn Hn l N h0 hl0 hφ)
  have HQ := Lib.hid (stepsL_len φ X Y Wn Hn l hn)
  have HH := Lib.hid hlt
  have HZ := Lib.hid h0
  have ne : l ≠ [] := by
    rintro rfl
    have := Nat.mul_le_mul (show 1 ≤ Hn by omega) (show 1 ≤ Wn by omega)
    simp at hn; omega
  have KC := Lib.hid (fun w' hl => copy_any X Y Wn Hn b o c l w' hl ne)
  have HS := Lib.hid hφ
  have hll : l.length ≤ 1099511627776 := hl.1.1
  clear hf hl hl0 hφ hlt h0 ne hn
  go_enter Try.func101, Try.ntmps101
  go_wp2_with fail
  generalize hW0 : ((w.alloc (.cells #[.int .i64 X, .int .i64 Y, .int .i64 Wn, .int .i64 Hn, .slice (some ⟨b, o, none⟩) l.length c] /-T-/66)).alloc (.cells #[.func (.func fn) #[] caps] /-T-/120)).alloc (.cells #[.int .i64 0, .int .i64 0, .int .i64 0, .int .i64 0, .slice none 0 0] /-T-/66) = W0 at *
  obtain ⟨E0, c0, F0, B0, z0⟩ := steps_world w X Y Wn Hn (.slice (some ⟨b, o, none⟩) l.length c) (.func (.func fn) #[] caps) W0 hW0.symm
  clear hW0
  refine (K.out _).mono ?_
  rintro e w1 ⟨rfl, b1⟩
  have E1 := E0.below b1 E0.lt
  have F1 := Lib.hid (F0.below b1 F0.lt)
  have FC := Lib.hid ((b1.cell (p := ⟨w.heap.size + 1, 0, none⟩) (by simp; omega)).trans c0)
  have B1 := Lib.hid (B0.trans (b1.mono B0.size))
  have l1 := E1.lt
  have z1 : W0.heap.size ≤ w1.heap.size := b1.size
  clear b1 B0 F0 E0 c0
  obtain ⟨d0, d1, d2, d3, d4⟩ := E1.cells
  clear E1
  go_wp2_with fail
  -- the copy
  generalize hW2 : w1.alloc (.cells #[.int .i64 (X + N), .int .i64 (Y + N), .int .i64 (Wn - 2 * N), .int .i64 (Hn - 2 * N)] /-T-/30) = W2 at *
  have B2 : Below w1.heap.size w1 W2 := by subst hW2; exact (by repeat (first | with_reducible exact Below.refl _ _ | with_reducible apply Below.drew | with_reducible refine below_drewN ?_ _ | (with_reducible refine Below.setCell ?_ ?_ _; rotate_left; focus (first | omega | (simp <;> omega))) | (with_reducible refine Below.alloc ?_ ?_ _; rotate_left; focus (first | omega | (simp <;> omega)))))
  have F2 := F1.out.below B2 F1.out.lt
  have FC2 := Lib.hid ((B2.cell (p := ⟨w.heap.size + 1, 0, none⟩) (by simp; omega)).trans FC.out)
  have HB2 := Lib.hid (B1.out.trans (B2.mono B1.out.size))
  have z2 : w1.heap.size ≤ W2.heap.size := B2.size
  clear hW2 B2 F1 FC B1 d0 d1 d2 d3 d4
  refine (KC.out _ (HL.out.below HB2.out)).mono ?_
  rintro e w3 ⟨g, cap, rfl, ho, b3⟩
  have F3 := F2.below b3 F2.lt
  have FC3 := Lib.hid ((b3.cell (p := ⟨w.heap.size + 1, 0, none⟩) (by simp; omega)).trans FC2.out)
  have HB3 := Lib.hid (HB2.out.trans (b3.mono HB2.out.size))
  have z3 : W2.heap.size ≤ w3.heap.size := b3.size
  have HO3 := Lib.hid ho
  have HF3 := Lib.hid F3
  clear F3 F2 FC2 HB2 b3 ho KC HL K
  go_wp2_with fail
  generalize hW4 : w3.alloc (.cells #[.int .i64 X, .int .i64 Y, .int .i64 Wn, .int .i64 Hn, .slice (some ⟨g, 0, none⟩) l.length cap] /-T-/66) = W4 at *
  have I0 : StepInv w W4 w3.heap.size (.func (.func fn) #[] caps) X Y Wn Hn l g cap := by
    subst hW4
    have h1 := HO3.out.lt
    have hb := HB3.out
    exact ⟨Fld.new _ _ _ _ _ _, HF3.out.alloc _, ((show Below w3.heap.size w3 (w3.alloc (.cells #[.int .i64 X, .int .i64 Y, .int .i64 Wn, .int .i64 Hn, .slice (some ⟨g, 0, none⟩) l.length cap] /-T-/66)) from (by repeat (first | with_reducible exact Below.refl _ _ | with_reducible apply Below.drew | with_reducible refine below_drewN ?_ _ | (with_reducible refine Below.setCell ?_ ?_ _; rotate_left; focus (first | omega | (simp <;> omega))) | (with_reducible refine Below.alloc ?_ ?_ _; rotate_left; focus (first | omega | (simp <;> omega)))))).cell (p := ⟨w.heap.size + 1, 0, none⟩) (by simp; omega)).trans FC3.out, (HO3.out.base (by omega)).alloc _, by omega, by omega, by omega, (by have hszz := hb.size; repeat (first | with_reducible exact hb | with_reducible apply Below.drew | with_reducible refine below_drewN ?_ _ | (with_reducible refine Below.setCell ?_ ?_ _; rotate_left; focus (first | omega | (simp <;> omega))) | (with_reducible refine Below.alloc ?_ ?_ _; rotate_left; focus (first | omega | (simp <;> omega)))))⟩
  clear hW4 HO3 HB3 HF3 FC3
  have J0 := Lib.hid I0
  have hk0 : Hid (w.heap.size + 1 + 1 < w3.heap.size) := I0.kg
  clear I0
  clear z0 z1 z2 z3 l1
  generalize w3.heap.size = kt at *
  generalize w1.heap.size = kr at *
  go_loopw [28] (fun vi wr => ∃ i : Nat, i ≤ N ∧ vi = .int .i64 i ∧ ∃ g cap, StepInv w wr kt (.func (.func fn) #[] caps) (X + i) (Y + i) (Wn - 2 * i : Nat) (Hn - 2 * i : Nat) (stepsL φ X Y Wn Hn l i) g cap) (fun vi _ => (N - intOf vi).toNat)
  case atStart => exact ⟨0, by omega, rfl, g, cap, by simpa [stepsL] using J0.out⟩
  case round =>
    obtain ⟨i, hi, rfl, g, cap, I⟩ := hrel
    clear J0
    by_cases hlt : i < N
    · have hm1 : Hid ((stepsL φ X Y Wn Hn l i).length = (Hn - 2 * i) * (Wn - 2 * i)) := HQ.out i
      have hP : Hid (∀ j, P i ((stepsL φ X Y Wn Hn l i).getD j 0)) := getD_all (HZ.out i) (HP.out i hi)
      have hsu : Hid (stepsL φ X Y Wn Hn l (i + 1) = madeL (fun x y => nbr φ (stepsL φ X Y Wn Hn l i) (Wn - 2 * i) (cellNo (X + i) (Y + i) ((Wn - 2 * i : Nat) : Int) x y).toNat) (X + i + 1) (Y + i + 1) (Wn - 2 * i - 2) ((Hn - 2 * i - 2) * (Wn - 2 * i - 2))) := rfl
      have hw1 : Hid (Wn - 2 * (i + 1) = Wn - 2 * i - 2 ∧ Hn - 2 * (i + 1) = Hn - 2 * i - 2 ∧ X + ((i + 1 : Nat) : Int) = X + i + 1 ∧ Y + ((i + 1 : Nat) : Int) = Y + i + 1) := ⟨by omega, by omega, by omega, by omega⟩
      have x0 : -8388000 ≤ X + (i : Int) := by omega
      have x1 : X + (i : Int) ≤ 8388100 := by omega
      have y0 : -8388000 ≤ Y + (i : Int) := by omega
      have y1 : Y + (i : Int) ≤ 8388100 := by omega
      have w1 : 3 ≤ Wn - 2 * i := by omega
      have w2 : Wn - 2 * i ≤ 512 := by omega
      have h1 : 3 ≤ Hn - 2 * i := by omega
      have h2 : Hn - 2 * i ≤ 512 := by omega
      generalize hm2 : stepsL φ X Y Wn Hn l (i + 1) = m2 at *
      have HM2 := Lib.hid hm2
      clear hm2
      generalize stepsL φ X Y Wn Hn l i = m at *
      generalize X + (i : Int) = Xi at *
      generalize Y + (i : Int) = Yi at *
      generalize Wn - 2 * i = Wi at *
      generalize Hn - 2 * i = Hi at *
      have hml : m.length ≤ 1099511627776 := by rw [hm1.out]; have := Nat.mul_le_mul h2 w2; omega
      have KS : Hid (∀ w', Calls Try.prog 153 #[reg Xi Yi Wi Hi, .int .i64 1] w' fun e w'' => e = .returned (.tuple #[reg (Xi + 1) (Yi + 1) ((Wi - 2 : Nat) : Int) ((Hi - 2 : Nat) : Int), .int .i64 0]) ∧ Below w'.heap.size w' w'') := by
        intro w'
        have := smaller_ok Xi Yi Wi Hi 1 w' (by omega) (by omega) (by omega) (by omega) (by omega) (by omega) (by omega) (by omega) (by omega) (by omega)
        rw [show (Wi : Int) - 2 * 1 = ((Wi - 2 : Nat) : Int) from by omega, show (Hi : Int) - 2 * 1 = ((Hi - 2 : Nat) : Int) from by omega] at this
        exact this
      obtain ⟨c0, c1, c2, c3, c4⟩ := I.fo.cells
      have kl := I.fo.lt
      have HI := Lib.hid I
      clear I
      go_wp2_with fail
      generalize hWR : wr.alloc (.cells #[.int .i64 Xi, .int .i64 Yi, .int .i64 Wi, .int .i64 Hi, .slice (some ⟨g, 0, none⟩) m.length cap] /-T-/66) = WR at *
      have BR : Below wr.heap.size wr WR := by subst hWR; exact (by repeat (first | with_reducible exact Below.refl _ _ | with_reducible apply Below.drew | with_reducible refine below_drewN ?_ _ | (with_reducible refine Below.setCell ?_ ?_ _; rotate_left; focus (first | omega | (simp <;> omega))) | (with_reducible refine Below.alloc ?_ ?_ _; rotate_left; focus (first | omega | (simp <;> omega)))))
      have FR : Fld WR wr.heap.size Xi Yi Wi Hi (.slice (some ⟨g, 0, none⟩) m.length cap) := by subst hWR; exact Fld.new _ _ _ _ _ _
      have HI1 := Lib.hid (HI.out.upto BR)
      clear hWR BR HI c0 c1 c2 c3 c4
      have kl1 : Hid (kt < wr.heap.size) := kl
      generalize wr.heap.size = kf at *
      refine (KS.out _).mono ?_
      rintro e w5 ⟨rfl, b5⟩
      have HI2 := Lib.hid (HI1.out.upto b5)
      have F5 := FR.below b5 FR.lt
      have HF5 := Lib.hid F5
      have lf5 : kf < w5.heap.size := F5.lt
      clear b5 FR F5 HI1
      obtain ⟨c0, c1, c2, c3, c4⟩ := HF5.out.cells
      go_wp2_with fail
      generalize hW6 : w5.alloc (.cells #[.int .i64 (Xi + 1), .int .i64 (Yi + 1), .int .i64 ((Wi - 2 : Nat) : Int), .int .i64 ((Hi - 2 : Nat) : Int)] /-T-/30) = W6 at *
      have B6 : Below w5.heap.size w5 W6 := by subst hW6; exact (by repeat (first | with_reducible exact Below.refl _ _ | with_reducible apply Below.drew | with_reducible refine below_drewN ?_ _ | (with_reducible refine Below.setCell ?_ ?_ _; rotate_left; focus (first | omega | (simp <;> omega))) | (with_reducible refine Below.alloc ?_ ?_ _; rotate_left; focus (first | omega | (simp <;> omega)))))
      have HI3 := Lib.hid (HI2.out.upto B6)
      have HF6 := Lib.hid (HF5.out.below B6 lf5)
      clear hW6 B6 HI2 HF5 c0 c1 c2 c3 c4
      have hrow : Hid (SRow W6 (some ⟨g, 0, none⟩) m) := HI3.out.own.row hml
      refine (make_any 154 #[.pointer (some ⟨w.heap.size + 1, 0, none⟩), .pointer (some ⟨kf, 0, none⟩)] (fun x y => nbr φ m Wi (cellNo Xi Yi Wi x y).toNat) (Xi + 1) (Yi + 1) (Wi - 2) (Hi - 2) W6 (by omega) (by omega) (by omega) (by omega) (by omega) (by omega) (by omega) (by omega) (enters_of Try.func154 (by kernel_rfl) rfl) ?_ ?_).mono ?_
      · intro x y _ _ _ _
        exact HH.out (i + 1) _ (HS.out i hlt _ _ _ _ _ (hP.out _) (hP.out _) (hP.out _) (hP.out _) (hP.out _))
      · intro x y g1 g2 g3 g4 W' hb
        have hk0 : cellNo Xi Yi Wi x y = ((cellNo Xi Yi Wi x y).toNat : Int) ∧ Wi ≤ (cellNo Xi Yi Wi x y).toNat ∧ (cellNo Xi Yi Wi x y).toNat + Wi < m.length := by
          have e1 := Int.mul_le_mul_of_nonneg_right (show 1 ≤ y - Yi by omega) (show (0 : Int) ≤ Wi by omega)
          have e2 := Int.mul_le_mul_of_nonneg_right (show y - Yi ≤ (Hi : Int) - 2 by omega) (show (0 : Int) ≤ Wi by omega)
          have e3 : (m.length : Int) = (Hi : Int) * Wi := by rw [hm1.out, Int.natCast_mul]
          have e4 : ((Hi : Int) - 2) * (Wi : Int) = (Hi : Int) * Wi - 2 * Wi := Int.sub_mul _ _ _
          unfold cellNo
          omega
        obtain ⟨hk, hk1, hk2⟩ := hk0
        have I' := HI3.out.upto hb
        exact stepfn_any fn caps φ Xi Yi Wi Hi x y g 0 cap (cellNo Xi Yi Wi x y).toNat (w.heap.size + 1) kf m W' (hrow.out.below hb) (by omega) (by omega) (by omega) (by omega) (by omega) (by omega) (by omega) (by omega) (by omega) (by omega) hk hk1 hk2 eg (HF6.out.below hb HF6.out.lt) I'.fc (by have := I'.rz.lt; omega)
          (fun W'' hb2 => HF.out i hlt _ _ _ _ _ (hP.out _) (hP.out _) (hP.out _) (hP.out _) (hP.out _) W'' (I'.below.trans (hb2.mono I'.below.size)))
      rintro e w7 hM
      rw [← hsu.out] at hM
      obtain ⟨⟨g', cap', rfl, ho'⟩, b7⟩ := hM
      have I7 := HI3.out.upto b7
      have HI7 := Lib.hid I7
      have hgz : kt < W6.heap.size := HI3.out.fo.lt
      have hbz : w.heap.size ≤ W6.heap.size := HI3.out.below.size
      have hgk : Hid (g' ≠ kt ∧ w.heap.size + 1 + 1 < g') := by have := ho'.lt; have := HI3.out.kg; unfold Hid; omega
      have HO7 := Lib.hid (ho'.base hbz)
      clear b7 ho' HI3 HF6 hrow KS lf5
      have F7 := I7.fo
      clear I7
      obtain ⟨c0, c1, c2, c3, c4⟩ := F7.cells
      have qf0 := F7.frozen 0
      have qf1 := F7.frozen 1
      have qf2 := F7.frozen 2
      have qf3 := F7.frozen 3
      have qf4 := F7.frozen 4
      have kl7 := F7.lt
      clear F7
      go_wp2_with fail
      go_roundw
      case rel =>
        refine ⟨i + 1, by omega, by go_num, g', cap', ?_⟩
        obtain ⟨e1, e2, e3, e4⟩ := hw1.out
        rw [e1, e2, e3, e4]
        rw [HM2.out]
        exact HI7.out.next HO7.out hgk.out.1 hgk.out.2 _ rfl
      case measure => simp [intOf]; omega
    · obtain rfl : i = N := by omega
      have hm1 := HQ.out i
      have hml : (stepsL φ X Y Wn Hn l i).length ≤ 1099511627776 := by
        rw [hm1]; have := Nat.mul_le_mul (show Hn - 2 * i ≤ 512 by omega) (show Wn - 2 * i ≤ 512 by omega); omega
      clear hm1 HP HQ HS HF HH HZ
      generalize hmq : stepsL φ X Y Wn Hn l i = m at *
      have HMQ := Lib.hid hmq
      clear hmq
      have ey := Lib.hid (rfl : X + (i : Int) = X + (i : Int))
      obtain ⟨Xi, hXi⟩ : ∃ Xi : Int, X + (i : Int) = Xi := ⟨_, rfl⟩
      obtain ⟨Yi, hYi⟩ : ∃ Yi : Int, Y + (i : Int) = Yi := ⟨_, rfl⟩
      obtain ⟨Wi, hWi⟩ : ∃ Wi : Nat, Wn - 2 * i = Wi := ⟨_, rfl⟩
      obtain ⟨Hi, hHi⟩ : ∃ Hi : Nat, Hn - 2 * i = Hi := ⟨_, rfl⟩
      rw [hXi, hYi, hWi, hHi] at I
      have HXE : Hid (X + (i : Int) = Xi ∧ Y + (i : Int) = Yi ∧ Wn - 2 * i = Wi ∧ Hn - 2 * i = Hi) := ⟨hXi, hYi, hWi, hHi⟩
      clear hXi hYi hWi hHi ey
      obtain ⟨c0, c1, c2, c3, c4⟩ := I.fo.cells
      have kl := I.fo.lt
      have HR3 := Lib.hid (I.own.row hml)
      have HI := Lib.hid I
      clear I
      cases hh : allHt m with
      | true =>
        have HH := Lib.hid hh
        go_wp2_with fail
        refine (result_ok Xi Yi Wi Hi g 0 cap m wr HR3.out ?_).mono ?_
        · intro j hj
          have := Ieee.Format.allHt_iff.1 HH.out (m.getD j 0) (by rw [List.getD_eq_getElem?_getD, List.getElem?_eq_getElem hj]; exact List.getElem_mem hj)
          exact this
        rintro e w4 ⟨rfl, hb4⟩
        have I4 := HI.out.upto hb4
        have F4 := I4.rz
        have O4 := I4.own
        have gr4 := I4.gr
        have B4 := I4.below
        clear hh hb4 I4 c0 c1 c2 c3 c4
        obtain ⟨d0, d1, d2, d3, d4⟩ := F4.cells
        have qf0 := F4.frozen 0
        have qf1 := F4.frozen 1
        have qf2 := F4.frozen 2
        have qf3 := F4.frozen 3
        have qf4 := F4.frozen 4
        go_wp2_with fail
        obtain rfl := HMQ.out
        obtain ⟨x1, x2, x3, x4⟩ := HXE.out
        refine bodyPost_ret (v := .tuple #[fldV Xi Yi Wi Hi (some ⟨g, 0, none⟩) (stepsL φ X Y Wn Hn l i).length cap, .int .i64 0]) (by simp [results, Try.results101, go_sem, *]) rfl ⟨fun _ => ⟨g, cap, by rw [x1, x2, x3, x4], (by have hgg := O4.lt; repeat (first | with_reducible exact O4 | with_reducible refine OwnF.drew ?_ | with_reducible refine OwnF.drewN ?_ _ | (with_reducible refine OwnF.setCell ?_ ?_ _; rotate_left; focus (first | omega | (simp <;> omega))) | with_reducible refine OwnF.alloc ?_ _))⟩, fun h => absurd (HH.out.symm.trans h) (by decide), (by have hszz := B4.size; repeat (first | with_reducible exact B4 | with_reducible apply Below.drew | with_reducible refine below_drewN ?_ _ | (with_reducible refine Below.setCell ?_ ?_ _; rotate_left; focus (first | omega | (simp <;> omega))) | (with_reducible refine Below.alloc ?_ ?_ _; rotate_left; focus (first | omega | (simp <;> omega)))))⟩
      | false =>
        have HH := Lib.hid hh
        go_wp2_with fail
        refine (result_no Xi Yi Wi Hi g 0 cap m wr HR3.out hh).mono ?_
        rintro e w4 ⟨rfl, hb4⟩
        have I4 := HI.out.upto hb4
        have F4 := I4.rz
        have B4 := I4.below
        clear hh hb4 I4 c0 c1 c2 c3 c4
        obtain ⟨d0, d1, d2, d3, d4⟩ := F4.cells
        have qf0 := F4.frozen 0
        have qf1 := F4.frozen 1
        have qf2 := F4.frozen 2
        have qf3 := F4.frozen 3
        have qf4 := F4.frozen 4
        go_wp2_with fail
        obtain rfl := HMQ.out
        refine bodyPost_ret (v := .tuple #[fldV 0 0 0 0 none 0 0, .int .i64 3]) (by simp [results, Try.results101, go_sem, *]) rfl ⟨fun h => absurd (HH.out.symm.trans h) (by decide), fun _ => rfl, (by have hszz := B4.size; repeat (first | with_reducible exact B4 | with_reducible apply Below.drew | with_reducible refine below_drewN ?_ _ | (with_reducible refine Below.setCell ?_ ?_ _; rotate_left; focus (first | omega | (simp <;> omega))) | (with_reducible refine Below.alloc ?_ ?_ _; rotate_left; focus (first | omega | (simp <;> omega)))))⟩
end Go.Proofs.Ytgeeaegnohdejaa
