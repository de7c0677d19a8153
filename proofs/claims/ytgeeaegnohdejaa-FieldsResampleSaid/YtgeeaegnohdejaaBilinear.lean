import Derived.Test.YtgeeaegnohdejaaRefRow
namespace Go.Proofs.Ytgeeaegnohdejaa
open Go.Shelf
open Go.ChangeShapes Go.WideShapes Go.ChangeAt Go.RowKit
open Ieee.Format (fin finE htE allFin allHt all_true all_false mulF subF addF Ht Bd mixF mix_bd shareF share_facts)
set_option linter.unusedVariables false

theorem out_one (W : World) (g x : Nat) (hx : x < 4294967296) (h0 : W.cell? ⟨g, 0, none⟩ = some (.float .f32 x)) :
    Calls Try.prog 60 #[.slice (some ⟨g, 0, none⟩) 1 1] W fun e w' => e = .returned (.int .i64 (outE [x])) ∧ W = w' := by
  refine out_any (some ⟨g, 0, none⟩) 1 [x] W ⟨⟨by simp, by simp; exact hx⟩, .inr ⟨g, 0, rfl, ?_⟩⟩
  intro i hi
  obtain rfl : i = 0 := by simp at hi; omega
  exact h0
/-- the error of a value that may not be there -/
def bilC : Option Nat → Int
  | none => 5
  | some v => outE [v]
theorem rowV_lt {X Y : Int} {Wn Hn : Nat} {l : List Nat} {i y : Int} {s v : Nat} (hl : ∀ x ∈ l, x < 4294967296) (h : rowV X Y Wn Hn l i y s = some v) : v < 4294967296 := by
  unfold rowV at h
  split at h
  · split at h
    · cases h
      rcases Nat.lt_or_ge (cellNo X Y Wn i y).toNat l.length with hlt | hge
      · rw [List.getD_eq_getElem?_getD, List.getElem?_eq_getElem hlt]; exact hl _ (List.getElem_mem hlt)
      · rw [List.getD_eq_getElem?_getD, List.getElem?_eq_none hge]; show (0 : Nat) < 4294967296; decide
    · split at h
      · cases h; exact Ieee.Format.mixF_lt _ _ _
      · cases h
  · cases h

set_option maxRecDepth 100000 in
theorem bilinear_any (X Y : Int) (Wn Hn : Nat) (b o c : Nat) (i j : Int) (s t : Nat) (l : List Nat) (w : World) (hl : SRow w (some ⟨b, o, none⟩) l) (hn : l.length = Hn * Wn) (hb : ∀ j, Bd 20 (l.getD j 0)) (hs : Bd 0 s) (ht : Bd 0 t) (hw : 1 ≤ Wn) (hw2 : Wn ≤ 512) (hh : 1 ≤ Hn) (hh2 : Hn ≤ 512) (hx0 : -8388608 ≤ X) (hx1 : X ≤ 8388608) (hy0 : -8388608 ≤ Y) (hy1 : Y ≤ 8388608)
    (hi1 : -1073741823 ≤ i) (hi2 : i ≤ 1073741823) (hj1 : -1073741823 ≤ j) (hj2 : j ≤ 1073741823) :
    Calls Try.prog 112 #[fldV X Y Wn Hn (some ⟨b, o, none⟩) l.length c, .int .i64 i, .int .i64 j, .float .f32 s, .float .f32 t] w fun e w' => e = .returned (.tuple #[.float .f32 ((bilV X Y Wn Hn l i j s t).getD 0), .int .i64 (bilC (bilV X Y Wn Hn l i j s t))]) ∧ Below w.heap.size w w' := by
  have HL := Lib.hid hl
  have HB1 := Lib.hid (fun p h => rowV_bd (X := X) (Y := Y) (Wn := Wn) (Hn := Hn) (l := l) (i := i) (y := j) (s := s) (v := p) hb hs h)
  have HB2 := Lib.hid (fun p h => rowV_bd (X := X) (Y := Y) (Wn := Wn) (Hn := Hn) (l := l) (i := i) (y := j + 1) (s := s) (v := p) hb hs h)
  have HT := Lib.hid ht
  have HE : Hid (∀ p, rowV X Y Wn Hn l i j s = some p → zf t = true → bilV X Y Wn Hn l i j s t = some p) := fun p h1 h2 => by unfold bilV; rw [h1]; simp [h2]
  have HE0 : Hid (rowV X Y Wn Hn l i j s = none → bilV X Y Wn Hn l i j s t = none) := fun h1 => by unfold bilV; rw [h1]
  have HE1 : Hid (∀ p, rowV X Y Wn Hn l i j s = some p → zf t = false → rowV X Y Wn Hn l i (j + 1) s = none → bilV X Y Wn Hn l i j s t = none) := fun p h1 h2 h3 => by unfold bilV; rw [h1]; simp [h2, h3]
  have HE2 : Hid (∀ p q, rowV X Y Wn Hn l i j s = some p → zf t = false → rowV X Y Wn Hn l i (j + 1) s = some q → bilV X Y Wn Hn l i j s t = some (mixF p q t)) := fun p q h1 h2 h3 => by unfold bilV; rw [h1]; simp [h2, h3]
  have K1 := Lib.hid (fun w' hl k p q hf hp pl hq ql => refrow_fn X Y Wn Hn b o c k p q i j s l w' hl hn hb hs hw hw2 hh hh2 hx0 hx1 hy0 hy1 hi1 hi2 hj1 (by omega) hf hp pl hq ql)
  have K2 := Lib.hid (fun w' hl k p q hf hp pl hq ql => refrow_fn X Y Wn Hn b o c k p q i (j + 1) s l w' hl hn hb hs hw hw2 hh hh2 hx0 hx1 hy0 hy1 hi1 hi2 (by omega) (by omega) hf hp pl hq ql)
  have HLT := Lib.hid (fun p h => rowV_lt (X := X) (Y := Y) (Wn := Wn) (Hn := Hn) (l := l) (i := i) (y := j) (s := s) (v := p) hl.1.2 h)
  clear hb hs ht hl hn
  generalize rowV X Y Wn Hn l i j s = R1 at *
  generalize rowV X Y Wn Hn l i (j + 1) s = R2 at *
  generalize bilV X Y Wn Hn l i j s t = R at *
  go_enter Try.func112, Try.ntmps112
  go_wp2_with fail
  generalize hW0 : ((w.alloc (.cells #[.int .i64 X, .int .i64 Y, .int .i64 Wn, .int .i64 Hn, .slice (some ⟨b, o, none⟩) l.length c] /-T-/66)).alloc (.cells #[.int .i64 i] /-T-/3)).alloc (.cells #[.float .f32 s] /-T-/24) = W0 at *
  obtain ⟨F0, p0, q0, B0, z0⟩ := bil_world w X Y Wn Hn _ i s W0 hW0.symm
  clear hW0
  have HL0 := Lib.hid (HL.out.below B0)
  have HF0 := Lib.hid F0
  have HB0 := Lib.hid B0
  have HP0 := Lib.hid p0
  have HQ0 := Lib.hid q0
  clear F0 p0 q0 B0 HL
  refine (K1.out W0 HL0.out w.heap.size (w.heap.size + 1) (w.heap.size + 1 + 1) HF0.out HP0.out (by omega) HQ0.out (by omega)).mono ?_
  rintro e w1 ⟨rfl, b1⟩
  have HBB := Lib.hid (HB0.out.trans (b1.mono HB0.out.size))
  have HF1 := Lib.hid (HF0.out.below b1 HF0.out.lt)
  have HP1 := Lib.hid ((b1.cell (p := ⟨w.heap.size + 1, 0, none⟩) (by simp; omega)).trans HP0.out)
  have HQ1 := Lib.hid ((b1.cell (p := ⟨w.heap.size + 1 + 1, 0, none⟩) (by simp; omega)).trans HQ0.out)
  have HL1 := Lib.hid (HL0.out.below b1)
  have z1 : W0.heap.size ≤ w1.heap.size := b1.size
  clear b1 K1 HF0 HP0 HQ0 HL0 HB0
  cases hr1 : R1 with
  | none =>
    obtain rfl := HE0.out hr1
    clear hr1
    go_wp2_with fail
    refine bodyPost_ret (v := .tuple #[.float .f32 0, .int .i64 5]) (by simp [results, Try.results112, go_sem, *]) rfl ⟨rfl, HBB.out⟩
  | some p =>
    by_cases hz : zf t = true
    · obtain rfl := HE.out p hr1 hz
      have zz : (Go.FloatKind.f32.format.order t 0 == some .eq) = true := hz
      have KO := Lib.hid (fun W g h0 => out_one W g p (HLT.out p hr1) h0)
      clear hr1 hz
      simp only [Option.getD_some, Option.isSome_some]
      go_wp2_with fail
      refine (KO.out _ _ (by simp [go_sem])).mono ?_
      rintro e w3 ⟨rfl, rfl⟩
      have hB := HBB.out
      generalize hoe : outE [p] = oe at *
      have HOE := Lib.hid hoe
      clear hoe
      go_wp2_with fail
      refine bodyPost_ret (v := .tuple #[.float .f32 p, .int .i64 oe]) (by simp [results, Try.results112, go_sem, *]) rfl ⟨by rw [← HOE.out]; rfl, (by have hszz := hB.size; repeat (first | with_reducible exact hB | with_reducible apply Below.drew | with_reducible refine below_drewN ?_ _ | (with_reducible refine Below.setCell ?_ ?_ _; rotate_left; focus (first | omega | (simp <;> omega))) | (with_reducible refine Below.alloc ?_ ?_ _; rotate_left; focus (first | omega | (simp <;> omega)))))⟩
    · have hz' : zf t = false := by simpa using hz
      have zz : (Go.FloatKind.f32.format.order t 0 == some .eq) = false := hz'
      have HR1 := Lib.hid hr1
      clear hr1 hz
      have HZ := Lib.hid hz'
      clear hz'
      have j3 : j + 1 ≤ 1099511627777 := by omega
      simp only [Option.getD_some, Option.isSome_some]
      go_wp2_with fail
      refine (K2.out w1 HL1.out w.heap.size (w.heap.size + 1) (w.heap.size + 1 + 1) HF1.out HP1.out (by omega) HQ1.out (by omega)).mono ?_
      rintro e w2 ⟨rfl, b2⟩
      have HB3 := Lib.hid (HBB.out.trans (b2.mono HBB.out.size))
      clear b2 K2
      cases hr2 : R2 with
      | none =>
        obtain rfl := HE1.out p HR1.out HZ.out hr2
        clear hr2
        go_wp2_with fail
        refine bodyPost_ret (v := .tuple #[.float .f32 0, .int .i64 5]) (by simp [results, Try.results112, go_sem, *]) rfl ⟨rfl, HB3.out⟩
      | some q =>
        obtain rfl := HE2.out p q HR1.out HZ.out hr2
        have KM := Lib.hid (fun w' => lerp_any 22 p q t w' (HB1.out p HR1.out) (HB2.out q hr2) HT.out (by omega))
        clear hr2
        generalize hmz : mixF p q t = z at *
        have HZZ := Lib.hid hmz
        clear hmz
        simp only [Option.getD_some, Option.isSome_some]
        have KO := Lib.hid (fun W g h0 => out_one W g z (by rw [← HZZ.out]; exact Ieee.Format.mixF_lt _ _ _) h0)
        go_wp2_with fail
        refine (KM.out _).mono ?_
        rintro e w3 ⟨rfl, rfl⟩
        go_wp2_with fail
        refine (KO.out _ _ (by simp [go_sem])).mono ?_
        rintro e w3 ⟨rfl, rfl⟩
        have hB := HB3.out
        generalize hoe : outE [z] = oe at *
        have HOE := Lib.hid hoe
        clear hoe
        go_wp2_with fail
        refine bodyPost_ret (v := .tuple #[.float .f32 z, .int .i64 oe]) (by simp [results, Try.results112, go_sem, *]) rfl ⟨by rw [← HOE.out, ← HZZ.out]; rfl, (by have hszz := hB.size; repeat (first | with_reducible exact hB | with_reducible apply Below.drew | with_reducible refine below_drewN ?_ _ | (with_reducible refine Below.setCell ?_ ?_ _; rotate_left; focus (first | omega | (simp <;> omega))) | (with_reducible refine Below.alloc ?_ ?_ _; rotate_left; focus (first | omega | (simp <;> omega)))))⟩
end Go.Proofs.Ytgeeaegnohdejaa
