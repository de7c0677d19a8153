import Derived.Test.YtnfebeebjelgbaaTer
import Derived.Deep.RegionHeld3
namespace Go.Proofs.Ytnfebeebjelgbaa
open Go.ChangeShapes Go.WideShapes Go.ChangeAt Go.RowKit
open Ieee.Format (fin finE htE allFin allHt all_true all_false mulF subF addF Ht Bd divF rootF floorF easeF mixF)
set_option linter.unusedVariables false

theorem box_f2c (w : World) (X Y W H : Int) (v : Value) (c1 c2 : Array Value) (t : TypeId) : ∀ W0, W0 = (((w.alloc (.cells #[.int .i64 X, .int .i64 Y, .int .i64 W, .int .i64 H, v] 36)).alloc (.cells c1 t)).alloc (.cells c2 t)).alloc (.cells #[.int .i64 0, .int .i64 0, .int .i64 0, .int .i64 0, .slice none 0 0] 36) →
    Fld W0 w.heap.size X Y W H v ∧ Blk W0 (w.heap.size + 1) c1 t ∧ Blk W0 (w.heap.size + 1 + 1) c2 t ∧ Fld W0 (w.heap.size + 1 + 1 + 1) 0 0 0 0 (.slice none 0 0) ∧ Below w.heap.size w W0 := by
  rintro _ rfl
  refine ⟨(((Fld.new w X Y W H v).alloc _).alloc _).alloc _, ?_, ?_, ?_, (by repeat (first | with_reducible exact Below.refl _ _ | with_reducible apply Below.drew | with_reducible refine below_drewN ?_ _ | (with_reducible refine Below.setCell ?_ ?_ _; rotate_left; focus (first | omega | (simp <;> omega))) | (with_reducible refine Below.alloc ?_ ?_ _; rotate_left; focus (first | omega | (simp <;> omega)))))⟩
  · have := ((Blk.new (w.alloc (.cells #[.int .i64 X, .int .i64 Y, .int .i64 W, .int .i64 H, v] 36)) c1 t).alloc (.cells c2 t)).alloc (.cells #[.int .i64 0, .int .i64 0, .int .i64 0, .int .i64 0, .slice none 0 0] 36)
    simpa using this
  · have := (Blk.new ((w.alloc (.cells #[.int .i64 X, .int .i64 Y, .int .i64 W, .int .i64 H, v] 36)).alloc (.cells c1 t)) c2 t).alloc (.cells #[.int .i64 0, .int .i64 0, .int .i64 0, .int .i64 0, .slice none 0 0] 36)
    simpa using this
  · have := Fld.new (((w.alloc (.cells #[.int .i64 X, .int .i64 Y, .int .i64 W, .int .i64 H, v] 36)).alloc (.cells c1 t)).alloc (.cells c2 t)) 0 0 0 0 (.slice none 0 0)
    simpa using this

set_option maxRecDepth 100000 in
set_option maxHeartbeats 1000000 in
theorem terrace_bad (X Y : Int) (Wn Hn : Nat) (b o c : Nat) (l : List Nat) (s h : Nat) (w : World) (hl : SRow w (some ⟨b, o, none⟩) l) (hr : Right X Y Wn Hn l) (h1 : s < 4294967296) (h2 : h < 4294967296) (hn : terC s h ≠ 0) :
    Calls Try.prog 71 #[fldV X Y Wn Hn (some ⟨b, o, none⟩) l.length c, .float .f32 s, .float .f32 h] w fun e w' => e = .returned (.tuple #[fldV 0 0 0 0 none 0 0, .int .i64 (terC s h)]) ∧ Below w.heap.size w w' := by
  have K := Lib.hid (fun w h => check_field X Y Wn Hn (some ⟨b, o, none⟩) c l w h)
  rw [hr.chk] at K
  have HL := Lib.hid hl
  have KH := Lib.hid (fun W g c0 c1 => heights_two W g s h h1 h2 c0 c1)
  by_cases ha : htE [s, h] = 0
  · have hts := Ieee.Format.allHt_iff.1 (Ieee.Format.htE_zero ha)
    have hsf : fin Ieee.single s := (hts s (by simp)).fin
    have KC := Lib.hid (fun w => checkstep_any s w h1 hsf)
    have e3 : terC s h = 3 := by
      unfold terC at hn ⊢
      rw [if_neg (by omega)] at hn ⊢
      by_cases c1 : stepC s = 0
      · rw [if_neg (by omega)] at hn ⊢
        cases c2 : lss h 0 with
        | true => rw [if_pos rfl]
        | false =>
          rw [c2, if_neg (by decide)] at hn
          rw [if_neg (by decide)]
          cases c3 : gee h 1065353216 with
          | true => rw [if_pos rfl]
          | false => rw [c3, if_neg (by decide)] at hn; exact absurd rfl hn
      · rw [if_pos c1]
    have hways : stepC s = 3 ∨ (stepC s = 0 ∧ lss h 0 = true) ∨ (stepC s = 0 ∧ lss h 0 = false ∧ gee h 1065353216 = true) := by
      have hs3 : stepC s = 0 ∨ stepC s = 3 := by unfold stepC; split; exact .inr rfl; split; exact .inr rfl; exact .inl rfl
      rcases hs3 with c1 | c1
      · unfold terC at e3
        rw [if_neg (by omega), if_neg (by omega)] at e3
        cases c2 : lss h 0 with
        | true => exact .inr (.inl ⟨c1, rfl⟩)
        | false =>
          rw [c2, if_neg (by decide)] at e3
          cases c3 : gee h 1065353216 with
          | true => exact .inr (.inr ⟨c1, rfl, rfl⟩)
          | false => rw [c3, if_neg (by decide)] at e3; omega
      · exact .inl c1
    rw [e3]
    rw [ha] at KH
    clear hl hr h1 h2 hn ha hts hsf e3
    rcases hways with c1 | ⟨c1, c2⟩ | ⟨c1, c2, c3⟩
    · rw [c1] at KC
      clear c1
      go_enter Try.func71, Try.ntmps71
      go_wp2_with fail
      generalize hW0 : (((w.alloc (.cells #[.int .i64 X, .int .i64 Y, .int .i64 Wn, .int .i64 Hn, .slice (some ⟨b, o, none⟩) l.length c] 36)).alloc (.cells #[.float .f32 s] 37)).alloc (.cells #[.float .f32 h] 37)).alloc (.cells #[.int .i64 0, .int .i64 0, .int .i64 0, .int .i64 0, .slice none 0 0] 36) = W0 at *
      obtain ⟨E0, P0, Q0, F0, B0⟩ := box_f2c w X Y Wn Hn (.slice (some ⟨b, o, none⟩) l.length c) #[.float .f32 s] #[.float .f32 h] 37 W0 hW0.symm
      clear hW0
      refine (K.out _ (HL.out.below B0)).mono ?_
      rintro e w1 ⟨rfl, b1⟩
      have HE1 := Lib.hid (E0.below b1 E0.lt)
      have HP1 := Lib.hid (P0.below b1 P0.lt)
      have HQ1 := Lib.hid (Q0.below b1 Q0.lt)
      have HF1 := Lib.hid (F0.below b1 F0.lt)
      have HL1 := Lib.hid ((HL.out.below B0).below b1)
      have HB1 := Lib.hid (B0.trans (b1.mono B0.size))
      clear b1 B0 F0 E0 P0 Q0 K HL
      have p0 : w1.cell? ⟨w.heap.size + 1, 0, none⟩ = some (.float .f32 s) := HP1.out.cell 0
      have p1 : w1.cell? ⟨w.heap.size + 1 + 1, 0, none⟩ = some (.float .f32 h) := HQ1.out.cell 0
      have l3 : w.heap.size + 1 + 1 + 1 < w1.heap.size := HF1.out.lt
      have l2 : w.heap.size + 1 + 1 < w1.heap.size := by omega
      have l1 : w.heap.size + 1 < w1.heap.size := by omega
      have l0 : w.heap.size < w1.heap.size := by omega
      go_wp2_with fail
      refine (KH.out _ _ (by simp [go_sem]) (by simp [go_sem])).mono ?_
      rintro e w2 ⟨rfl, rfl⟩
      go_wp2_with fail
      refine (KC.out _).mono ?_
      rintro e w2 ⟨rfl, b2⟩
      have b0 : Below w1.heap.size w1 (w1.alloc (.cells #[.float .f32 s, .float .f32 h] 37)) := (by repeat (first | with_reducible exact Below.refl _ _ | with_reducible apply Below.drew | with_reducible refine below_drewN ?_ _ | (with_reducible refine Below.setCell ?_ ?_ _; rotate_left; focus (first | omega | (simp <;> omega))) | (with_reducible refine Below.alloc ?_ ?_ _; rotate_left; focus (first | omega | (simp <;> omega)))))
      have b2' := b0.trans (b2.mono b0.size)
      have HE2 := Lib.hid (HE1.out.below b2' HE1.out.lt)
      have HP2 := Lib.hid (HP1.out.below b2' HP1.out.lt)
      have HQ2 := Lib.hid (HQ1.out.below b2' HQ1.out.lt)
      have HF2 := Lib.hid (HF1.out.below b2' HF1.out.lt)
      have HL2 := Lib.hid (HL1.out.below b2')
      have HB2 := Lib.hid (HB1.out.trans (b2'.mono HB1.out.size))
      clear b0 b2 b2' p0 p1 l0 l1 l2 l3 HE1 HP1 HQ1 HF1 HL1 HB1
      have p0 : w2.cell? ⟨w.heap.size + 1, 0, none⟩ = some (.float .f32 s) := HP2.out.cell 0
      have p1 : w2.cell? ⟨w.heap.size + 1 + 1, 0, none⟩ = some (.float .f32 h) := HQ2.out.cell 0
      have l3 : w.heap.size + 1 + 1 + 1 < w2.heap.size := HF2.out.lt
      have l2 : w.heap.size + 1 + 1 < w2.heap.size := by omega
      have l1 : w.heap.size + 1 < w2.heap.size := by omega
      have l0 : w.heap.size < w2.heap.size := by omega
      obtain ⟨d0, d1, d2, d3, d4⟩ := HF2.out.cells
      have qf0 := HF2.out.frozen 0
      have qf1 := HF2.out.frozen 1
      have qf2 := HF2.out.frozen 2
      have qf3 := HF2.out.frozen 3
      have qf4 := HF2.out.frozen 4
      go_wp2_with fail
      have B3 := HB2.out
      exact bodyPost_ret (v := .tuple #[fldV 0 0 0 0 none 0 0, .int .i64 3]) (by simp [results, Try.results71, go_sem, *]) rfl ⟨rfl, (by have hszz := B3.size; repeat (first | with_reducible exact B3 | with_reducible apply Below.drew | with_reducible refine below_drewN ?_ _ | (with_reducible refine Below.setCell ?_ ?_ _; rotate_left; focus (first | omega | (simp <;> omega))) | (with_reducible refine Below.alloc ?_ ?_ _; rotate_left; focus (first | omega | (simp <;> omega)))))⟩
    · rw [c1] at KC
      change (FloatKind.f32.format.order h 0 == some .lt) = true at c2
      clear c1
      go_enter Try.func71, Try.ntmps71
      go_wp2_with fail
      generalize hW0 : (((w.alloc (.cells #[.int .i64 X, .int .i64 Y, .int .i64 Wn, .int .i64 Hn, .slice (some ⟨b, o, none⟩) l.length c] 36)).alloc (.cells #[.float .f32 s] 37)).alloc (.cells #[.float .f32 h] 37)).alloc (.cells #[.int .i64 0, .int .i64 0, .int .i64 0, .int .i64 0, .slice none 0 0] 36) = W0 at *
      obtain ⟨E0, P0, Q0, F0, B0⟩ := box_f2c w X Y Wn Hn (.slice (some ⟨b, o, none⟩) l.length c) #[.float .f32 s] #[.float .f32 h] 37 W0 hW0.symm
      clear hW0
      refine (K.out _ (HL.out.below B0)).mono ?_
      rintro e w1 ⟨rfl, b1⟩
      have HE1 := Lib.hid (E0.below b1 E0.lt)
      have HP1 := Lib.hid (P0.below b1 P0.lt)
      have HQ1 := Lib.hid (Q0.below b1 Q0.lt)
      have HF1 := Lib.hid (F0.below b1 F0.lt)
      have HL1 := Lib.hid ((HL.out.below B0).below b1)
      have HB1 := Lib.hid (B0.trans (b1.mono B0.size))
      clear b1 B0 F0 E0 P0 Q0 K HL
      have p0 : w1.cell? ⟨w.heap.size + 1, 0, none⟩ = some (.float .f32 s) := HP1.out.cell 0
      have p1 : w1.cell? ⟨w.heap.size + 1 + 1, 0, none⟩ = some (.float .f32 h) := HQ1.out.cell 0
      have l3 : w.heap.size + 1 + 1 + 1 < w1.heap.size := HF1.out.lt
      have l2 : w.heap.size + 1 + 1 < w1.heap.size := by omega
      have l1 : w.heap.size + 1 < w1.heap.size := by omega
      have l0 : w.heap.size < w1.heap.size := by omega
      go_wp2_with fail
      refine (KH.out _ _ (by simp [go_sem]) (by simp [go_sem])).mono ?_
      rintro e w2 ⟨rfl, rfl⟩
      go_wp2_with fail
      refine (KC.out _).mono ?_
      rintro e w2 ⟨rfl, b2⟩
      have b0 : Below w1.heap.size w1 (w1.alloc (.cells #[.float .f32 s, .float .f32 h] 37)) := (by repeat (first | with_reducible exact Below.refl _ _ | with_reducible apply Below.drew | with_reducible refine below_drewN ?_ _ | (with_reducible refine Below.setCell ?_ ?_ _; rotate_left; focus (first | omega | (simp <;> omega))) | (with_reducible refine Below.alloc ?_ ?_ _; rotate_left; focus (first | omega | (simp <;> omega)))))
      have b2' := b0.trans (b2.mono b0.size)
      have HE2 := Lib.hid (HE1.out.below b2' HE1.out.lt)
      have HP2 := Lib.hid (HP1.out.below b2' HP1.out.lt)
      have HQ2 := Lib.hid (HQ1.out.below b2' HQ1.out.lt)
      have HF2 := Lib.hid (HF1.out.below b2' HF1.out.lt)
      have HL2 := Lib.hid (HL1.out.below b2')
      have HB2 := Lib.hid (HB1.out.trans (b2'.mono HB1.out.size))
      clear b0 b2 b2' p0 p1 l0 l1 l2 l3 HE1 HP1 HQ1 HF1 HL1 HB1
      have p0 : w2.cell? ⟨w.heap.size + 1, 0, none⟩ = some (.float .f32 s) := HP2.out.cell 0
      have p1 : w2.cell? ⟨w.heap.size + 1 + 1, 0, none⟩ = some (.float .f32 h) := HQ2.out.cell 0
      have l3 : w.heap.size + 1 + 1 + 1 < w2.heap.size := HF2.out.lt
      have l2 : w.heap.size + 1 + 1 < w2.heap.size := by omega
      have l1 : w.heap.size + 1 < w2.heap.size := by omega
      have l0 : w.heap.size < w2.heap.size := by omega
      obtain ⟨d0, d1, d2, d3, d4⟩ := HF2.out.cells
      have qf0 := HF2.out.frozen 0
      have qf1 := HF2.out.frozen 1
      have qf2 := HF2.out.frozen 2
      have qf3 := HF2.out.frozen 3
      have qf4 := HF2.out.frozen 4
      go_wp2_with fail
      have B3 := HB2.out
      exact bodyPost_ret (v := .tuple #[fldV 0 0 0 0 none 0 0, .int .i64 3]) (by simp [results, Try.results71, go_sem, *]) rfl ⟨rfl, (by have hszz := B3.size; repeat (first | with_reducible exact B3 | with_reducible apply Below.drew | with_reducible refine below_drewN ?_ _ | (with_reducible refine Below.setCell ?_ ?_ _; rotate_left; focus (first | omega | (simp <;> omega))) | (with_reducible refine Below.alloc ?_ ?_ _; rotate_left; focus (first | omega | (simp <;> omega)))))⟩
    · rw [c1] at KC
      change (FloatKind.f32.format.order h 0 == some .lt) = false at c2
      change (FloatKind.f32.format.order h 1065353216 == some .gt || FloatKind.f32.format.order h 1065353216 == some .eq) = true at c3
      clear c1
      go_enter Try.func71, Try.ntmps71
      go_wp2_with fail
      generalize hW0 : (((w.alloc (.cells #[.int .i64 X, .int .i64 Y, .int .i64 Wn, .int .i64 Hn, .slice (some ⟨b, o, none⟩) l.length c] 36)).alloc (.cells #[.float .f32 s] 37)).alloc (.cells #[.float .f32 h] 37)).alloc (.cells #[.int .i64 0, .int .i64 0, .int .i64 0, .int .i64 0, .slice none 0 0] 36) = W0 at *
      obtain ⟨E0, P0, Q0, F0, B0⟩ := box_f2c w X Y Wn Hn (.slice (some ⟨b, o, none⟩) l.length c) #[.float .f32 s] #[.float .f32 h] 37 W0 hW0.symm
      clear hW0
      refine (K.out _ (HL.out.below B0)).mono ?_
      rintro e w1 ⟨rfl, b1⟩
      have HE1 := Lib.hid (E0.below b1 E0.lt)
      have HP1 := Lib.hid (P0.below b1 P0.lt)
      have HQ1 := Lib.hid (Q0.below b1 Q0.lt)
      have HF1 := Lib.hid (F0.below b1 F0.lt)
      have HL1 := Lib.hid ((HL.out.below B0).below b1)
      have HB1 := Lib.hid (B0.trans (b1.mono B0.size))
      clear b1 B0 F0 E0 P0 Q0 K HL
      have p0 : w1.cell? ⟨w.heap.size + 1, 0, none⟩ = some (.float .f32 s) := HP1.out.cell 0
      have p1 : w1.cell? ⟨w.heap.size + 1 + 1, 0, none⟩ = some (.float .f32 h) := HQ1.out.cell 0
      have l3 : w.heap.size + 1 + 1 + 1 < w1.heap.size := HF1.out.lt
      have l2 : w.heap.size + 1 + 1 < w1.heap.size := by omega
      have l1 : w.heap.size + 1 < w1.heap.size := by omega
      have l0 : w.heap.size < w1.heap.size := by omega
      go_wp2_with fail
      refine (KH.out _ _ (by simp [go_sem]) (by simp [go_sem])).mono ?_
      rintro e w2 ⟨rfl, rfl⟩
      go_wp2_with fail
      refine (KC.out _).mono ?_
      rintro e w2 ⟨rfl, b2⟩
      have b0 : Below w1.heap.size w1 (w1.alloc (.cells #[.float .f32 s, .float .f32 h] 37)) := (by repeat (first | with_reducible exact Below.refl _ _ | with_reducible apply Below.drew | with_reducible refine below_drewN ?_ _ | (with_reducible refine Below.setCell ?_ ?_ _; rotate_left; focus (first | omega | (simp <;> omega))) | (with_reducible refine Below.alloc ?_ ?_ _; rotate_left; focus (first | omega | (simp <;> omega)))))
      have b2' := b0.trans (b2.mono b0.size)
      have HE2 := Lib.hid (HE1.out.below b2' HE1.out.lt)
      have HP2 := Lib.hid (HP1.out.below b2' HP1.out.lt)
      have HQ2 := Lib.hid (HQ1.out.below b2' HQ1.out.lt)
      have HF2 := Lib.hid (HF1.out.below b2' HF1.out.lt)
      have HL2 := Lib.hid (HL1.out.below b2')
      have HB2 := Lib.hid (HB1.out.trans (b2'.mono HB1.out.size))
      clear b0 b2 b2' p0 p1 l0 l1 l2 l3 HE1 HP1 HQ1 HF1 HL1 HB1
      have p0 : w2.cell? ⟨w.heap.size + 1, 0, none⟩ = some (.float .f32 s) := HP2.out.cell 0
      have p1 : w2.cell? ⟨w.heap.size + 1 + 1, 0, none⟩ = some (.float .f32 h) := HQ2.out.cell 0
      have l3 : w.heap.size + 1 + 1 + 1 < w2.heap.size := HF2.out.lt
      have l2 : w.heap.size + 1 + 1 < w2.heap.size := by omega
      have l1 : w.heap.size + 1 < w2.heap.size := by omega
      have l0 : w.heap.size < w2.heap.size := by omega
      obtain ⟨d0, d1, d2, d3, d4⟩ := HF2.out.cells
      have qf0 := HF2.out.frozen 0
      have qf1 := HF2.out.frozen 1
      have qf2 := HF2.out.frozen 2
      have qf3 := HF2.out.frozen 3
      have qf4 := HF2.out.frozen 4
      go_wp2_with fail
      have B3 := HB2.out
      exact bodyPost_ret (v := .tuple #[fldV 0 0 0 0 none 0 0, .int .i64 3]) (by simp [results, Try.results71, go_sem, *]) rfl ⟨rfl, (by have hszz := B3.size; repeat (first | with_reducible exact B3 | with_reducible apply Below.drew | with_reducible refine below_drewN ?_ _ | (with_reducible refine Below.setCell ?_ ?_ _; rotate_left; focus (first | omega | (simp <;> omega))) | (with_reducible refine Below.alloc ?_ ?_ _; rotate_left; focus (first | omega | (simp <;> omega)))))⟩
  · have e3 : terC s h = htE [s, h] := by unfold terC; rw [if_pos ha]
    rw [e3]
    generalize htE [s, h] = a at *
    have hb' : (a != 0) = true := by rw [bne_iff_ne]; exact ha
    clear hl hr h1 h2 hn ha e3
    go_enter Try.func71, Try.ntmps71
    go_wp2_with fail
    generalize hW0 : (((w.alloc (.cells #[.int .i64 X, .int .i64 Y, .int .i64 Wn, .int .i64 Hn, .slice (some ⟨b, o, none⟩) l.length c] 36)).alloc (.cells #[.float .f32 s] 37)).alloc (.cells #[.float .f32 h] 37)).alloc (.cells #[.int .i64 0, .int .i64 0, .int .i64 0, .int .i64 0, .slice none 0 0] 36) = W0 at *
    obtain ⟨E0, P0, Q0, F0, B0⟩ := box_f2c w X Y Wn Hn (.slice (some ⟨b, o, none⟩) l.length c) #[.float .f32 s] #[.float .f32 h] 37 W0 hW0.symm
    clear hW0
    refine (K.out _ (HL.out.below B0)).mono ?_
    rintro e w1 ⟨rfl, b1⟩
    have HE1 := Lib.hid (E0.below b1 E0.lt)
    have HP1 := Lib.hid (P0.below b1 P0.lt)
    have HQ1 := Lib.hid (Q0.below b1 Q0.lt)
    have HF1 := Lib.hid (F0.below b1 F0.lt)
    have HL1 := Lib.hid ((HL.out.below B0).below b1)
    have HB1 := Lib.hid (B0.trans (b1.mono B0.size))
    clear b1 B0 F0 E0 P0 Q0 K HL
    have p0 : w1.cell? ⟨w.heap.size + 1, 0, none⟩ = some (.float .f32 s) := HP1.out.cell 0
    have p1 : w1.cell? ⟨w.heap.size + 1 + 1, 0, none⟩ = some (.float .f32 h) := HQ1.out.cell 0
    have l3 : w.heap.size + 1 + 1 + 1 < w1.heap.size := HF1.out.lt
    have l2 : w.heap.size + 1 + 1 < w1.heap.size := by omega
    have l1 : w.heap.size + 1 < w1.heap.size := by omega
    have l0 : w.heap.size < w1.heap.size := by omega
    go_wp2_with fail
    refine (KH.out _ _ (by simp [go_sem]) (by simp [go_sem])).mono ?_
    rintro e w2 ⟨rfl, rfl⟩
    obtain ⟨d0, d1, d2, d3, d4⟩ := HF1.out.cells
    have qf0 := HF1.out.frozen 0
    have qf1 := HF1.out.frozen 1
    have qf2 := HF1.out.frozen 2
    have qf3 := HF1.out.frozen 3
    have qf4 := HF1.out.frozen 4
    go_wp2_with fail
    have B3 := HB1.out
    exact bodyPost_ret (v := .tuple #[fldV 0 0 0 0 none 0 0, .int .i64 a]) (by simp [results, Try.results71, go_sem, *]) rfl ⟨rfl, (by have hszz := B3.size; repeat (first | with_reducible exact B3 | with_reducible apply Below.drew | with_reducible refine below_drewN ?_ _ | (with_reducible refine Below.setCell ?_ ?_ _; rotate_left; focus (first | omega | (simp <;> omega))) | (with_reducible refine Below.alloc ?_ ?_ _; rotate_left; focus (first | omega | (simp <;> omega)))))⟩

theorem cnt_world1 (w : World) : ∀ W0, W0 = w.alloc (.cells #[.int .i64 (-1)] 3) → CntAt W0 w.heap.size (-1) ∧ Below w.heap.size w W0 ∧ W0.heap.size = w.heap.size + 1 := by
  rintro _ rfl
  exact ⟨Blk.new w _ _, (by repeat (first | with_reducible exact Below.refl _ _ | with_reducible apply Below.drew | with_reducible refine below_drewN ?_ _ | (with_reducible refine Below.setCell ?_ ?_ _; rotate_left; focus (first | omega | (simp <;> omega))) | (with_reducible refine Below.alloc ?_ ?_ _; rotate_left; focus (first | omega | (simp <;> omega))))), by simp⟩

set_option maxRecDepth 100000 in
set_option maxHeartbeats 1000000 in
theorem terrace_ok (X Y : Int) (Wn Hn : Nat) (b o c : Nat) (l : List Nat) (s h : Nat) (w : World) (hl : SRow w (some ⟨b, o, none⟩) l) (hr : Right X Y Wn Hn l) (h1 : s < 4294967296) (h2 : h < 4294967296) (hn : terC s h = 0) :
    Calls Try.prog 71 #[fldV X Y Wn Hn (some ⟨b, o, none⟩) l.length c, .float .f32 s, .float .f32 h] w fun e w' => OpP (resC (l.map (terF s h))) X Y Wn Hn (l.map (terF s h)) w e w' := by
  obtain ⟨ha, hsc, c2, c3, hT⟩ := ter_zero hn
  have K := Lib.hid (fun w h => check_field X Y Wn Hn (some ⟨b, o, none⟩) c l w h)
  rw [hr.chk] at K
  have HL := Lib.hid hl
  have KH := Lib.hid (fun W g c0 c1 => heights_two W g s h h1 h2 c0 c1)
  rw [ha] at KH
  have KC := Lib.hid (fun w => checkstep_any s w h1 hT.st.1)
  rw [hsc] at KC
  have HBL : Hid (b < w.heap.size) := SRow.blt hl hr.pos
  have KM := Lib.hid (fun p q pa pb w (hl : SRow w (some ⟨b, o, none⟩) l) (hq : Fld w q X Y Wn Hn (.slice (some ⟨b, o, none⟩) l.length c)) (ha : Blk w pa #[.float .f32 s] 37) (hb : Blk w pb #[.float .f32 h] 37) (hp : CntAt w p (-1)) (qp : q ≠ p) (bp : b ≠ p) (pap : pa ≠ p) (pbp : pb ≠ p) =>
    make_map 173 #[.pointer (some ⟨p, 0, none⟩), .pointer (some ⟨q, 0, none⟩), .pointer (some ⟨pa, 0, none⟩), .pointer (some ⟨pb, 0, none⟩)] p (terF s h) X Y Wn Hn l w hr (enters_of Try.func173 (by kernel_rfl) rfl) hp (terF_lt s h)
      (fun x y k hk W' hb' hcnt => terracefn_any s h x y p q b o c pa pb k X Y Wn Hn l W' ⟨hcnt, hq.but hb' hq.lt qp, SRow.but hl hb' (SRow.blt hl hr.pos) bp, qp, bp, hk, by have := hb'.size; have := SRow.blt hl hr.pos; omega⟩ (hr.bd' k) hT (ha.but hb' ha.lt pap) (hb.but hb' hb.lt pbp) pap pbp))
  have KR := Lib.hid (fun X1 Y1 W1 H1 g cap B w ho => result_any X1 Y1 W1 H1 g cap B (l.map (terF s h)) w ho (by rw [List.length_map]; exact hr.small))
  change (FloatKind.f32.format.order h 0 == some .lt) = false at c2
  change (FloatKind.f32.format.order h 1065353216 == some .gt || FloatKind.f32.format.order h 1065353216 == some .eq) = false at c3
  clear hl hr h1 h2 hn ha hsc hT
  generalize l.map (terF s h) = S at *
  generalize resC S = C at *
  go_enter Try.func71, Try.ntmps71
  go_wp2_with fail
  generalize hW0 : (((w.alloc (.cells #[.int .i64 X, .int .i64 Y, .int .i64 Wn, .int .i64 Hn, .slice (some ⟨b, o, none⟩) l.length c] 36)).alloc (.cells #[.float .f32 s] 37)).alloc (.cells #[.float .f32 h] 37)).alloc (.cells #[.int .i64 0, .int .i64 0, .int .i64 0, .int .i64 0, .slice none 0 0] 36) = W0 at *
  obtain ⟨E0, P0, Q0, F0, B0⟩ := box_f2c w X Y Wn Hn (.slice (some ⟨b, o, none⟩) l.length c) #[.float .f32 s] #[.float .f32 h] 37 W0 hW0.symm
  clear hW0
  refine (K.out _ (HL.out.below B0)).mono ?_
  rintro e w1 ⟨rfl, b1⟩
  have HE1 := Lib.hid (E0.below b1 E0.lt)
  have HP1 := Lib.hid (P0.below b1 P0.lt)
  have HQ1 := Lib.hid (Q0.below b1 Q0.lt)
  have HF1 := Lib.hid (F0.below b1 F0.lt)
  have HL1 := Lib.hid ((HL.out.below B0).below b1)
  have HB1 := Lib.hid (B0.trans (b1.mono B0.size))
  clear b1 B0 F0 E0 P0 Q0 K HL
  have p0 : w1.cell? ⟨w.heap.size + 1, 0, none⟩ = some (.float .f32 s) := HP1.out.cell 0
  have p1 : w1.cell? ⟨w.heap.size + 1 + 1, 0, none⟩ = some (.float .f32 h) := HQ1.out.cell 0
  have l3 : w.heap.size + 1 + 1 + 1 < w1.heap.size := HF1.out.lt
  have l2 : w.heap.size + 1 + 1 < w1.heap.size := by omega
  have l1 : w.heap.size + 1 < w1.heap.size := by omega
  have l0 : w.heap.size < w1.heap.size := by omega
  go_wp2_with fail
  refine (KH.out _ _ (by simp [go_sem]) (by simp [go_sem])).mono ?_
  rintro e w2 ⟨rfl, rfl⟩
  go_wp2_with fail
  refine (KC.out _).mono ?_
  rintro e w2 ⟨rfl, b2⟩
  have b0 : Below w1.heap.size w1 (w1.alloc (.cells #[.float .f32 s, .float .f32 h] 37)) := (by repeat (first | with_reducible exact Below.refl _ _ | with_reducible apply Below.drew | with_reducible refine below_drewN ?_ _ | (with_reducible refine Below.setCell ?_ ?_ _; rotate_left; focus (first | omega | (simp <;> omega))) | (with_reducible refine Below.alloc ?_ ?_ _; rotate_left; focus (first | omega | (simp <;> omega)))))
  have b2' := b0.trans (b2.mono b0.size)
  have HE2 := Lib.hid (HE1.out.below b2' HE1.out.lt)
  have HP2 := Lib.hid (HP1.out.below b2' HP1.out.lt)
  have HQ2 := Lib.hid (HQ1.out.below b2' HQ1.out.lt)
  have HF2 := Lib.hid (HF1.out.below b2' HF1.out.lt)
  have HL2 := Lib.hid (HL1.out.below b2')
  have HB2 := Lib.hid (HB1.out.trans (b2'.mono HB1.out.size))
  clear b0 b2 b2' p0 p1 l0 l1 l2 l3 HE1 HP1 HQ1 HF1 HL1 HB1
  have p0 : w2.cell? ⟨w.heap.size + 1, 0, none⟩ = some (.float .f32 s) := HP2.out.cell 0
  have p1 : w2.cell? ⟨w.heap.size + 1 + 1, 0, none⟩ = some (.float .f32 h) := HQ2.out.cell 0
  have l3 : w.heap.size + 1 + 1 + 1 < w2.heap.size := HF2.out.lt
  have l2 : w.heap.size + 1 + 1 < w2.heap.size := by omega
  have l1 : w.heap.size + 1 < w2.heap.size := by omega
  have l0 : w.heap.size < w2.heap.size := by omega
  obtain ⟨c0, c1, c4, c5, c6⟩ := HE2.out.cells
  go_wp2_with fail
  generalize hW3 : w2.alloc (.cells #[.int .i64 (-1)] 3) = W3 at *
  obtain ⟨n3, B3, z3⟩ := cnt_world1 w2 W3 hW3.symm
  clear hW3
  have HN3 := Lib.hid n3
  clear n3 z3
  have HE3 := Lib.hid (HE2.out.below B3 HE2.out.lt)
  have HP3 := Lib.hid (HP2.out.below B3 HP2.out.lt)
  have HQ3 := Lib.hid (HQ2.out.below B3 HQ2.out.lt)
  have HF3 := Lib.hid (HF2.out.below B3 HF2.out.lt)
  have HL3 := Lib.hid (HL2.out.below B3)
  have HB3 := Lib.hid (HB2.out.trans (B3.mono HB2.out.size))
  have HBS : Hid (w.heap.size ≤ w2.heap.size) := HB2.out.size
  refine (KM.out _ _ _ _ _ HL3.out HE3.out HP3.out HQ3.out HN3.out (by omega) (by have := HBL.out; omega) (by omega) (by omega)).mono ?_
  rintro e w4 ⟨⟨g, cap, rfl, ho⟩, b4⟩
  have HF4 := Lib.hid (HF3.out.below b4 (by omega))
  have HB4 := Lib.hid (HB3.out.trans (b4.mono (by have := HBS.out; omega)))
  have HO4 := Lib.hid ho
  clear ho b4 KM HE3 HP3 HQ3 HL3 HB3 HE2 HP2 HQ2 HL2 HB2 B3 p0 p1 c0 c1 c4 c5 c6 HN3
  go_wp2_with fail
  refine (KR.out _ _ _ _ _ _ _ _ HO4.out).mono ?_
  rintro e w7 ⟨⟨x, y, p, q, a, m, k, rfl, o7⟩, b7⟩
  have HOZ := Lib.hid o7
  have HFZ := Lib.hid (HF4.out.below b7 HF4.out.lt)
  have HBZ := Lib.hid (HB4.out.trans (b7.mono HB4.out.size))
  have HZB : Hid (w.heap.size + 1 + 1 + 1 < W3.heap.size) := HF3.out.lt
  have HBB : Hid (w.heap.size ≤ W3.heap.size) := by have := HZB.out; unfold Hid; omega
  clear o7 b7 KR HO4 HF4 HB4 HF3 HF2 l0 l1 l2 l3
  obtain ⟨d0, d1, d2, d3, d4⟩ := HFZ.out.cells
  have qf0 := HFZ.out.frozen 0
  have qf1 := HFZ.out.frozen 1
  have qf2 := HFZ.out.frozen 2
  have qf3 := HFZ.out.frozen 3
  have qf4 := HFZ.out.frozen 4
  have lz := HFZ.out.lt
  go_wp2_with fail
  generalize hW5 : ((((w7.setCell ⟨w.heap.size + 1 + 1 + 1, 0, none⟩ (.int .i64 x)).setCell ⟨w.heap.size + 1 + 1 + 1, 1, none⟩ (.int .i64 y)).setCell ⟨w.heap.size + 1 + 1 + 1, 2, none⟩ (.int .i64 p)).setCell ⟨w.heap.size + 1 + 1 + 1, 3, none⟩ (.int .i64 q)).setCell ⟨w.heap.size + 1 + 1 + 1, 4, none⟩ (.slice a m k) = W5 at *
  obtain ⟨f5, bb5, oo5, _, z5⟩ := fld_store w7 (w.heap.size + 1 + 1 + 1) 0 0 0 0 _ x y p q (.slice a m k) HFZ.out W5 hW5.symm
  have hO5 := (HOZ.out.set oo5 HZB.out).base HBB.out
  have hB5 := HBZ.out.trans (bb5.mono (by omega))
  clear d0 d1 d2 d3 d4 qf0 qf1 qf2 qf3 qf4 hW5 oo5
  obtain ⟨d0, d1, d2, d3, d4⟩ := f5.cells
  exact bodyPost_ret (v := .tuple #[fldV x y p q a m k, .int .i64 C]) (by simp [results, Try.results71, go_sem, *]) rfl ⟨⟨x, y, p, q, a, m, k, rfl, hO5⟩, hB5⟩
end Go.Proofs.Ytnfebeebjelgbaa
