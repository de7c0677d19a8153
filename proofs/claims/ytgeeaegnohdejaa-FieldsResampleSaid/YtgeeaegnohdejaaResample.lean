import Derived.Test.YtgeeaegnohdejaaResCodes
namespace Go.Proofs.Ytgeeaegnohdejaa
open Go.Shelf
open Go.ChangeShapes Go.WideShapes Go.ChangeAt Go.RowKit
open Ieee.Format (fin finE htE allFin allHt all_true all_false mulF subF addF Ht Bd mixF mix_bd shareF share_facts)
set_option linter.unusedVariables false

theorem But.low {B B' : Nat} {q : Nat → Prop} {w w' : World} (h : But B q w w') (hB : B' ≤ B) (hq : ∀ k, k < B' → ¬ q k) : Below B' w w' :=
  ⟨h.os, h.tape, h.output, h.size, fun k hk => h.block k (by omega) (hq k hk)⟩

theorem res_world (w : World) (X Y W H A B P Q n d : Int) (v : Value) : ∀ W0, W0 = ((((w.alloc (.cells #[.int .i64 X, .int .i64 Y, .int .i64 W, .int .i64 H, v] /-T-/66)).alloc (.cells #[.int .i64 A, .int .i64 B, .int .i64 P, .int .i64 Q] /-T-/30)).alloc (.cells #[.int .i64 n] /-T-/3)).alloc (.cells #[.int .i64 d] /-T-/3)).alloc (.cells #[.int .i64 0, .int .i64 0, .int .i64 0, .int .i64 0, .slice none 0 0] /-T-/66) →
    Fld W0 w.heap.size X Y W H v ∧ Reg W0 (w.heap.size + 1) A B P Q ∧ W0.cell? ⟨w.heap.size + 1 + 1, 0, none⟩ = some (.int .i64 n) ∧ W0.cell? ⟨w.heap.size + 1 + 1 + 1, 0, none⟩ = some (.int .i64 d) ∧ Fld W0 (w.heap.size + 1 + 1 + 1 + 1) 0 0 0 0 (.slice none 0 0) ∧ Below w.heap.size w W0 ∧ W0.heap.size = w.heap.size + 5 := by
  rintro _ rfl
  refine ⟨((((Fld.new w X Y W H v).alloc _).alloc _).alloc _).alloc _, ?_, by simp [go_sem], by simp [go_sem], ?_, (by repeat (first | with_reducible exact Below.refl _ _ | with_reducible apply Below.drew | with_reducible refine below_drewN ?_ _ | (with_reducible refine Below.setCell ?_ ?_ _; rotate_left; focus (first | omega | (simp <;> omega))) | (with_reducible refine Below.alloc ?_ ?_ _; rotate_left; focus (first | omega | (simp <;> omega))))), by simp⟩
  · have := (((Reg.new (w.alloc (.cells #[.int .i64 X, .int .i64 Y, .int .i64 W, .int .i64 H, v] /-T-/66)) A B P Q).alloc (.cells #[.int .i64 n] /-T-/3)).alloc (.cells #[.int .i64 d] /-T-/3)).alloc (.cells #[.int .i64 0, .int .i64 0, .int .i64 0, .int .i64 0, .slice none 0 0] /-T-/66)
    simpa using this
  · have := Fld.new ((((w.alloc (.cells #[.int .i64 X, .int .i64 Y, .int .i64 W, .int .i64 H, v] /-T-/66)).alloc (.cells #[.int .i64 A, .int .i64 B, .int .i64 P, .int .i64 Q] /-T-/30)).alloc (.cells #[.int .i64 n] /-T-/3)).alloc (.cells #[.int .i64 d] /-T-/3)) 0 0 0 0 (.slice none 0 0)
    simpa using this

set_option maxRecDepth 100000 in
/-- a bad region, or a bad ratio -/
theorem resample_bad (X Y : Int) (Wn Hn : Nat) (b c : Nat) (l : List Nat) (A B P Q n d : Int) (w : World) (hl : SRow w (some ⟨b, 0, none⟩) l) (hr : Right X Y Wn Hn l) (C : Int) (hC : chk A B P Q = C ∧ C ≠ 0 ∨ chk A B P Q = 0 ∧ C = 3 ∧ (n < 1 ∨ 64 < n ∨ d < 1 ∨ 64 < d)) :
    Calls Try.prog 54 #[fldV X Y Wn Hn (some ⟨b, 0, none⟩) l.length c, reg A B P Q, .int .i64 n, .int .i64 d] w fun e w' => e = .returned (.tuple #[fldV 0 0 0 0 none 0 0, .int .i64 C]) ∧ Below w.heap.size w w' := by
  have K := Lib.hid (fun w h => check_field X Y Wn Hn (some ⟨b, 0, none⟩) c l w h)
  rw [hr.chk] at K
  have KC := Lib.hid (fun w' => check1 A B P Q w')
  have HL := Lib.hid hl
  have HC := Lib.hid hC
  clear hl hr hC
  generalize chk A B P Q = E at *
  go_enter Try.func54, Try.ntmps54
  go_wp2_with fail
  generalize hW0 : ((((w.alloc (.cells #[.int .i64 X, .int .i64 Y, .int .i64 Wn, .int .i64 Hn, .slice (some ⟨b, 0, none⟩) l.length c] /-T-/66)).alloc (.cells #[.int .i64 A, .int .i64 B, .int .i64 P, .int .i64 Q] /-T-/30)).alloc (.cells #[.int .i64 n] /-T-/3)).alloc (.cells #[.int .i64 d] /-T-/3)).alloc (.cells #[.int .i64 0, .int .i64 0, .int .i64 0, .int .i64 0, .slice none 0 0] /-T-/66) = W0 at *
  obtain ⟨_, R0, n0, d0, F0, B0, z0⟩ := res_world w X Y Wn Hn A B P Q n d _ W0 hW0.symm
  clear hW0
  refine (K.out _ (HL.out.below B0)).mono ?_
  rintro e w1 ⟨rfl, b1⟩
  have F1 := F0.below b1 F0.lt
  have R1 := R0.below b1 R0.lt
  have n1 := (b1.cell (p := ⟨w.heap.size + 1 + 1, 0, none⟩) (by simp; omega)).trans n0
  have d1 := (b1.cell (p := ⟨w.heap.size + 1 + 1 + 1, 0, none⟩) (by simp; omega)).trans d0
  have z1 : W0.heap.size ≤ w1.heap.size := b1.size
  have B1 := Lib.hid (B0.trans (b1.mono B0.size))
  have HF1 := Lib.hid F1
  clear b1 B0 F0 R0 n0 d0 F1 K HL
  obtain ⟨r0, r1, r2, r3⟩ := R1.cells
  clear R1
  go_wp2_with fail
  refine (KC.out _).mono ?_
  rintro e w2 ⟨rfl, b2⟩
  have F2 := HF1.out.below b2 HF1.out.lt
  have l2 := F2.lt
  have n2 := (b2.cell (p := ⟨w.heap.size + 1 + 1, 0, none⟩) (by simp; omega)).trans n1
  have d2 := (b2.cell (p := ⟨w.heap.size + 1 + 1 + 1, 0, none⟩) (by simp; omega)).trans d1
  have B2 := Lib.hid (B1.out.trans (b2.mono B1.out.size))
  clear b2 n1 d1 r0 r1 r2 r3 HF1
  obtain ⟨g0, g1, g2, g3, g4⟩ := F2.cells
  have qf0 := F2.frozen 0
  have qf1 := F2.frozen 1
  have qf2 := F2.frozen 2
  have qf3 := F2.frozen 3
  have qf4 := F2.frozen 4
  clear F2
  rcases HC.out with ⟨hE, hC⟩ | ⟨rfl, rfl, h⟩
  · obtain rfl := hE
    have hbn : (E != 0) = true := by rw [bne_iff_ne]; exact hC
    go_wp2_with fail
    have hB := B2.out
    exact bodyPost_ret (v := .tuple #[fldV 0 0 0 0 none 0 0, .int .i64 E]) (by simp [results, Try.results54, go_sem, *]) rfl ⟨rfl, (by have hszz := hB.size; repeat (first | with_reducible exact hB | with_reducible apply Below.drew | with_reducible refine below_drewN ?_ _ | (with_reducible refine Below.setCell ?_ ?_ _; rotate_left; focus (first | omega | (simp <;> omega))) | (with_reducible refine Below.alloc ?_ ?_ _; rotate_left; focus (first | omega | (simp <;> omega)))))⟩
  · have HH := Lib.hid h
    clear h
    by_cases h1 : n < 1
    · go_wp2_with fail
      have hB := B2.out
      exact bodyPost_ret (v := .tuple #[fldV 0 0 0 0 none 0 0, .int .i64 3]) (by simp [results, Try.results54, go_sem, *]) rfl ⟨rfl, (by have hszz := hB.size; repeat (first | with_reducible exact hB | with_reducible apply Below.drew | with_reducible refine below_drewN ?_ _ | (with_reducible refine Below.setCell ?_ ?_ _; rotate_left; focus (first | omega | (simp <;> omega))) | (with_reducible refine Below.alloc ?_ ?_ _; rotate_left; focus (first | omega | (simp <;> omega)))))⟩
    · by_cases h2 : 64 < n
      · go_wp2_with fail
        have hB := B2.out
        exact bodyPost_ret (v := .tuple #[fldV 0 0 0 0 none 0 0, .int .i64 3]) (by simp [results, Try.results54, go_sem, *]) rfl ⟨rfl, (by have hszz := hB.size; repeat (first | with_reducible exact hB | with_reducible apply Below.drew | with_reducible refine below_drewN ?_ _ | (with_reducible refine Below.setCell ?_ ?_ _; rotate_left; focus (first | omega | (simp <;> omega))) | (with_reducible refine Below.alloc ?_ ?_ _; rotate_left; focus (first | omega | (simp <;> omega)))))⟩
      · by_cases h3 : d < 1
        · go_wp2_with fail
          have hB := B2.out
          exact bodyPost_ret (v := .tuple #[fldV 0 0 0 0 none 0 0, .int .i64 3]) (by simp [results, Try.results54, go_sem, *]) rfl ⟨rfl, (by have hszz := hB.size; repeat (first | with_reducible exact hB | with_reducible apply Below.drew | with_reducible refine below_drewN ?_ _ | (with_reducible refine Below.setCell ?_ ?_ _; rotate_left; focus (first | omega | (simp <;> omega))) | (with_reducible refine Below.alloc ?_ ?_ _; rotate_left; focus (first | omega | (simp <;> omega)))))⟩
        · have h4 : 64 < d := by have := HH.out; omega
          go_wp2_with fail
          have hB := B2.out
          exact bodyPost_ret (v := .tuple #[fldV 0 0 0 0 none 0 0, .int .i64 3]) (by simp [results, Try.results54, go_sem, *]) rfl ⟨rfl, (by have hszz := hB.size; repeat (first | with_reducible exact hB | with_reducible apply Below.drew | with_reducible refine below_drewN ?_ _ | (with_reducible refine Below.setCell ?_ ?_ _; rotate_left; focus (first | omega | (simp <;> omega))) | (with_reducible refine Below.alloc ?_ ?_ _; rotate_left; focus (first | omega | (simp <;> omega)))))⟩
end Go.Proofs.Ytgeeaegnohdejaa
