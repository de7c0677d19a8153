import Derived.Test.YtgeeaegnohdejaaRefHt
import Derived.Test.YtgeeaegnohdejaaRegA
namespace Go.Proofs.Ytgeeaegnohdejaa
open Go.ChangeShapes Go.WideShapes Go.ChangeAt Go.RowKit
open Ieee.Format (fin finE htE allFin allHt all_true all_false finE_ok finE_bad htE_ok htE_far htE_bad mulF subF addF)
set_option linter.unusedVariables false

theorem SRow.below {w w' : World} {a : Option Addr} {l : List Nat} (h : SRow w a l) (hb : Below w.heap.size w w') : SRow w' a l := by
  obtain ⟨h1, h2⟩ := h
  refine ⟨h1, ?_⟩
  rcases h2 with h2 | ⟨b, o, rfl, hc⟩
  · exact .inl h2
  · refine .inr ⟨b, o, rfl, fun i hi => ?_⟩
    have := hc i hi
    rw [hb.cell (p := ⟨b, o + i, none⟩) (World.block_lt_of_cell? w _ this)]
    exact this

/-- the value of a field -/
abbrev fldV (X Y W H : Int) (a : Option Addr) (n c : Nat) : Value := .agg #[.int .i64 X, .int .i64 Y, .int .i64 W, .int .i64 H, .slice a n c]

/-- the error of a field -/
def chkF (X Y W H : Int) (l : List Nat) : Int := if chk X Y W H ≠ 0 then chk X Y W H else if (l.length : Int) ≠ W * H then 2 else htE l

theorem chkF_region {X Y W H : Int} {l : List Nat} (h : chk X Y W H ≠ 0) : chkF X Y W H l = chk X Y W H := if_pos h
theorem chkF_len {X Y W H : Int} {l : List Nat} (h : chk X Y W H = 0) (h2 : (l.length : Int) ≠ W * H) : chkF X Y W H l = 2 := by
  unfold chkF; rw [if_neg (by simpa using h), if_pos h2]
theorem chkF_vals {X Y W H : Int} {l : List Nat} (h : chk X Y W H = 0) (h2 : (l.length : Int) = W * H) : chkF X Y W H l = htE l := by
  unfold chkF; rw [if_neg (by simpa using h), if_neg (by simpa using h2)]

theorem check_field (X Y W H : Int) (a : Option Addr) (c : Nat) (l : List Nat) (w : World) (hl : SRow w a l) :
    Calls Try.prog 89 #[fldV X Y W H a l.length c] w fun e w' => e = .returned (.int .i64 (chkF X Y W H l)) ∧ Below w.heap.size w w' := by
  have HL := Lib.hid hl
  clear hl
  have hA : Below w.heap.size w (w.alloc (.cells #[.int .i64 X, .int .i64 Y, .int .i64 W, .int .i64 H, .slice a l.length c] /-T-/66)) := (by repeat (first | with_reducible exact Below.refl _ _ | with_reducible apply Below.drew | with_reducible refine below_drewN ?_ _ | (with_reducible refine Below.setCell ?_ ?_ _; rotate_left; focus (first | omega | (simp <;> omega))) | (with_reducible refine Below.alloc ?_ ?_ _; rotate_left; focus (first | omega | (simp <;> omega)))))
  have hcase : chk X Y W H ≠ 0 ∨ (chk X Y W H = 0 ∧ ((l.length : Int) ≠ W * H ∨ (l.length : Int) = W * H)) := by omega
  rcases hcase with h1 | ⟨h1, h2 | h2⟩
  · have E := Lib.hid (chkF_region (l := l) h1)
    have hb : (chk X Y W H != 0) = true := by rw [bne_iff_ne]; exact h1
    clear h1
    have E2 : Hid (chkF X Y W H l = chk X Y W H) := E.out
    have K := Lib.hid (fun w => check1 X Y W H w)
    generalize chk X Y W H = q at *
    generalize chkF X Y W H l = r at *
    go_enter Try.func89, Try.ntmps89
    go_wp2_with fail
    refine (K.out _).mono ?_
    rintro e w1 ⟨rfl, b1⟩
    have B1 := hA.trans (b1.mono hA.size)
    clear b1
    go_wp2
    go_ret
    exact ⟨ret_i64 E2.out.symm, B1⟩
  · have E := Lib.hid (chkF_len h1 h2)
    obtain ⟨z1, z2, z3, z4, z5, z6, z7, z8, z9⟩ := chk_zero h1
    have zp : 1 ≤ W * H := by have := Int.mul_le_mul z1 z3 (by omega) (by omega); omega
    have hb : ((l.length : Int) != W * H) = true := by rw [bne_iff_ne]; exact h2
    have H1 := Lib.hid h1
    clear h1 h2
    generalize chkF X Y W H l = r at *
    go_enter Try.func89, Try.ntmps89
    go_wp2_with fail
    refine (check1 _ _ _ _ _).mono ?_
    rintro e w1 ⟨rfl, b1⟩
    rw [H1.out]
    have B1 := hA.trans (b1.mono hA.size)
    obtain ⟨hcc, hf⟩ := bcell b1
    clear b1
    go_wp2_with fail
    go_ret
    exact ⟨ret_i64 E.out.symm, B1⟩
  · have E := Lib.hid (chkF_vals h1 h2)
    obtain ⟨z1, z2, z3, z4, z5, z6, z7, z8, z9⟩ := chk_zero h1
    have zp : 1 ≤ W * H := by have := Int.mul_le_mul z1 z3 (by omega) (by omega); omega
    have hb : ((l.length : Int) != W * H) = false := by rw [bne_eq_false_iff_eq]; exact h2
    have H1 := Lib.hid h1
    clear h1 h2
    have K := Lib.hid (fun w h => heights_any a c l w h)
    generalize chkF X Y W H l = r at *
    generalize htE l = q at *
    go_enter Try.func89, Try.ntmps89
    go_wp2_with fail
    refine (check1 _ _ _ _ _).mono ?_
    rintro e w1 ⟨rfl, b1⟩
    rw [H1.out]
    have B1 := hA.trans (b1.mono hA.size)
    obtain ⟨hcc, hf⟩ := bcell b1
    clear b1
    go_wp2_with fail
    refine (K.out _ (HL.out.below B1)).mono ?_
    rintro e w2 ⟨rfl, rfl⟩
    go_wp2_with fail
    go_ret
    exact ⟨ret_i64 E.out.symm, B1⟩

end Go.Proofs.Ytgeeaegnohdejaa
