import Derived.Test.YtkmcinibaffpmaaPyrOp
namespace Go.Proofs.Ytkmcinibaffpmaa
open Go.ChangeShapes Go.WideShapes Go.ChangeAt Go.RowKit
open Ieee.Format (fin finE htE allFin allHt all_true all_false mulF subF addF Ht Bd divF rootF floorF easeF mixF)
set_option linter.unusedVariables false
open Ieee.Format (htE_ok htE_far htE_bad allHt_iff)

theorem Row63.srow {w : World} {a : Option Addr} {l : List Nat} (h : Row63 w a l) (hn : l.length ≤ 65536) : SRow w a l := ⟨⟨by omega, h.1.2⟩, h.2⟩
/-- a field's check, however long its values -/
theorem check63 (X Y W H : Int) (a : Option Addr) (c : Nat) (l : List Nat) (w : World) (hl : Row63 w a l) :
    Calls Try.prog 90 #[fldV X Y W H a l.length c] w fun e w' => e = .returned (.int .i64 (chkF X Y W H l)) ∧ Below w.heap.size w w' := by
  by_cases hs : l.length ≤ 65536
  · exact check_field X Y W H a c l w (hl.srow hs)
  · have hz := hl.1.1
    clear hl
    have hA : Below w.heap.size w (w.alloc (.cells #[.int .i64 X, .int .i64 Y, .int .i64 W, .int .i64 H, .slice a l.length c] 26)) := (by repeat (first | with_reducible exact Below.refl _ _ | with_reducible apply Below.drew | with_reducible refine below_drewN ?_ _ | (with_reducible refine Below.setCell ?_ ?_ _; rotate_left; focus (first | omega | (simp <;> omega))) | (with_reducible refine Below.alloc ?_ ?_ _; rotate_left; focus (first | omega | (simp <;> omega)))))
    by_cases h1 : chk X Y W H = 0
    · obtain ⟨z1, z2, z3, z4, z5, z6, z7, z8, z9⟩ := chk_zero h1
      have zp : 1 ≤ W * H := by have := Int.mul_le_mul z1 z3 (by omega) (by omega); omega
      have h2 : (l.length : Int) ≠ W * H := by omega
      have E := Lib.hid (chkF_len h1 h2)
      have hb : ((l.length : Int) != W * H) = true := by rw [bne_iff_ne]; exact h2
      have H1 := Lib.hid h1
      clear h1 h2
      generalize chkF X Y W H l = r at *
      go_enter Try.func90, Try.ntmps90
      go_wp2_with fail
      refine (check1 _ _ _ _ _).mono ?_
      rintro e w1 ⟨rfl, b1⟩
      rw [H1.out]
      have B1 := hA.trans (b1.mono hA.size)
      obtain ⟨hcc, hf⟩ := bcell b1
      clear b1
      go_wp2_with fail
      go_ret
      exact ⟨ret_i64 E.out.symm, B1⟩
    · have E := Lib.hid (chkF_region (l := l) h1)
      have hb : (chk X Y W H != 0) = true := by rw [bne_iff_ne]; exact h1
      clear h1
      have E2 : Hid (chkF X Y W H l = chk X Y W H) := E.out
      have K := Lib.hid (fun w => check1 X Y W H w)
      generalize chk X Y W H = q at *
      generalize chkF X Y W H l = r at *
      go_enter Try.func90, Try.ntmps90
      go_wp2_with fail
      refine (K.out _).mono ?_
      rintro e w1 ⟨rfl, b1⟩
      have B1 := hA.trans (b1.mono hA.size)
      clear b1
      go_wp2
      go_ret
      exact ⟨ret_i64 E2.out.symm, B1⟩
theorem right_of {X Y W H : Int} {l : List Nat} (h : chkF X Y W H l = 0) : ∃ Wn Hn : Nat, W = (Wn : Int) ∧ H = (Hn : Int) ∧ Right X Y Wn Hn l := by
  have h1 : chk X Y W H = 0 := by
    by_cases t : chk X Y W H = 0
    · exact t
    · rw [chkF_region t] at h; exact absurd h t
  have h2 : (l.length : Int) = W * H := by
    by_cases t : (l.length : Int) = W * H
    · exact t
    · rw [chkF_len h1 t] at h; omega
  rw [chkF_vals h1 h2] at h
  obtain ⟨z1, z2, z3, z4, z5, z6, z7, z8, z9⟩ := chk_zero h1
  obtain ⟨Wn, rfl⟩ := Int.eq_ofNat_of_zero_le (show 0 ≤ W by omega)
  obtain ⟨Hn, rfl⟩ := Int.eq_ofNat_of_zero_le (show 0 ≤ H by omega)
  refine ⟨Wn, Hn, rfl, rfl, by omega, by omega, by omega, by omega, ?_, by omega, by omega, by omega, by omega, ?_, ?_⟩
  · rw [← Int.natCast_mul] at z9; omega
  · rw [← Int.natCast_mul] at h2; rw [Nat.mul_comm]; omega
  · refine allHt_iff.1 ?_
    cases hf : Ieee.Format.allFin l
    · rw [htE_bad hf] at h; omega
    · cases hh : Ieee.Format.allHt l
      · rw [htE_far hf hh] at h; omega
      · rfl
/-- what Pyramid gives for a right field -/
def PyrQ (v : Lv) (most : Int) (w : World) (e : Ending) (w' : World) : Prop :=
  (∃ (c : Int) (u : Value), e = .returned (.tuple #[u, .int .i64 c]) ∧ (c ≠ 0 ∧ most ≠ 1 ∧ u = .slice none 0 0 ∨ c = 0 ∧ 1 ≤ most ∧ most ≤ 10 ∧ ∃ B L, PyrInv w w' B u L ∧ Levels v L ∧ (L.length : Int) = most)) ∧ Below w.heap.size w w'
set_option maxRecDepth 100000 in
theorem pyr_bad (X Y W H : Int) (a : Option Addr) (c : Nat) (l : List Nat) (most : Int) (w : World) (hl : Row63 w a l) (h : chkF X Y W H l ≠ 0) :
    Calls Try.prog 24 #[fldV X Y W H a l.length c, .int .i64 most] w fun e w' => e = .returned (.tuple #[.slice none 0 0, .int .i64 (chkF X Y W H l)]) ∧ Below w.heap.size w w' := by
  have K := Lib.hid (fun W' h' => check63 X Y W H a c l W' h')
  have HL := Lib.hid hl
  have hb : (chkF X Y W H l != 0) = true := by rw [bne_iff_ne]; exact h
  clear h hl
  generalize chkF X Y W H l = q at *
  go_enter Try.func24, Try.ntmps24
  go_wp2_with fail
  refine (K.out _ (HL.out.below (by repeat (first | with_reducible exact Below.refl _ _ | with_reducible apply Below.drew | with_reducible refine below_drewN ?_ _ | (with_reducible refine Below.setCell ?_ ?_ _; rotate_left; focus (first | omega | (simp <;> omega))) | (with_reducible refine Below.alloc ?_ ?_ _; rotate_left; focus (first | omega | (simp <;> omega))))))).mono ?_
  rintro e w1 ⟨rfl, b1⟩
  have B1 : Below w.heap.size w w1 := (show Below w.heap.size w (w.alloc (.cells #[.int .i64 X, .int .i64 Y, .int .i64 W, .int .i64 H, .slice a l.length c] 26)) from (by repeat (first | with_reducible exact Below.refl _ _ | with_reducible apply Below.drew | with_reducible refine below_drewN ?_ _ | (with_reducible refine Below.setCell ?_ ?_ _; rotate_left; focus (first | omega | (simp <;> omega))) | (with_reducible refine Below.alloc ?_ ?_ _; rotate_left; focus (first | omega | (simp <;> omega)))))).trans (b1.mono (by simp))
  clear b1
  go_wp2_with fail
  go_ret2
  exact ⟨rfl, B1⟩
set_option maxRecDepth 100000 in
theorem pyr_right (v : Lv) (m b o c : Nat) (most : Int) (w : World) (hl : SRow w (some ⟨b, o, none⟩) v.l) (h : v.ok) (hm : v.le m) (fm : fin Ieee.single m) (sm : Ieee.single.sgn m = false) (bm : Ieee.single.V m ≤ Ieee.P2 20) :
    Calls Try.prog 24 #[fldV v.X v.Y v.W v.H (some ⟨b, o, none⟩) v.l.length c, .int .i64 most] w fun e w' => PyrQ v most w e w' := by
  have KC := Lib.hid (fun W hW => check_field v.X v.Y v.W v.H (some ⟨b, o, none⟩) c v.l W hW)
  have KP := Lib.hid (fun W hW h1 h2 => pyramid_any v m b o c most W hW h hm fm sm bm h1 h2)
  have HL := Lib.hid hl
  have h0 : chkF v.X v.Y v.W v.H v.l = 0 := Right.chk h
  rw [h0] at KC
  clear h0 hl hm fm sm bm h
  have BA : Below w.heap.size w (w.alloc (.cells #[.int .i64 v.X, .int .i64 v.Y, .int .i64 (v.W : Int), .int .i64 (v.H : Int), .slice (some ⟨b, o, none⟩) v.l.length c] 26)) := (by repeat (first | with_reducible exact Below.refl _ _ | with_reducible apply Below.drew | with_reducible refine below_drewN ?_ _ | (with_reducible refine Below.setCell ?_ ?_ _; rotate_left; focus (first | omega | (simp <;> omega))) | (with_reducible refine Below.alloc ?_ ?_ _; rotate_left; focus (first | omega | (simp <;> omega)))))
  have NEWF := Fld.new w v.X v.Y v.W v.H (.slice (some ⟨b, o, none⟩) v.l.length c)
  by_cases h1 : most < 1 ∨ 10 < most
  · have HQ : ∀ w', Below w.heap.size w w' → PyrQ v most w (.returned (.tuple #[.slice none 0 0, .int .i64 3])) w' := fun w' hb => ⟨⟨3, _, rfl, .inl ⟨by omega, by omega, rfl⟩⟩, hb⟩
    have HQ := Lib.hid HQ
    have t : most < 1 ∨ ¬ most < 1 ∧ 10 < most := by omega
    clear h1 KP NEWF
    rcases t with t | ⟨t1, t2⟩
    all_goals
      go_enter Try.func24, Try.ntmps24
      go_wp2_with fail
      refine (KC.out _ (HL.out.below BA)).mono ?_
      rintro e w1 ⟨rfl, b1⟩
      have B1 := BA.trans (b1.mono BA.size)
      clear b1
      go_wp2_with fail
      go_ret2
      exact HQ.out _ B1
  · have g1 : 1 ≤ most := by omega
    have g2 : most ≤ 10 := by omega
    have g3 : ¬ most < 1 := by omega
    have g4 : ¬ 10 < most := by omega
    clear h1
    go_enter Try.func24, Try.ntmps24
    go_wp2_with fail
    generalize w.alloc (.cells #[.int .i64 v.X, .int .i64 v.Y, .int .i64 (v.W : Int), .int .i64 (v.H : Int), .slice (some ⟨b, o, none⟩) v.l.length c] 26) = W0 at *
    refine (KC.out _ (HL.out.below BA)).mono ?_
    rintro e w1 ⟨rfl, b1⟩
    have B1 := BA.trans (b1.mono BA.size)
    obtain ⟨d0, d1, d2, d3, d4⟩ := (NEWF.below b1 NEWF.lt).cells
    clear b1 NEWF
    go_wp2_with fail
    refine (KP.out _ (HL.out.below B1) g1 (by omega)).mono ?_
    rintro e w2 ⟨u, L, rfl, I, hL, hle, hlt⟩
    have B2 := B1.trans (I.below.mono B1.size)
    obtain ⟨gr, cr, rfl, _⟩ := I.val
    by_cases t : (L.length : Int) < most
    · have n1 : most ≠ 1 := by have := I.pos; omega
      have HQ : Hid (PyrQ v most w (.returned (.tuple #[.slice none 0 0, .int .i64 2])) w2) := ⟨⟨2, _, rfl, .inl ⟨by omega, n1, rfl⟩⟩, B2⟩
      clear I hL hle hlt B2 d0 d1 d2 d3 d4
      go_wp2_with fail
      go_ret2
      exact HQ.out
    · have HQ : Hid (PyrQ v most w (.returned (.tuple #[.slice (some ⟨gr, 0, none⟩) L.length cr, .int .i64 0])) w2) :=
        ⟨⟨0, _, rfl, .inr ⟨rfl, g1, g2, w1.heap.size, L, ⟨I.own, I.rows, I.pos, I.bz, B1.size, B2⟩, hL, by omega⟩⟩, B2⟩
      clear I hL hle hlt B2 d0 d1 d2 d3 d4
      go_wp2_with fail
      go_ret2
      exact HQ.out
end Go.Proofs.Ytkmcinibaffpmaa
