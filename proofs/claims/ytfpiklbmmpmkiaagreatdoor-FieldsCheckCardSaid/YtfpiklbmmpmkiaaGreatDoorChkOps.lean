import Derived.Test.YtfpiklbmmpmkiaaGreatDoorM8
import Derived.Test.YtfpiklbmmpmkiaaGreatDoorEase
namespace Go.Proofs.YtfpiklbmmpmkiaaGreatDoor
open Go.ChangeShapes Go.WideShapes Go.ChangeAt Go.RowKit
open Ieee.Format (fin finE htE allFin allHt all_true all_false mulF subF addF Ht Bd htE_ok htE_far htE_bad allHt_iff)
set_option linter.unusedVariables false

theorem Row63.srow {w : World} {a : Option Addr} {l : List Nat} (h : Row63 w a l) (hn : l.length ≤ 65536) : SRow w a l := ⟨⟨by omega, h.1.2⟩, h.2⟩
/-- a field's check, however long its values -/
theorem check63 (X Y W H : Int) (a : Option Addr) (c : Nat) (l : List Nat) (w : World) (hl : Row63 w a l) :
    Calls Tryz.prog 6 #[fldV X Y W H a l.length c] w fun e w' => e = .returned (.int .i64 (chkF X Y W H l)) ∧ Below w.heap.size w w' := by
  by_cases hs : l.length ≤ 65536
  · exact check_field X Y W H a c l w (hl.srow hs)
  · have hz := hl.1.1
    clear hl
    have hA : Below w.heap.size w (w.alloc (.cells #[.int .i64 X, .int .i64 Y, .int .i64 W, .int .i64 H, .slice a l.length c] 26)) := (by repeat (first | with_reducible exact Below.refl _ _ | with_reducible apply Below.drew | with_reducible refine below_drewN ?_ _ | (with_reducible refine Below.setCell ?_ ?_ _; rotate_left; focus (first | omega | (simp <;> omega))) | (with_reducible refine Below.alloc ?_ ?_ _; rotate_left; focus (first | omega | (simp <;> omega)))))
    by_cases h1 : chk X Y W H = 0
    · obtain ⟨z1, z2, z3, z4, z5, z6, z7, z8, z9⟩ := chk_zero h1
      have zp : 1 ≤ W * H := by have := Int.mul_le_mul z1 z3 (by omega) (by omega); omega
      have h2 : (l.length : Int) ≠ W * H := by omega
      have E := Lib.hid (chkF_len h1 h2)
      have hb : ((l.length : Int) != W * H) = true := by rw [bne_iff_ne]; exact h2
      have H1 := Lib.hid h1
      clear h1 h2
      generalize chkF X Y W H l = r at *
      go_enter Tryz.func6, Tryz.ntmps6
      go_wp2_with fail
      refine (check1 _ _ _ _ _).mono ?_
      rintro e w1 ⟨rfl, b1⟩
      rw [H1.out]
      have B1 := hA.trans (b1.mono hA.size)
      obtain ⟨hcc, hf⟩ := bcell b1
      clear b1
      go_wp2_with fail
      go_ret
      exact ⟨ret_i64 E.out.symm, B1⟩
    · have E := Lib.hid (chkF_region (l := l) h1)
      have hb : (chk X Y W H != 0) = true := by rw [bne_iff_ne]; exact h1
      clear h1
      have E2 : Hid (chkF X Y W H l = chk X Y W H) := E.out
      have K := Lib.hid (fun w => check1 X Y W H w)
      generalize chk X Y W H = q at *
      generalize chkF X Y W H l = r at *
      go_enter Tryz.func6, Tryz.ntmps6
      go_wp2_with fail
      refine (K.out _).mono ?_
      rintro e w1 ⟨rfl, b1⟩
      have B1 := hA.trans (b1.mono hA.size)
      clear b1
      go_wp2
      go_ret
      exact ⟨ret_i64 E2.out.symm, B1⟩
theorem right_of {X Y W H : Int} {l : List Nat} (h : chkF X Y W H l = 0) : ∃ Wn Hn : Nat, W = (Wn : Int) ∧ H = (Hn : Int) ∧ Right X Y Wn Hn l := by
  have h1 : chk X Y W H = 0 := by
    by_cases t : chk X Y W H = 0
    · exact t
    · rw [chkF_region t] at h; exact absurd h t
  have h2 : (l.length : Int) = W * H := by
    by_cases t : (l.length : Int) = W * H
    · exact t
    · rw [chkF_len h1 t] at h; omega
  rw [chkF_vals h1 h2] at h
  obtain ⟨z1, z2, z3, z4, z5, z6, z7, z8, z9⟩ := chk_zero h1
  obtain ⟨Wn, rfl⟩ := Int.eq_ofNat_of_zero_le (show 0 ≤ W by omega)
  obtain ⟨Hn, rfl⟩ := Int.eq_ofNat_of_zero_le (show 0 ≤ H by omega)
  refine ⟨Wn, Hn, rfl, rfl, by omega, by omega, by omega, by omega, ?_, by omega, by omega, by omega, by omega, ?_, ?_⟩
  · rw [← Int.natCast_mul] at z9; omega
  · rw [← Int.natCast_mul] at h2; rw [Nat.mul_comm]; omega
  · refine allHt_iff.1 ?_
    cases hf : Ieee.Format.allFin l
    · rw [htE_bad hf] at h; omega
    · cases hh : Ieee.Format.allHt l
      · rw [htE_far hf hh] at h; omega
      · rfl
theorem bitsfnF_any (a b : Nat) (w : World) : Calls Tryz.prog 36 #[.float .f32 a, .float .f32 b] w fun e w' => e = .returned (.bool (decide (a = b))) ∧ w = w' := by
  have ka := fun w => run_f32bits a w
  have kb := fun w => run_f32bits b w
  go_enter Tryz.func36, Tryz.ntmps36
  go_wp2
  go_ret
  exact ⟨congrArg (fun b => Ending.returned (.bool b)) (beq_cast a b), rfl⟩

set_option maxHeartbeats 1000000 in
theorem eqfuncF_any (b o c b' o' c' : Nat) (l m : List Nat) (w : World) (hl : SRow w (some ⟨b, o, none⟩) l) (hm : SRow w (some ⟨b', o', none⟩) m) :
    Calls Tryz.prog 35 #[.slice (some ⟨b, o, none⟩) l.length c, .slice (some ⟨b', o', none⟩) m.length c', .func (.func 36) #[] #[]] w fun e w' => e = .returned (.bool (decide (l = m))) ∧ w = w' := by
  have HL := Lib.hid hl
  have HM := Lib.hid hm
  have l1 := hl.1.1
  have l2 := hm.1.1
  clear hl hm
  by_cases hn : l.length = m.length
  · have HN := Lib.hid hn
    have hb : ((l.length : Int) != (m.length : Int)) = false := by rw [bne_eq_false_iff_eq]; omega
    have HR : Hid (∀ r, r = decide (l = m) → Ending.returned (.bool r) = .returned (.bool (decide (l = m)))) := fun r hr => by rw [hr]
    have hgl : m.length ≤ l.length := by omega
    have hgm : l.length ≤ m.length := by omega
    clear hn
    go_enter Tryz.func35, Tryz.ntmps35
    go_wp2
    go_loop [7, 8, 9, 17] (fun _ _ _ i => ∃ k : Nat, k ≤ l.length ∧ i = .int .i64 k ∧ ∀ j, j < k → l.getD j 0 = m.getD j 0) (fun _ _ _ i => l.length - (intOf i).toNat)
    case atStart => exact ⟨0, by omega, rfl, by omega⟩
    case round =>
      obtain ⟨k, hk, rfl, hf⟩ := hrel
      have HF := Lib.hid hf
      clear hf
      by_cases hlt : k < l.length
      · have hlt2 : k < m.length := by omega
        have hc1 := HL.out.at_ hlt
        have hc2 := HM.out.at_ hlt2
        by_cases hx : l.getD k 0 = m.getD k 0
        · have HE : Hid (∀ j, j < k + 1 → l.getD j 0 = m.getD j 0) := by
            have HX := hx
            intro j hj
            by_cases c : j = k
            · subst c; exact HX
            · exact HF.out j (by omega)
          rw [← hx] at hc2
          clear hx
          generalize l.getD k 0 = x at *
          have KB := Lib.hid (fun w => bitsfnF_any x x w)
          rw [show decide (x = x) = true from decide_eq_true rfl] at KB
          go_wp2_with (go_at_call 36; refine (KB.out _).mono ?_; rintro e w' ⟨rfl, rfl⟩)
          go_round
          case rel => exact ⟨k + 1, by omega, by go_num, HE.out⟩
          case measure => simp [intOf]; omega
        · have HE : Hid (false = decide (l = m)) := by
            refine (decide_eq_false ?_).symm
            rintro rfl
            exact hx rfl
          have KB := Lib.hid (fun w => bitsfnF_any (l.getD k 0) (m.getD k 0) w)
          rw [show decide (l.getD k 0 = m.getD k 0) = false from decide_eq_false hx] at KB
          clear hx
          generalize l.getD k 0 = x at *
          generalize m.getD k 0 = y at *
          go_wp2_with (go_at_call 36; refine (KB.out _).mono ?_; rintro e w' ⟨rfl, rfl⟩)
          go_ret
          exact ⟨HR.out _ HE.out, rfl⟩
      · have HE : Hid (true = decide (l = m)) := by
          have hke : k = l.length := by omega
          refine (decide_eq_true ?_).symm
          exact list_eq_of HN.out (fun j hj => HF.out j (by omega))
        go_wp2
        go_ret
        exact ⟨HR.out _ HE.out, rfl⟩
  · have hb : ((l.length : Int) != (m.length : Int)) = true := by rw [bne_iff_ne]; omega
    have HE : Hid (false = decide (l = m)) := by
      refine (decide_eq_false ?_).symm
      rintro rfl
      exact hn rfl
    have HR : Hid (∀ r, r = decide (l = m) → Ending.returned (.bool r) = .returned (.bool (decide (l = m)))) := fun r hr => by rw [hr]
    clear hn
    go_enter Tryz.func35, Tryz.ntmps35
    go_wp2
    go_ret
    exact ⟨HR.out _ HE.out, rfl⟩

/-- are two fields the same -/
def smB (X Y W H X' Y' W' H' : Int) (l m : List Nat) : Bool := decide (X = X' ∧ Y = Y' ∧ W = W' ∧ H = H') && decide (l = m)
set_option maxHeartbeats 1000000 in
theorem fieldsame_any (X Y W H : Int) (b o c : Nat) (l : List Nat) (X' Y' W' H' : Int) (b' o' c' : Nat) (m : List Nat) (w : World) (hl : SRow w (some ⟨b, o, none⟩) l) (hm : SRow w (some ⟨b', o', none⟩) m) :
    Calls Tryz.prog 15 #[fldV X Y W H (some ⟨b, o, none⟩) l.length c, fldV X' Y' W' H' (some ⟨b', o', none⟩) m.length c'] w fun e w' => e = .returned (.bool (smB X Y W H X' Y' W' H' l m)) ∧ Below w.heap.size w w' := by
  have HL := Lib.hid hl
  have HM := Lib.hid hm
  clear hl hm
  have hA : Below w.heap.size w ((w.alloc (.cells #[.int .i64 X, .int .i64 Y, .int .i64 W, .int .i64 H, .slice (some ⟨b, o, none⟩) l.length c] 26)).alloc (.cells #[.int .i64 X', .int .i64 Y', .int .i64 W', .int .i64 H', .slice (some ⟨b', o', none⟩) m.length c'] 26)) := (by repeat (first | with_reducible exact Below.refl _ _ | with_reducible apply Below.drew | with_reducible refine below_drewN ?_ _ | (with_reducible refine Below.setCell ?_ ?_ _; rotate_left; focus (first | omega | (simp <;> omega))) | (with_reducible refine Below.alloc ?_ ?_ _; rotate_left; focus (first | omega | (simp <;> omega)))))
  have HA := Lib.hid hA
  clear hA
  by_cases hr : X = X' ∧ Y = Y' ∧ W = W' ∧ H = H'
  · obtain ⟨rfl, rfl, rfl, rfl⟩ := hr
    have hv : smB X Y W H X Y W H l m = decide (l = m) := by unfold smB; simp
    rw [hv]
    clear hv
    have KE := Lib.hid (fun W h1 h2 => eqfuncF_any b o c b' o' c' l m W h1 h2)
    generalize decide (l = m) = r at *
    have kn := fun w => eqlReg X Y W H X Y W H w
    have kg := fun x y w => eqGuardReg .eql x y X Y W H X Y W H w
    go_enter Tryz.func15, Tryz.ntmps15
    go_wp2_with fail
    refine (KE.out _ (HL.out.below HA.out) (HM.out.below HA.out)).mono ?_
    rintro e w1 ⟨rfl, rfl⟩
    go_wp2_with fail
    go_ret
    exact ⟨rfl, HA.out⟩
  · have hv : smB X Y W H X' Y' W' H' l m = false := by unfold smB; simp only [hr]; simp
    rw [hv]
    clear hv
    have hb : (X == X' && Y == Y' && W == W' && H == H') = false := by
      rw [Bool.eq_false_iff]
      intro h
      simp only [Bool.and_eq_true, beq_iff_eq] at h
      exact hr ⟨h.1.1.1, h.1.1.2, h.1.2, h.2⟩
    have kn := fun w => eqlReg X Y W H X' Y' W' H' w
    rw [hb] at kn
    have kg := fun x y w => eqGuardReg .eql x y X Y W H X' Y' W' H' w
    clear hr hb
    go_enter Tryz.func15, Tryz.ntmps15
    go_wp2_with fail
    go_ret
    exact ⟨rfl, HA.out⟩
/-- the reference's Inside of one cell and a region that lies near -/
theorem refinside_one (X Y W H : Int) (x y : Int) (w : World) (hw : 1 ≤ W) (hw2 : W ≤ 512) (hh : 1 ≤ H) (hh2 : H ≤ 512) (hx0 : -8388608 ≤ X) (hx1 : X ≤ 8388608) (hy0 : -8388608 ≤ Y) (hy1 : Y ≤ 8388608) :
    Calls Tryz.prog 12 #[reg x y 1 1, reg X Y W H] w fun e w' => e = .returned (.bool (decide (inR X Y W H x y))) ∧ Below w.heap.size w w' := by
  go_enter Tryz.func12, Tryz.ntmps12
  go_wp2
  all_goals
    go_ret
    refine ⟨ret_bool ?_, (by repeat (first | with_reducible exact Below.refl _ _ | with_reducible apply Below.drew | with_reducible refine below_drewN ?_ _ | (with_reducible refine Below.setCell ?_ ?_ _; rotate_left; focus (first | omega | (simp <;> omega))) | (with_reducible refine Below.alloc ?_ ?_ _; rotate_left; focus (first | omega | (simp <;> omega)))))⟩
    show _ = decide (inR X Y W H x y)
    unfold inR; grind

theorem one_same (a : Nat) (c : Int) (h : c ≠ 0 → a = 0) (w : World) : Calls Tryz.prog 13 #[.float .f32 a, .int .i64 c, .float .f32 a, .int .i64 c] w fun e w' => e = .returned (.bool true) ∧ w = w' := by
  by_cases hc : c = 0
  · subst hc
    have := one_ok a a w
    rw [decide_eq_true rfl] at this
    exact this
  · have := one_err a a c hc w
    rw [decide_eq_true (h hc)] at this
    exact this
/-! ### functions with fields return the field's error -/
set_option maxRecDepth 100000 in
theorem at_bad (X Y W H : Int) (a : Option Addr) (c : Nat) (l : List Nat) (x y : Int) (w : World) (hl : Row63 w a l) (h : chkF X Y W H l ≠ 0) :
    Calls Tryz.prog 7 #[fldV X Y W H a l.length c, .int .i64 x, .int .i64 y] w fun e w' => e = .returned (.tuple #[.float .f32 0, .int .i64 (chkF X Y W H l)]) ∧ Below w.heap.size w w' := by
  have K := Lib.hid (fun W' h' => check63 X Y W H a c l W' h')
  have HL := Lib.hid hl
  have hb : (chkF X Y W H l != 0) = true := by rw [bne_iff_ne]; exact h
  clear h hl
  generalize chkF X Y W H l = q at *
  have hA : Below w.heap.size w (w.alloc (.cells #[.int .i64 X, .int .i64 Y, .int .i64 W, .int .i64 H, .slice a l.length c] 26)) := (by repeat (first | with_reducible exact Below.refl _ _ | with_reducible apply Below.drew | with_reducible refine below_drewN ?_ _ | (with_reducible refine Below.setCell ?_ ?_ _; rotate_left; focus (first | omega | (simp <;> omega))) | (with_reducible refine Below.alloc ?_ ?_ _; rotate_left; focus (first | omega | (simp <;> omega)))))
  have HA := Lib.hid hA
  clear hA
  go_enter Tryz.func7, Tryz.ntmps7
  go_wp2_with fail
  refine (K.out _ (HL.out.below HA.out)).mono ?_
  rintro e w1 ⟨rfl, b1⟩
  have B1 := HA.out.trans (b1.mono HA.out.size)
  clear b1
  go_wp2_with fail
  go_ret2
  exact ⟨rfl, B1⟩
set_option maxRecDepth 100000 in
theorem sum_bad (X Y W H : Int) (a : Option Addr) (c : Nat) (l : List Nat) (how : Int) (w : World) (hl : Row63 w a l) (h : chkF X Y W H l ≠ 0) :
    Calls Tryz.prog 9 #[fldV X Y W H a l.length c, .int .i64 how] w fun e w' => e = .returned (.tuple #[.float .f32 0, .int .i64 (chkF X Y W H l)]) ∧ Below w.heap.size w w' := by
  have K := Lib.hid (fun W' h' => check63 X Y W H a c l W' h')
  have HL := Lib.hid hl
  have hb : (chkF X Y W H l != 0) = true := by rw [bne_iff_ne]; exact h
  clear h hl
  generalize chkF X Y W H l = q at *
  have hA : Below w.heap.size w (w.alloc (.cells #[.int .i64 X, .int .i64 Y, .int .i64 W, .int .i64 H, .slice a l.length c] 26)) := (by repeat (first | with_reducible exact Below.refl _ _ | with_reducible apply Below.drew | with_reducible refine below_drewN ?_ _ | (with_reducible refine Below.setCell ?_ ?_ _; rotate_left; focus (first | omega | (simp <;> omega))) | (with_reducible refine Below.alloc ?_ ?_ _; rotate_left; focus (first | omega | (simp <;> omega)))))
  have HA := Lib.hid hA
  clear hA
  go_enter Tryz.func9, Tryz.ntmps9
  go_wp2_with fail
  refine (K.out _ (HL.out.below HA.out)).mono ?_
  rintro e w1 ⟨rfl, b1⟩
  have B1 := HA.out.trans (b1.mono HA.out.size)
  clear b1
  go_wp2_with fail
  go_ret2
  exact ⟨rfl, B1⟩
set_option maxRecDepth 100000 in
theorem print_bad (X Y W H : Int) (a : Option Addr) (c : Nat) (l : List Nat) (w : World) (hl : Row63 w a l) (h : chkF X Y W H l ≠ 0) :
    Calls Tryz.prog 10 #[fldV X Y W H a l.length c] w fun e w' => e = .returned (.tuple #[.string ⟨#[]⟩, .int .i64 (chkF X Y W H l)]) ∧ Below w.heap.size w w' := by
  have K := Lib.hid (fun W' h' => check63 X Y W H a c l W' h')
  have HL := Lib.hid hl
  have hb : (chkF X Y W H l != 0) = true := by rw [bne_iff_ne]; exact h
  clear h hl
  generalize chkF X Y W H l = q at *
  have hA : Below w.heap.size w (w.alloc (.cells #[.int .i64 X, .int .i64 Y, .int .i64 W, .int .i64 H, .slice a l.length c] 26)) := (by repeat (first | with_reducible exact Below.refl _ _ | with_reducible apply Below.drew | with_reducible refine below_drewN ?_ _ | (with_reducible refine Below.setCell ?_ ?_ _; rotate_left; focus (first | omega | (simp <;> omega))) | (with_reducible refine Below.alloc ?_ ?_ _; rotate_left; focus (first | omega | (simp <;> omega)))))
  have HA := Lib.hid hA
  clear hA
  go_enter Tryz.func10, Tryz.ntmps10
  go_wp2_with fail
  refine (K.out _ (HL.out.below HA.out)).mono ?_
  rintro e w1 ⟨rfl, b1⟩
  have B1 := HA.out.trans (b1.mono HA.out.size)
  clear b1
  go_wp2_with fail
  go_ret2
  exact ⟨rfl, B1⟩
set_option maxRecDepth 100000 in
theorem range_bad (X Y W H : Int) (a : Option Addr) (c : Nat) (l : List Nat) (w : World) (hl : Row63 w a l) (h : chkF X Y W H l ≠ 0) :
    Calls Tryz.prog 11 #[fldV X Y W H a l.length c] w fun e w' => e = .returned (.tuple #[.float .f32 0, .float .f32 0, .int .i64 (chkF X Y W H l)]) ∧ Below w.heap.size w w' := by
  have K := Lib.hid (fun W' h' => check63 X Y W H a c l W' h')
  have HL := Lib.hid hl
  have hb : (chkF X Y W H l != 0) = true := by rw [bne_iff_ne]; exact h
  clear h hl
  generalize chkF X Y W H l = q at *
  have hA : Below w.heap.size w (w.alloc (.cells #[.int .i64 X, .int .i64 Y, .int .i64 W, .int .i64 H, .slice a l.length c] 26)) := (by repeat (first | with_reducible exact Below.refl _ _ | with_reducible apply Below.drew | with_reducible refine below_drewN ?_ _ | (with_reducible refine Below.setCell ?_ ?_ _; rotate_left; focus (first | omega | (simp <;> omega))) | (with_reducible refine Below.alloc ?_ ?_ _; rotate_left; focus (first | omega | (simp <;> omega)))))
  have HA := Lib.hid hA
  clear hA
  go_enter Tryz.func11, Tryz.ntmps11
  go_wp2_with fail
  refine (K.out _ (HL.out.below HA.out)).mono ?_
  rintro e w1 ⟨rfl, b1⟩
  have B1 := HA.out.trans (b1.mono HA.out.size)
  clear b1
  go_wp2_with fail
  exact bodyPost_ret (v := .tuple #[.float .f32 0, .float .f32 0, .int .i64 q]) (by simp [results, Tryz.results11, go_sem, *]) rfl ⟨rfl, B1⟩
set_option maxRecDepth 100000 in
theorem scale_bad (X Y W H : Int) (a : Option Addr) (c : Nat) (l : List Nat) (x y : Nat) (w : World) (hl : Row63 w a l) (h : chkF X Y W H l ≠ 0) :
    Calls Tryz.prog 8 #[fldV X Y W H a l.length c, .float .f32 x, .float .f32 y] w fun e w' => e = .returned (.tuple #[fldV 0 0 0 0 none 0 0, .int .i64 (chkF X Y W H l)]) ∧ Below w.heap.size w w' := by
  have K := Lib.hid (fun W' h' => check63 X Y W H a c l W' h')
  have HL := Lib.hid hl
  have hb : (chkF X Y W H l != 0) = true := by rw [bne_iff_ne]; exact h
  clear h hl
  generalize chkF X Y W H l = q at *
  have hA : Below w.heap.size w ((((w.alloc (.cells #[.int .i64 X, .int .i64 Y, .int .i64 W, .int .i64 H, .slice a l.length c] 26)).alloc (.cells #[.float .f32 x] 30)).alloc (.cells #[.float .f32 y] 30)).alloc (.cells #[.int .i64 0, .int .i64 0, .int .i64 0, .int .i64 0, .slice none 0 0] 26)) := (by repeat (first | with_reducible exact Below.refl _ _ | with_reducible apply Below.drew | with_reducible refine below_drewN ?_ _ | (with_reducible refine Below.setCell ?_ ?_ _; rotate_left; focus (first | omega | (simp <;> omega))) | (with_reducible refine Below.alloc ?_ ?_ _; rotate_left; focus (first | omega | (simp <;> omega)))))
  have HA := Lib.hid hA
  clear hA
  go_enter Tryz.func8, Tryz.ntmps8
  go_wp2_with fail
  refine (K.out _ (HL.out.below HA.out)).mono ?_
  rintro e w1 ⟨rfl, b1⟩
  have B1 := Lib.hid (HA.out.trans (b1.mono HA.out.size))
  obtain ⟨hcc, hf⟩ := bcell b1
  have hs := b1.size
  simp at hs
  have lta0 : w.heap.size < w1.heap.size := by omega
  have lta1 : w.heap.size + 1 < w1.heap.size := by omega
  have lta2 : w.heap.size + 1 + 1 < w1.heap.size := by omega
  have lta3 : w.heap.size + 1 + 1 + 1 < w1.heap.size := by omega
  clear b1
  go_wp2_with fail
  have B2 := B1.out
  exact bodyPost_ret (v := .tuple #[fldV 0 0 0 0 none 0 0, .int .i64 q]) (by simp [results, Tryz.results8, go_sem, *]) rfl ⟨rfl, (by have hszz := B2.size; repeat (first | with_reducible exact B2 | with_reducible apply Below.drew | with_reducible refine below_drewN ?_ _ | (with_reducible refine Below.setCell ?_ ?_ _; rotate_left; focus (first | omega | (simp <;> omega))) | (with_reducible refine Below.alloc ?_ ?_ _; rotate_left; focus (first | omega | (simp <;> omega)))))⟩

/-- the reference's check, however long the values -/
theorem refcheck63 (X Y W H : Int) (a : Option Addr) (c : Nat) (l : List Nat) (w : World) (hl : Row63 w a l) :
    Calls Tryz.prog 5 #[fldV X Y W H a l.length c] w fun e w' => e = .returned (.int .i64 (chkF X Y W H l)) ∧ Below w.heap.size w w' := by
  have hA : Below w.heap.size w (w.alloc (.cells #[.int .i64 X, .int .i64 Y, .int .i64 W, .int .i64 H, .slice a l.length c] 26)) := (by repeat (first | with_reducible exact Below.refl _ _ | with_reducible apply Below.drew | with_reducible refine below_drewN ?_ _ | (with_reducible refine Below.setCell ?_ ?_ _; rotate_left; focus (first | omega | (simp <;> omega))) | (with_reducible refine Below.alloc ?_ ?_ _; rotate_left; focus (first | omega | (simp <;> omega)))))
  have hz := hl.1.1
  have hcase : chk X Y W H ≠ 0 ∨ (chk X Y W H = 0 ∧ ((l.length : Int) ≠ W * H ∨ (l.length : Int) = W * H)) := by omega
  rcases hcase with h1 | ⟨h1, h2 | h2⟩
  · have E := Lib.hid (chkF_region (l := l) h1)
    have hb : (chk X Y W H != 0) = true := by rw [bne_iff_ne]; exact h1
    clear h1 hl
    have E2 : Hid (chkF X Y W H l = chk X Y W H) := E.out
    have K := Lib.hid (fun w => check2 X Y W H w)
    generalize chk X Y W H = q at *
    generalize chkF X Y W H l = r at *
    go_enter Tryz.func5, Tryz.ntmps5
    go_wp2_with fail
    refine (K.out _).mono ?_
    rintro e w1 ⟨rfl, b1⟩
    have B1 := hA.trans (b1.mono hA.size)
    clear b1
    go_wp2
    go_ret
    exact ⟨ret_i64 E2.out.symm, B1⟩
  · have E := Lib.hid (chkF_len h1 h2)
    obtain ⟨z1, z2, z3, z4, z5, z6, z7, z8, z9⟩ := chk_zero h1
    have zp : 1 ≤ W * H := by have := Int.mul_le_mul z1 z3 (by omega) (by omega); omega
    have hb : ((l.length : Int) != W * H) = true := by rw [bne_iff_ne]; exact h2
    have H1 := Lib.hid h1
    clear h1 h2 hl
    generalize chkF X Y W H l = r at *
    go_enter Tryz.func5, Tryz.ntmps5
    go_wp2_with fail
    refine (check2 _ _ _ _ _).mono ?_
    rintro e w1 ⟨rfl, b1⟩
    rw [H1.out]
    have B1 := hA.trans (b1.mono hA.size)
    obtain ⟨hcc, hf⟩ := bcell b1
    clear b1
    go_wp2_with fail
    go_ret
    exact ⟨ret_i64 E.out.symm, B1⟩
  · have E := Lib.hid (chkF_vals h1 h2)
    obtain ⟨z1, z2, z3, z4, z5, z6, z7, z8, z9⟩ := chk_zero h1
    have zp : 1 ≤ W * H := by have := Int.mul_le_mul z1 z3 (by omega) (by omega); omega
    have hb : ((l.length : Int) != W * H) = false := by rw [bne_eq_false_iff_eq]; exact h2
    have HL := Lib.hid (hl.srow (by omega))
    have H1 := Lib.hid h1
    have KH := Lib.hid (fun W' h' => refheight_any a c l W' h')
    clear h1 h2 hl
    generalize chkF X Y W H l = r at *
    generalize htE l = q at *
    go_enter Tryz.func5, Tryz.ntmps5
    go_wp2_with fail
    refine (check2 _ _ _ _ _).mono ?_
    rintro e w1 ⟨rfl, b1⟩
    rw [H1.out]
    have B1 := hA.trans (b1.mono hA.size)
    obtain ⟨hcc, hf⟩ := bcell b1
    clear b1
    go_wp2_with fail
    refine (KH.out _ (HL.out.below B1)).mono ?_
    rintro e w2 ⟨rfl, rfl⟩
    go_wp2_with fail
    go_ret
    exact ⟨ret_i64 E.out.symm, B1⟩
end Go.Proofs.YtfpiklbmmpmkiaaGreatDoor
