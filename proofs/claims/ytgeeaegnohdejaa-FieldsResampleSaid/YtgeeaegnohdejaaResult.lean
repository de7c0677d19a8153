import Derived.Test.YtgeeaegnohdejaaEach
namespace Go.Proofs.Ytgeeaegnohdejaa
open Go.ChangeShapes Go.WideShapes Go.ChangeAt Go.RowKit
open Ieee.Format (fin finE htE allFin allHt all_true all_false finE_ok finE_bad htE_ok htE_far htE_bad mulF subF addF)
set_option linter.unusedVariables false

theorem result_ok (X Y W H : Int) (b o c : Nat) (l : List Nat) (w : World) (hl : SRow w (some ⟨b, o, none⟩) l) (hh : ∀ j, j < l.length → (l.getD j 0) % 2147483648 ≤ 1233125376) :
    Calls Try.prog 91 #[fldV X Y W H (some ⟨b, o, none⟩) l.length c] w fun e w' => e = .returned (.tuple #[fldV X Y W H (some ⟨b, o, none⟩) l.length c, .int .i64 0]) ∧ Below w.heap.size w w' := by
  have HL := Lib.hid hl
  have HH := Lib.hid hh
  have hlen := hl.1.1
  clear hl hh
  go_enter Try.func91, Try.ntmps91
  go_wp2_with fail
  generalize hW0 : (w.alloc (.cells #[.int .i64 X, .int .i64 Y, .int .i64 W, .int .i64 H, .slice (some ⟨b, o, none⟩) l.length c] /-T-/66)).alloc (.cells #[.int .i64 0, .int .i64 0, .int .i64 0, .int .i64 0, .slice none 0 0] /-T-/66) = W0 at *
  obtain ⟨FA, FB, B0, hz⟩ := two_fields w X Y W H (.slice (some ⟨b, o, none⟩) l.length c) W0 hW0.symm
  clear hW0
  have HFA := Lib.hid FA
  have HFB := Lib.hid FB
  have HB := Lib.hid B0
  have HL0 : Hid (SRow W0 (some ⟨b, o, none⟩) l) := HL.out.below B0
  clear FA FB B0 hz
  go_loop [5, 9] (fun _ i => ∃ k : Nat, k ≤ l.length ∧ i = .int .i64 k) (fun _ i => l.length - (intOf i).toNat)
  case atStart => exact ⟨0, by omega, rfl⟩
  case round =>
    obtain ⟨k, hk, rfl⟩ := hrel
    by_cases hlt : k < l.length
    · have hcell := HL0.out.at_ hlt
      have hx := HH.out k hlt
      generalize l.getD k 0 = x at *
      have KH := Lib.hid (fun w => height_any x w)
      rw [show decide (x % 2147483648 ≤ 1233125376) = true from decide_eq_true hx] at KH
      clear hx
      go_wp2_with (go_at_call 152; refine (KH.out _).mono ?_; rintro e w' ⟨rfl, rfl⟩)
      go_round
      case rel => exact ⟨k + 1, by omega, by go_num⟩
      case measure => simp [intOf]; omega
    · have FA := HFA.out
      have FB := HFB.out
      obtain ⟨c0, c1, c2, c3, c4⟩ := FA.cells
      obtain ⟨d0, d1, d2, d3, d4⟩ := FB.cells
      have qf0 := FB.frozen 0
      have qf1 := FB.frozen 1
      have qf2 := FB.frozen 2
      have qf3 := FB.frozen 3
      have qf4 := FB.frozen 4
      clear FA FB
      go_wp2
      have B2 := HB.out
      exact bodyPost_ret (v := .tuple #[fldV X Y W H (some ⟨b, o, none⟩) l.length c, .int .i64 0]) (by simp [results, Try.results91, go_sem, *]) rfl ⟨rfl, (by have hszz := B2.size; repeat (first | with_reducible exact B2 | with_reducible apply Below.drew | with_reducible refine below_drewN ?_ _ | (with_reducible refine Below.setCell ?_ ?_ _; rotate_left; focus (first | omega | (simp <;> omega))) | (with_reducible refine Below.alloc ?_ ?_ _; rotate_left; focus (first | omega | (simp <;> omega)))))⟩

theorem result_no (X Y W H : Int) (b o c : Nat) (l : List Nat) (w : World) (hl : SRow w (some ⟨b, o, none⟩) l) (hh : allHt l = false) :
    Calls Try.prog 91 #[fldV X Y W H (some ⟨b, o, none⟩) l.length c] w fun e w' => e = .returned (.tuple #[fldV 0 0 0 0 none 0 0, .int .i64 3]) ∧ Below w.heap.size w w' := by
  have HL := Lib.hid hl
  have HH := Lib.hid hh
  have hlen := hl.1.1
  clear hl hh
  go_enter Try.func91, Try.ntmps91
  go_wp2_with fail
  generalize hW0 : (w.alloc (.cells #[.int .i64 X, .int .i64 Y, .int .i64 W, .int .i64 H, .slice (some ⟨b, o, none⟩) l.length c] /-T-/66)).alloc (.cells #[.int .i64 0, .int .i64 0, .int .i64 0, .int .i64 0, .slice none 0 0] /-T-/66) = W0 at *
  obtain ⟨FA, FB, B0, hz⟩ := two_fields w X Y W H (.slice (some ⟨b, o, none⟩) l.length c) W0 hW0.symm
  clear hW0
  have HFB := Lib.hid FB
  have HB := Lib.hid B0
  have HL0 : Hid (SRow W0 (some ⟨b, o, none⟩) l) := HL.out.below B0
  clear FA FB B0 hz
  go_loop [5, 9] (fun _ i => ∃ k : Nat, k ≤ l.length ∧ i = .int .i64 k ∧ ∀ j, j < k → (l.getD j 0) % 2147483648 ≤ 1233125376) (fun _ i => l.length - (intOf i).toNat)
  case atStart => exact ⟨0, by omega, rfl, by omega⟩
  case round =>
    obtain ⟨k, hk, rfl, hf⟩ := hrel
    have HF := Lib.hid hf
    clear hf
    by_cases hlt : k < l.length
    · have hcell := HL0.out.at_ hlt
      by_cases hx : (l.getD k 0) % 2147483648 ≤ 1233125376
      · have HX := Lib.hid hx
        have HE : Hid (∀ j, j < k + 1 → (l.getD j 0) % 2147483648 ≤ 1233125376) := fun j hj => by
          by_cases c : j = k
          · subst c; exact HX.out
          · exact HF.out j (by omega)
        clear HX
        generalize l.getD k 0 = x at *
        have KH := Lib.hid (fun w => height_any x w)
        rw [show decide (x % 2147483648 ≤ 1233125376) = true from decide_eq_true hx] at KH
        clear hx
        go_wp2_with (go_at_call 152; refine (KH.out _).mono ?_; rintro e w' ⟨rfl, rfl⟩)
        go_round
        case rel => exact ⟨k + 1, by omega, by go_num, HE.out⟩
        case measure => simp [intOf]; omega
      · generalize l.getD k 0 = x at *
        have KH := Lib.hid (fun w => height_any x w)
        rw [show decide (x % 2147483648 ≤ 1233125376) = false from decide_eq_false hx] at KH
        clear hx
        have FB := HFB.out
        obtain ⟨d0, d1, d2, d3, d4⟩ := FB.cells
        have qf0 := FB.frozen 0
        have qf1 := FB.frozen 1
        have qf2 := FB.frozen 2
        have qf3 := FB.frozen 3
        have qf4 := FB.frozen 4
        clear FB
        go_wp2_with (go_at_call 152; refine (KH.out _).mono ?_; rintro e w' ⟨rfl, rfl⟩)
        have B2 := HB.out
        exact bodyPost_ret (v := .tuple #[fldV 0 0 0 0 none 0 0, .int .i64 3]) (by simp [results, Try.results91, go_sem, *]) rfl ⟨rfl, (by have hszz := B2.size; repeat (first | with_reducible exact B2 | with_reducible apply Below.drew | with_reducible refine below_drewN ?_ _ | (with_reducible refine Below.setCell ?_ ?_ _; rotate_left; focus (first | omega | (simp <;> omega))) | (with_reducible refine Below.alloc ?_ ?_ _; rotate_left; focus (first | omega | (simp <;> omega)))))⟩
    · have hke : k = l.length := by omega
      have hall := all_true (p := fun x => x % 2147483648 ≤ 1233125376) (l := l) (by rw [← hke]; exact HF.out)
      have : allHt l = true := hall
      rw [HH.out] at this
      cases this
end Go.Proofs.Ytgeeaegnohdejaa
