import Derived.Test.YtgeeaegnohdejaaResult
namespace Go.Proofs.Ytgeeaegnohdejaa
open Go.ChangeShapes Go.WideShapes Go.ChangeAt Go.RowKit
open Ieee.Format (fin finE htE allFin allHt all_true all_false finE_ok finE_bad htE_ok htE_far htE_bad mulF subF addF)
set_option linter.unusedVariables false

theorem ret_f32 {a b : Nat} (h : a = b) : Ending.returned (.float .f32 a) = .returned (.float .f32 b) := by rw [h]

/-- the number of a cell -/
def cellNo (X Y W x y : Int) : Int := (y - Y) * W + x - X

theorem cellNo_in {X Y W H x y : Int} (h1 : 1 ≤ W) (h2 : W ≤ 512) (h3 : 1 ≤ H) (h4 : H ≤ 512) (hx : X ≤ x) (hx' : x < X + W) (hy : Y ≤ y) (hy' : y < Y + H) :
    0 ≤ (y - Y) * W ∧ (y - Y) * W ≤ 262144 ∧ 0 ≤ cellNo X Y W x y ∧ cellNo X Y W x y < W * H := by
  have a := Int.mul_nonneg (show 0 ≤ y - Y by omega) (show 0 ≤ W by omega)
  have b := Int.mul_le_mul (show y - Y ≤ 511 by omega) h2 (by omega) (by omega)
  have c := Int.mul_le_mul_of_nonneg_right (show y - Y ≤ H - 1 by omega) (show 0 ≤ W by omega)
  have d : (H - 1) * W = W * H - W := by rw [Int.sub_mul, Int.one_mul, Int.mul_comm]
  unfold cellNo
  refine ⟨a, by omega, by omega, by omega⟩

set_option maxHeartbeats 1000000 in
theorem refat_any (X Y W H x y : Int) (b o c : Nat) (l : List Nat) (w : World) (hl : SRow w (some ⟨b, o, none⟩) l) (hn : (l.length : Int) = W * H) (h1 : 1 ≤ W) (h2 : W ≤ 512) (h3 : 1 ≤ H) (h4 : H ≤ 512)
    (h5 : -8388608 ≤ X) (h6 : X ≤ 8388608) (h7 : -8388608 ≤ Y) (h8 : Y ≤ 8388608) (hx : X ≤ x) (hx' : x < X + W) (hy : Y ≤ y) (hy' : y < Y + H) :
    Calls Try.prog 97 #[fldV X Y W H (some ⟨b, o, none⟩) l.length c, .int .i64 x, .int .i64 y] w fun e w' => e = .returned (.float .f32 (l.getD (cellNo X Y W x y).toNat 0)) ∧ Below w.heap.size w w' := by
  obtain ⟨m0, m1, m2, m3⟩ := cellNo_in h1 h2 h3 h4 hx hx' hy hy'
  have ha : Below w.heap.size w (w.alloc (.cells #[.int .i64 X, .int .i64 Y, .int .i64 W, .int .i64 H, .slice (some ⟨b, o, none⟩) l.length c] /-T-/66)) := (by repeat (first | with_reducible exact Below.refl _ _ | with_reducible apply Below.drew | with_reducible refine below_drewN ?_ _ | (with_reducible refine Below.setCell ?_ ?_ _; rotate_left; focus (first | omega | (simp <;> omega))) | (with_reducible refine Below.alloc ?_ ?_ _; rotate_left; focus (first | omega | (simp <;> omega)))))
  have hcell := (hl.below ha).at_ (k := (cellNo X Y W x y).toNat) (by omega)
  have e : cellNo X Y W x y = (y - Y) * W + x - X := rfl
  have HE : Hid (l.getD (cellNo X Y W x y).toNat 0 = l.getD ((y - Y) * W + x - X).toNat 0) := rfl
  rw [e] at m2 m3 hcell
  have i1 : (y - Y) * W + x - X < (l.length : Int) := by omega
  have i2 : 0 ≤ y - Y := by omega
  have i3 : y - Y ≤ 512 := by omega
  have i4 : x ≤ 8389120 := by omega
  have i5 : -8388608 ≤ x := by omega
  have i6 : y ≤ 8389120 := by omega
  have i7 : -8388608 ≤ y := by omega
  have HA := Lib.hid ha
  clear e hn ha hl m3
  generalize l.getD ((y - Y) * W + x - X).toNat 0 = z at *
  go_enter Try.func97, Try.ntmps97
  go_wp2_with fail
  go_ret
  exact ⟨ret_f32 HE.out.symm, HA.out⟩

theorem bitsfn_any (a b : Nat) (w : World) : Calls Try.prog 136 #[.float .f32 a, .float .f32 b] w fun e w' => e = .returned (.bool (decide (a = b))) ∧ w = w' := by
  have ka := fun w => run_f32bits a w
  have kb := fun w => run_f32bits b w
  go_enter Try.func136, Try.ntmps136
  go_wp2
  go_ret
  exact ⟨congrArg (fun b => Ending.returned (.bool b)) (beq_cast a b), rfl⟩

theorem list_eq_of {l m : List Nat} (hn : l.length = m.length) (h : ∀ j, j < l.length → l.getD j 0 = m.getD j 0) : l = m := by
  refine List.ext_getElem hn fun i h1 h2 => ?_
  have := h i h1
  rwa [List.getD_eq_getElem?_getD, List.getD_eq_getElem?_getD, List.getElem?_eq_getElem h1, List.getElem?_eq_getElem h2] at this

set_option maxHeartbeats 1000000 in
theorem eqfunc_any (b o c b' o' c' : Nat) (l m : List Nat) (w : World) (hl : SRow w (some ⟨b, o, none⟩) l) (hm : SRow w (some ⟨b', o', none⟩) m) :
    Calls Try.prog 135 #[.slice (some ⟨b, o, none⟩) l.length c, .slice (some ⟨b', o', none⟩) m.length c', .func (.func /-F-/136) #[] #[]] w fun e w' => e = .returned (.bool (decide (l = m))) ∧ w = w' := by
  have HL := Lib.hid hl
  have HM := Lib.hid hm
  have l1 := hl.1.1
  have l2 := hm.1.1
  clear hl hm
  by_cases hn : l.length = m.length
  · have HN := Lib.hid hn
    have hb : ((l.length : Int) != (m.length : Int)) = false := by rw [bne_eq_false_iff_eq]; omega
    have HR : Hid (∀ r, r = decide (l = m) → Ending.returned (.bool r) = .returned (.bool (decide (l = m)))) := fun r hr => by rw [hr]
    have hgl : m.length ≤ l.length := by omega
    have hgm : l.length ≤ m.length := by omega
    clear hn
    go_enter Try.func135, Try.ntmps135
    go_wp2
    go_loop [7, 8, 9, 17] (fun _ _ _ i => ∃ k : Nat, k ≤ l.length ∧ i = .int .i64 k ∧ ∀ j, j < k → l.getD j 0 = m.getD j 0) (fun _ _ _ i => l.length - (intOf i).toNat)
    case atStart => exact ⟨0, by omega, rfl, by omega⟩
    case round =>
      obtain ⟨k, hk, rfl, hf⟩ := hrel
      have HF := Lib.hid hf
      clear hf
      by_cases hlt : k < l.length
      · have hlt2 : k < m.length := by omega
        have hc1 := HL.out.at_ hlt
        have hc2 := HM.out.at_ hlt2
        by_cases hx : l.getD k 0 = m.getD k 0
        · have HE : Hid (∀ j, j < k + 1 → l.getD j 0 = m.getD j 0) := by
            have HX := hx
            intro j hj
            by_cases c : j = k
            · subst c; exact HX
            · exact HF.out j (by omega)
          rw [← hx] at hc2
          clear hx
          generalize l.getD k 0 = x at *
          have KB := Lib.hid (fun w => bitsfn_any x x w)
          rw [show decide (x = x) = true from decide_eq_true rfl] at KB
          go_wp2_with (go_at_call 136; refine (KB.out _).mono ?_; rintro e w' ⟨rfl, rfl⟩)
          go_round
          case rel => exact ⟨k + 1, by omega, by go_num, HE.out⟩
          case measure => simp [intOf]; omega
        · have HE : Hid (false = decide (l = m)) := by
            refine (decide_eq_false ?_).symm
            rintro rfl
            exact hx rfl
          have KB := Lib.hid (fun w => bitsfn_any (l.getD k 0) (m.getD k 0) w)
          rw [show decide (l.getD k 0 = m.getD k 0) = false from decide_eq_false hx] at KB
          clear hx
          generalize l.getD k 0 = x at *
          generalize m.getD k 0 = y at *
          go_wp2_with (go_at_call 136; refine (KB.out _).mono ?_; rintro e w' ⟨rfl, rfl⟩)
          go_ret
          exact ⟨HR.out _ HE.out, rfl⟩
      · have HE : Hid (true = decide (l = m)) := by
          have hke : k = l.length := by omega
          refine (decide_eq_true ?_).symm
          exact list_eq_of HN.out (fun j hj => HF.out j (by omega))
        go_wp2
        go_ret
        exact ⟨HR.out _ HE.out, rfl⟩
  · have hb : ((l.length : Int) != (m.length : Int)) = true := by rw [bne_iff_ne]; omega
    have HE : Hid (false = decide (l = m)) := by
      refine (decide_eq_false ?_).symm
      rintro rfl
      exact hn rfl
    have HR : Hid (∀ r, r = decide (l = m) → Ending.returned (.bool r) = .returned (.bool (decide (l = m)))) := fun r hr => by rw [hr]
    clear hn
    go_enter Try.func135, Try.ntmps135
    go_wp2
    go_ret
    exact ⟨HR.out _ HE.out, rfl⟩
end Go.Proofs.Ytgeeaegnohdejaa
