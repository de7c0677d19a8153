import Derived.Test.YtgeeaegnohdejaaQuot
import Derived.Test.YtgeeaegnohdejaaFloatJ
import Derived.Test.YtgeeaegnohdejaaRegC
namespace Go.Proofs.Ytgeeaegnohdejaa
open Go.Shelf
open Go.ChangeShapes Go.WideShapes Go.ChangeAt Go.RowKit
open Ieee.Format (fin finE htE allFin allHt all_true all_false mulF subF addF Ht Bd mixF mix_bd shareF share_facts)
set_option linter.unusedVariables false

theorem mix_any (k a b s : Nat) (w : World) (ha : Bd k a) (hb : Bd k b) (hs : Bd 0 s) (hk : k ≤ 80) :
    Calls Try.prog 143 #[.float .f32 a, .float .f32 b, .float .f32 s] w fun e w' => e = .returned (.float .f32 (mixF a b s)) ∧ w = w' := by
  obtain ⟨h1, h2, h3⟩ := mix_bd ha hb hs hk
  have k1 := fun w' => run_float_arith (P := Try.prog) w' .sub 24 .f32 b a (subF b a) (Ieee.Format.bits_sub hb.1 ha.1)
  have k2 := fun w' => run_float_arith (P := Try.prog) w' .mul 24 .f32 (subF b a) s (mulF (subF b a) s) (Ieee.Format.bits_mul h1.1 hs.1)
  have k3 := fun w' => run_float_arith (P := Try.prog) w' .add 24 .f32 a (mulF (subF b a) s) (mixF a b s) (Ieee.Format.bits_add ha.1 h2.1)
  clear h1 h2 h3 ha hb hs
  generalize mixF a b s = z at *
  generalize mulF (subF b a) s = y at *
  generalize subF b a = x at *
  go_enter Try.func143, Try.ntmps143
  go_wp2
  go_ret
  exact ⟨rfl, rfl⟩
theorem lerp_any (k a b s : Nat) (w : World) (ha : Bd k a) (hb : Bd k b) (hs : Bd 0 s) (hk : k ≤ 80) :
    Calls Try.prog 146 #[.float .f32 a, .float .f32 b, .float .f32 s] w fun e w' => e = .returned (.float .f32 (mixF a b s)) ∧ w = w' := by
  obtain ⟨h1, h2, h3⟩ := mix_bd ha hb hs hk
  have k1 := Lib.hid (fun w' => ref_sub_ok b a w' hb.1 ha.1 h1.1)
  have k2 := Lib.hid (fun w' => ref_mul_ok (subF b a) s w' h1.1 hs.1 h2.1)
  have k3 := Lib.hid (fun w' => ref_add_ok a (mulF (subF b a) s) w' ha.1 h2.1 h3.1)
  change Hid (∀ w', Calls Try.prog 106 #[.float .f32 a, .float .f32 (mulF (subF b a) s)] w' fun e' w2 => e' = .returned (.float .f32 (mixF a b s)) ∧ w' = w2) at k3
  clear h1 h2 h3 ha hb hs
  generalize mixF a b s = z at *
  generalize mulF (subF b a) s = y at *
  generalize subF b a = x at *
  go_enter Try.func146, Try.ntmps146
  go_wp2_with fail
  refine (k1.out _).mono ?_
  rintro e w' ⟨rfl, rfl⟩
  go_wp2_with fail
  refine (k2.out _).mono ?_
  rintro e w' ⟨rfl, rfl⟩
  go_wp2_with fail
  refine (k3.out _).mono ?_
  rintro e w' ⟨rfl, rfl⟩
  go_wp2_with fail
  go_ret
  exact ⟨rfl, rfl⟩
theorem share_div (m d : Nat) (w : World) (h : m < d) (hd : d ≤ 64) : Calls Try.prog 113 #[.float .f32 (floatOfInt .f32 (m : Int)), .float .f32 (floatOfInt .f32 (d : Int))] w fun e w' => e = .returned (.float .f32 (shareF m d)) ∧ w = w' := by
  obtain ⟨_, ⟨X, Y, Z, a, b, c, dd⟩, _, _⟩ := share_facts h hd
  generalize shareF m d = r at *
  generalize floatOfInt .f32 (m : Int) = x at *
  generalize floatOfInt .f32 (d : Int) = y at *
  have ka := fun w => run_convert_float_float (P := Try.prog) w 24 105 .f32 .f64 x X (by kernel_rfl) Try.underlying105 a
  have kb := fun w => run_convert_float_float (P := Try.prog) w 24 105 .f32 .f64 y Y (by kernel_rfl) Try.underlying105 b
  have kc := fun w => run_float_arith (P := Try.prog) w .quo 105 .f64 X Y Z c
  have kd := fun w => run_convert_float_float (P := Try.prog) w 105 24 .f64 .f32 Z r (by kernel_rfl) Try.underlying24 dd
  clear a b c dd
  go_enter Try.func113, Try.ntmps113
  go_wp2
  go_ret
  exact ⟨rfl, rfl⟩

/-- a place is in a region -/
def inR (X Y W H x y : Int) : Prop := X ≤ x ∧ x < X + W ∧ Y ≤ y ∧ y < Y + H
instance (X Y W H x y : Int) : Decidable (inR X Y W H x y) := inferInstanceAs (Decidable (_ ∧ _ ∧ _ ∧ _))

theorem place_in (X Y : Int) (Wn Hn : Nat) (x y : Int) (k : Nat) (w : World) (hw : 1 ≤ Wn) (hw2 : Wn ≤ 512) (hh : 1 ≤ Hn) (hh2 : Hn ≤ 512) (hx0 : -8388608 ≤ X) (hx1 : X ≤ 8388608) (hy0 : -8388608 ≤ Y) (hy1 : Y ≤ 8388608) (h : inR X Y Wn Hn x y) (hk : cellNo X Y Wn x y = (k : Int)) :
    Calls Try.prog 159 #[reg X Y Wn Hn, .int .i64 x, .int .i64 y] w fun e w' => e = .returned (.tuple #[.int .i64 (k : Int), .bool true]) ∧ Below w.heap.size w w' := by
  obtain ⟨a1, a2, a3, a4⟩ := h
  obtain ⟨m0, m1, m2, m3⟩ := cellNo_in (show (1 : Int) ≤ Wn by omega) (by omega) (show (1 : Int) ≤ Hn by omega) (by omega) a1 a2 a3 a4
  have e : (y - Y) * Wn + x - X = (k : Int) := hk
  have kb : (k : Int) ≤ 1048576 := by omega
  clear hk m2 m3
  generalize hM : (y - Y) * (Wn : Int) = M at *
  go_enter Try.func159, Try.ntmps159
  go_wp2
  refine bodyPost_ret (v := .tuple #[.int .i64 (k : Int), .bool true]) (by simp [results, Try.results159, go_sem, *]) rfl ⟨rfl, (by repeat (first | with_reducible exact Below.refl _ _ | with_reducible apply Below.drew | with_reducible refine below_drewN ?_ _ | (with_reducible refine Below.setCell ?_ ?_ _; rotate_left; focus (first | omega | (simp <;> omega))) | (with_reducible refine Below.alloc ?_ ?_ _; rotate_left; focus (first | omega | (simp <;> omega)))))⟩
theorem place_out (X Y : Int) (Wn Hn : Nat) (x y : Int) (w : World) (hw : 1 ≤ Wn) (hw2 : Wn ≤ 512) (hh : 1 ≤ Hn) (hh2 : Hn ≤ 512) (hx0 : -8388608 ≤ X) (hx1 : X ≤ 8388608) (hy0 : -8388608 ≤ Y) (hy1 : Y ≤ 8388608) (h : ¬ inR X Y Wn Hn x y) :
    Calls Try.prog 159 #[reg X Y Wn Hn, .int .i64 x, .int .i64 y] w fun e w' => e = .returned (.tuple #[.int .i64 0, .bool false]) ∧ Below w.heap.size w w' := by
  unfold inR at h
  have HH := Lib.hid h
  clear h
  by_cases h1 : x < X
  · go_enter Try.func159, Try.ntmps159
    go_wp2
    exact bodyPost_ret (v := .tuple #[.int .i64 0, .bool false]) (by simp [results, Try.results159, go_sem, *]) rfl ⟨rfl, (by repeat (first | with_reducible exact Below.refl _ _ | with_reducible apply Below.drew | with_reducible refine below_drewN ?_ _ | (with_reducible refine Below.setCell ?_ ?_ _; rotate_left; focus (first | omega | (simp <;> omega))) | (with_reducible refine Below.alloc ?_ ?_ _; rotate_left; focus (first | omega | (simp <;> omega)))))⟩
  · by_cases h2 : y < Y
    · go_enter Try.func159, Try.ntmps159
      go_wp2
      exact bodyPost_ret (v := .tuple #[.int .i64 0, .bool false]) (by simp [results, Try.results159, go_sem, *]) rfl ⟨rfl, (by repeat (first | with_reducible exact Below.refl _ _ | with_reducible apply Below.drew | with_reducible refine below_drewN ?_ _ | (with_reducible refine Below.setCell ?_ ?_ _; rotate_left; focus (first | omega | (simp <;> omega))) | (with_reducible refine Below.alloc ?_ ?_ _; rotate_left; focus (first | omega | (simp <;> omega)))))⟩
    · by_cases h3 : X + Wn ≤ x
      · go_enter Try.func159, Try.ntmps159
        go_wp2
        exact bodyPost_ret (v := .tuple #[.int .i64 0, .bool false]) (by simp [results, Try.results159, go_sem, *]) rfl ⟨rfl, (by repeat (first | with_reducible exact Below.refl _ _ | with_reducible apply Below.drew | with_reducible refine below_drewN ?_ _ | (with_reducible refine Below.setCell ?_ ?_ _; rotate_left; focus (first | omega | (simp <;> omega))) | (with_reducible refine Below.alloc ?_ ?_ _; rotate_left; focus (first | omega | (simp <;> omega)))))⟩
      · have h4 : Y + Hn ≤ y := by have := HH.out; omega
        go_enter Try.func159, Try.ntmps159
        go_wp2
        exact bodyPost_ret (v := .tuple #[.int .i64 0, .bool false]) (by simp [results, Try.results159, go_sem, *]) rfl ⟨rfl, (by repeat (first | with_reducible exact Below.refl _ _ | with_reducible apply Below.drew | with_reducible refine below_drewN ?_ _ | (with_reducible refine Below.setCell ?_ ?_ _; rotate_left; focus (first | omega | (simp <;> omega))) | (with_reducible refine Below.alloc ?_ ?_ _; rotate_left; focus (first | omega | (simp <;> omega)))))⟩

theorem there_any (X Y : Int) (Wn Hn : Nat) (x y : Int) (a : Option Addr) (n c : Nat) (w : World) (hw : 1 ≤ Wn) (hw2 : Wn ≤ 512) (hh : 1 ≤ Hn) (hh2 : Hn ≤ 512) (hx0 : -8388608 ≤ X) (hx1 : X ≤ 8388608) (hy0 : -8388608 ≤ Y) (hy1 : Y ≤ 8388608) (g1 : -1073741824 ≤ x) (g2 : x ≤ 1073741824) (g3 : -1073741824 ≤ y) (g4 : y ≤ 1073741824) :
    Calls Try.prog 139 #[fldV X Y Wn Hn a n c, .int .i64 x, .int .i64 y] w fun e w' => e = .returned (.bool (decide (inR X Y Wn Hn x y))) ∧ Below w.heap.size w w' := by
  have K := Lib.hid (fun w' => inside2 x y 1 1 X Y Wn Hn w' g1 g2 g3 g4 (by omega) (by omega) (by omega) (by omega) (by omega) (by omega) (by omega) (by omega) (by omega) (by omega) (by omega) (by omega))
  have E : insB x y 1 1 X Y Wn Hn = decide (inR X Y Wn Hn x y) := by
    exact decide_eq_decide.2 (by unfold inR; omega)
  rw [E] at K
  clear E
  generalize decide (inR X Y Wn Hn x y) = d at *
  have HB : Hid (Below w.heap.size w (w.alloc (.cells #[.int .i64 X, .int .i64 Y, .int .i64 Wn, .int .i64 Hn, .slice a n c] /-T-/66))) := Lib.hid ((by repeat (first | with_reducible exact Below.refl _ _ | with_reducible apply Below.drew | with_reducible refine below_drewN ?_ _ | (with_reducible refine Below.setCell ?_ ?_ _; rotate_left; focus (first | omega | (simp <;> omega))) | (with_reducible refine Below.alloc ?_ ?_ _; rotate_left; focus (first | omega | (simp <;> omega))))))
  go_enter Try.func139, Try.ntmps139
  go_wp2_with fail
  refine (K.out _).mono ?_
  rintro e w1 ⟨rfl, b1⟩
  have B1 := Lib.hid (HB.out.trans (b1.mono HB.out.size))
  clear b1
  go_wp2_with fail
  go_ret
  exact ⟨rfl, B1.out⟩
end Go.Proofs.Ytgeeaegnohdejaa
