import Derived.Test.YtkmcinibaffpmaaLevF
import Derived.BigQuiet
import Derived.Deep.QuietTactic
import Derived.Deep.DeepCutAuto
namespace Go.Proofs.Ytkmcinibaffpmaa
open Go.ChangeShapes Go.WideShapes Go.ChangeAt Go.RowKit
open Ieee.Format (fin finE htE allFin allHt all_true all_false mulF subF addF Ht Bd divF rootF floorF easeF mixF)
set_option linter.unusedVariables false
open Ieee.Format (downF down_bd bits_add bits_mul const_qtr)

set_option maxRecDepth 100000 in
theorem even_any (X Y W H : Int) (w : World) : Calls Try.prog 205 #[reg X Y W H] w fun e w' => e = .returned (.bool (decide (X.tmod 2 = 0 ∧ Y.tmod 2 = 0 ∧ W.tmod 2 = 0 ∧ H.tmod 2 = 0))) ∧ Below w.heap.size w w' := by
  by_cases h1 : X.tmod 2 = 0
  · by_cases h2 : Y.tmod 2 = 0
    · by_cases h3 : W.tmod 2 = 0
      · by_cases h4 : H.tmod 2 = 0
        · rw [decide_eq_true ⟨h1, h2, h3, h4⟩]
          go_enter Try.func205, Try.ntmps205
          go_wp2_with fail
          go_ret
          exact ⟨rfl, (by repeat (first | with_reducible exact Below.refl _ _ | with_reducible apply Below.drew | with_reducible refine below_drewN ?_ _ | (with_reducible refine Below.setCell ?_ ?_ _; rotate_left; focus (first | omega | (simp <;> omega))) | (with_reducible refine Below.alloc ?_ ?_ _; rotate_left; focus (first | omega | (simp <;> omega)))))⟩
        · rw [decide_eq_false (fun h => h4 h.2.2.2)]
          have h5 : (H.tmod 2 == 0) = false := by simpa using h4
          go_enter Try.func205, Try.ntmps205
          go_wp2_with fail
          go_ret
          exact ⟨rfl, (by repeat (first | with_reducible exact Below.refl _ _ | with_reducible apply Below.drew | with_reducible refine below_drewN ?_ _ | (with_reducible refine Below.setCell ?_ ?_ _; rotate_left; focus (first | omega | (simp <;> omega))) | (with_reducible refine Below.alloc ?_ ?_ _; rotate_left; focus (first | omega | (simp <;> omega)))))⟩
      · rw [decide_eq_false (fun h => h3 h.2.2.1)]
        go_enter Try.func205, Try.ntmps205
        go_wp2_with fail
        go_ret
        exact ⟨rfl, (by repeat (first | with_reducible exact Below.refl _ _ | with_reducible apply Below.drew | with_reducible refine below_drewN ?_ _ | (with_reducible refine Below.setCell ?_ ?_ _; rotate_left; focus (first | omega | (simp <;> omega))) | (with_reducible refine Below.alloc ?_ ?_ _; rotate_left; focus (first | omega | (simp <;> omega)))))⟩
    · rw [decide_eq_false (fun h => h2 h.2.1)]
      go_enter Try.func205, Try.ntmps205
      go_wp2_with fail
      go_ret
      exact ⟨rfl, (by repeat (first | with_reducible exact Below.refl _ _ | with_reducible apply Below.drew | with_reducible refine below_drewN ?_ _ | (with_reducible refine Below.setCell ?_ ?_ _; rotate_left; focus (first | omega | (simp <;> omega))) | (with_reducible refine Below.alloc ?_ ?_ _; rotate_left; focus (first | omega | (simp <;> omega)))))⟩
  · rw [decide_eq_false (fun h => h1 h.1)]
    go_enter Try.func205, Try.ntmps205
    go_wp2_with fail
    go_ret
    exact ⟨rfl, (by repeat (first | with_reducible exact Below.refl _ _ | with_reducible apply Below.drew | with_reducible refine below_drewN ?_ _ | (with_reducible refine Below.setCell ?_ ?_ _; rotate_left; focus (first | omega | (simp <;> omega))) | (with_reducible refine Below.alloc ?_ ?_ _; rotate_left; focus (first | omega | (simp <;> omega)))))⟩
theorem ev_iff (v : Lv) : (v.X.tmod 2 = 0 ∧ v.Y.tmod 2 = 0 ∧ (v.W : Int).tmod 2 = 0 ∧ (v.H : Int).tmod 2 = 0) ↔ v.ev := by
  unfold Lv.ev
  have t : ∀ z : Int, z.tmod 2 = 0 ↔ z % 2 = 0 := fun z => by rw [← Int.dvd_iff_tmod_eq_zero, Int.dvd_iff_emod_eq_zero]
  rw [t, t, t, t]
  omega
set_option maxRecDepth 100000 in
set_option maxHeartbeats 1000000 in
theorem downfn_any (X Y : Int) (Wn Hn b c pf k : Nat) (l : List Nat) (x y M : Int) (w : World) (hf : Fld w pf X Y Wn Hn (.slice (some ⟨b, 0, none⟩) l.length c)) (hl : SRow w (some ⟨b, 0, none⟩) l) (hb : b < w.heap.size)
    (hM : (2 * y - Y) * (Wn : Int) = M) (m0 : 0 ≤ M) (m1 : M ≤ 65536) (hk : M + 2 * x - X = (k : Int)) (hkl : k + Wn + 1 < l.length) (hw : Wn ≤ 512)
    (hx : -8388608 ≤ x) (hx2 : x ≤ 8388608) (hy : -8388608 ≤ y) (hy2 : y ≤ 8388608) (hX : -8388608 ≤ X) (hX2 : X ≤ 8388608) (hY : -8388608 ≤ Y) (hY2 : Y ≤ 8388608)
    (f0 : fin Ieee.single (l.getD k 0)) (f1 : fin Ieee.single (l.getD (k + 1) 0)) (f2 : fin Ieee.single (l.getD (k + Wn) 0)) (f3 : fin Ieee.single (l.getD (k + Wn + 1) 0))
    (s1 : fin Ieee.single (addF (l.getD k 0) (l.getD (k + 1) 0))) (s2 : fin Ieee.single (addF (l.getD (k + Wn) 0) (l.getD (k + Wn + 1) 0))) (s3 : fin Ieee.single (addF (addF (l.getD k 0) (l.getD (k + 1) 0)) (addF (l.getD (k + Wn) 0) (l.getD (k + Wn + 1) 0)))) :
    Calls Try.prog 272 #[.int .i64 x, .int .i64 y, .pointer (some ⟨pf, 0, none⟩)] w fun e w' => e = .returned (.float .f32 (downF (l.getD k 0) (l.getD (k + 1) 0) (l.getD (k + Wn) 0) (l.getD (k + Wn + 1) 0))) ∧ Below w.heap.size w w' := by
  have hlen := hl.1.1
  have d0 := hl.at_ (k := k) (by omega)
  have d1 := hl.at_ (k := k + 1) (by omega)
  have d2 := hl.at_ (k := k + Wn) (by omega)
  have d3 := hl.at_ (k := k + Wn + 1) (by omega)
  rw [Nat.zero_add] at d0 d1 d2 d3
  have k1 := fun w' => run_float_arith (P := Try.prog) w' .add 29 .f32 _ _ _ (bits_add f0 f1)
  have k2 := fun w' => run_float_arith (P := Try.prog) w' .add 29 .f32 _ _ _ (bits_add f2 f3)
  have k3 := fun w' => run_float_arith (P := Try.prog) w' .add 29 .f32 _ _ _ (bits_add s1 s2)
  have k4 := fun w' => run_float_arith (P := Try.prog) w' .mul 29 .f32 _ _ _ (bits_mul s3 const_qtr.1)
  unfold downF
  clear f0 f1 f2 f3 s1 s2 s3
  generalize l.getD k 0 = v0 at *
  generalize l.getD (k + 1) 0 = v1 at *
  generalize l.getD (k + Wn) 0 = v2 at *
  generalize l.getD (k + Wn + 1) 0 = v3 at *
  generalize mulF (addF (addF v0 v1) (addF v2 v3)) 1048576000 = r at *
  generalize addF (addF v0 v1) (addF v2 v3) = r3 at *
  generalize addF v0 v1 = r1 at *
  generalize addF v2 v3 = r2 at *
  obtain ⟨c0, c1, c2, c3, c4⟩ := hf.cells
  have lf := hf.lt
  have e1 : IntKind.i64.wrap (2 * y) = 2 * y := IntWalk.i64_in _ (by omega)
  have e2 : IntKind.i64.wrap (2 * y - Y) = 2 * y - Y := IntWalk.i64_in _ (by omega)
  have e3 : IntKind.i64.wrap M = M := IntWalk.i64_in _ (by omega)
  have e4 : IntKind.i64.wrap (2 * x) = 2 * x := IntWalk.i64_in _ (by omega)
  have e5 : IntKind.i64.wrap (M + 2 * x) = M + 2 * x := IntWalk.i64_in _ (by omega)
  have e6 : IntKind.i64.wrap (M + 2 * x - X) = (k : Int) := by rw [IntWalk.i64_in _ (by omega)]; exact hk
  have e7 : IntKind.i64.wrap ((k : Int) + 1) = ((k + 1 : Nat) : Int) := by rw [IntWalk.i64_in _ (by omega)]; omega
  have e8 : IntKind.i64.wrap ((k : Int) + (Wn : Int)) = ((k + Wn : Nat) : Int) := by rw [IntWalk.i64_in _ (by omega)]; omega
  have e9 : IntKind.i64.wrap (((k + Wn : Nat) : Int) + 1) = ((k + Wn + 1 : Nat) : Int) := by rw [IntWalk.i64_in _ (by omega)]; omega
  have i0 : (k : Int) < (l.length : Int) := by omega
  have i1 : ((k + 1 : Nat) : Int) < (l.length : Int) := by omega
  have i2 : ((k + Wn : Nat) : Int) < (l.length : Int) := by omega
  have i3 : ((k + Wn + 1 : Nat) : Int) < (l.length : Int) := by omega
  clear hf hl hx hx2 hy hy2 hX hX2 hY hY2 m0 m1 hkl hw hk
  go_enter Try.func272, Try.ntmps272
  go_wp2_with fail
  go_quiet (fail)
  go_wp2_with fail
  go_ret
  exact ⟨rfl, (by repeat (first | with_reducible exact Below.refl _ _ | with_reducible apply Below.drew | with_reducible refine below_drewN ?_ _ | (with_reducible refine Below.setCell ?_ ?_ _; rotate_left; focus (first | omega | (simp <;> omega))) | (with_reducible refine Below.alloc ?_ ?_ _; rotate_left; focus (first | omega | (simp <;> omega)))))⟩
end Go.Proofs.Ytkmcinibaffpmaa
