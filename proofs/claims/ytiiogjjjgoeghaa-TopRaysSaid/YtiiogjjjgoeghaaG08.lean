import Derived.Test.YtiiogjjjgoeghaaG07
import Derived.IntWalk
import Derived.BigQuiet
import Derived.Deep.QuietTactic
import Derived.Deep.DeepCutAuto
import Derived.StillTailTactics
namespace Go.Proofs.Ytiiogjjjgoeghaa
open Go.ChangeShapes Go.WideShapes Go.ChangeAt Go.RowKit
open Ieee.Format (fin finE htE allFin allHt all_true all_false mulF subF addF Ht Bd divF rootF floorF easeF mixF)
set_option linter.unusedVariables false
set_option linter.unusedSimpArgs false
open Ieee.Format (num num_zero Ry fin_num V_zero htE_zero)

theorem const_16 : Ieee.single.fin 1199570944 ∧ Ieee.single.V 1199570944 = Ieee.P2 16 := by
  have := Ieee.Format.V_const false 142 8388608 (.inr (by decide)) (by decide) (by decide)
  rw [show Ieee.single.word false (142 * 8388608 + 8388608) = 1199570944 from by decide] at this
  refine ⟨this.1, ?_⟩
  rw [this.2.1, show ((142 : Nat) : Int) - 149 = -7 from rfl, show ((8388608 : Nat) : Rat) = Ieee.P2 23 from (Ieee.P2_nat 23).symm, ← Ieee.P2_add]
  simp [Ieee.sg]
def ryL (r : Ry) : List Nat := [r.X, r.Y, r.H, r.DX, r.DY, r.DH, r.Mo]
/-- the error of a ray -/
def ryE (r : Ry) : Int := if htE (ryL r) ≠ 0 then htE (ryL r) else if Ieee.single.V r.DX = 0 ∧ Ieee.single.V r.DY = 0 then 12 else if Ieee.single.V r.Mo < 0 then 3 else if Ieee.P2 16 < Ieee.single.V r.Mo then 3 else 0
theorem ryE_zero {r : Ry} (h : ryE r = 0) : r.ok := by
  unfold ryE at h
  by_cases h1 : htE (ryL r) = 0
  · rw [if_neg (by omega)] at h
    have ha := Ieee.Format.allHt_iff.1 (htE_zero h1)
    unfold ryL at ha
    split at h
    · omega
    · split at h
      · omega
      · split at h
        · omega
        · exact ⟨ha _ (by simp), ha _ (by simp), ha _ (by simp), ha _ (by simp), ha _ (by simp), ha _ (by simp), ha _ (by simp), by grind, by grind⟩
  · rw [if_pos h1] at h; exact absurd h h1
theorem row_seven (w : World) (g : Nat) (r : Ry) (hw : ∀ x ∈ ryL r, x < 4294967296) (h : w.heap[g]? = some (.cells #[.float .f32 r.X, .float .f32 r.Y, .float .f32 r.H, .float .f32 r.DX, .float .f32 r.DY, .float .f32 r.DH, .float .f32 r.Mo] 27 (0, 0))) : SRow w (some ⟨g, 0, none⟩) (ryL r) := by
  refine ⟨⟨by simp [ryL], hw⟩, .inr ⟨g, 0, rfl, fun i hi => ?_⟩⟩
  rw [cell_of_row w g (0 + i) _ _ _ h]
  have hi : i < 7 := hi
  match i, hi with
  | 0, _ => rfl
  | 1, _ => rfl
  | 2, _ => rfl
  | 3, _ => rfl
  | 4, _ => rfl
  | 5, _ => rfl
  | 6, _ => rfl
set_option maxRecDepth 100000 in
set_option maxHeartbeats 1000000 in
theorem checkray_any (r : Ry) (w : World) (hw : ∀ x ∈ ryL r, x < 4294967296) :
    Calls Try.prog 21 #[rayV r] w fun e w' => e = .returned (.int .i64 (ryE r)) ∧ Below w.heap.size w w' := by
  have HWF := Lib.hid hw
  have KH := Lib.hid (fun w g (h : SRow w (some ⟨g, 0, none⟩) (ryL r)) => show Calls Try.prog 16 #[.slice (some ⟨g, 0, none⟩) 7 7] w fun e w' => e = .returned (.int .i64 (htE (ryL r))) ∧ w = w' from heights_any (some ⟨g, 0, none⟩) 7 (ryL r) w h)
  unfold ryE
  by_cases h1 : htE (ryL r) = 0
  · have ha := Ieee.Format.allHt_iff.1 (htE_zero h1)
    rw [h1] at KH
    rw [if_neg (by omega)]
    have nx := fin_num (ha r.DX (by simp [ryL])).fin
    have ny := fin_num (ha r.DY (by simp [ryL])).fin
    have nm := fin_num (ha r.Mo (by simp [ryL])).fin
    have ex := oE nx num_zero
    have ey := oE ny num_zero
    have lm := oL nm num_zero
    have gm := oG nm (fin_num const_16.1)
    rw [V_zero] at ex ey lm
    rw [const_16.2] at gm
    clear ha nx ny nm h1 hw
    by_cases cx : Ieee.single.V r.DX = 0
    · rw [decide_eq_true cx] at ex
      by_cases cy : Ieee.single.V r.DY = 0
      · rw [decide_eq_true cy] at ey
        rw [if_pos ⟨cx, cy⟩]
        clear cx cy lm gm
        go_enter Try.func21, Try.ntmps21
        go_upto_region 1 with fail
        have b0 : Below w.heap.size w (w.alloc (.cells #[.float .f32 r.X, .float .f32 r.Y, .float .f32 r.H, .float .f32 r.DX, .float .f32 r.DY, .float .f32 r.DH, .float .f32 r.Mo] 29)) := (by repeat (first | with_reducible exact Below.refl _ _ | with_reducible apply Below.drew | with_reducible refine below_drewN ?_ _ | (with_reducible refine Below.setCell ?_ ?_ _; rotate_left; focus (first | omega | (simp <;> omega))) | (with_reducible refine Below.alloc ?_ ?_ _; rotate_left; focus (first | omega | (simp <;> omega)))))
        have R0 := Blk.new w #[.float .f32 r.X, .float .f32 r.Y, .float .f32 r.H, .float .f32 r.DX, .float .f32 r.DY, .float .f32 r.DH, .float .f32 r.Mo] 29
        generalize w.alloc (.cells #[.float .f32 r.X, .float .f32 r.Y, .float .f32 r.H, .float .f32 r.DX, .float .f32 r.DY, .float .f32 r.DH, .float .f32 r.Mo] 29) = W0 at *
        have p0 : W0.cell? ⟨w.heap.size, 0, none⟩ = some (.float .f32 r.X) := R0.cell 0
        have p1 : W0.cell? ⟨w.heap.size, 1, none⟩ = some (.float .f32 r.Y) := R0.cell 1
        have p2 : W0.cell? ⟨w.heap.size, 2, none⟩ = some (.float .f32 r.H) := R0.cell 2
        have p3 : W0.cell? ⟨w.heap.size, 3, none⟩ = some (.float .f32 r.DX) := R0.cell 3
        have p4 : W0.cell? ⟨w.heap.size, 4, none⟩ = some (.float .f32 r.DY) := R0.cell 4
        have p5 : W0.cell? ⟨w.heap.size, 5, none⟩ = some (.float .f32 r.DH) := R0.cell 5
        have p6 : W0.cell? ⟨w.heap.size, 6, none⟩ = some (.float .f32 r.Mo) := R0.cell 6
        have lr := R0.lt
        have HB0 := Lib.hid b0
        have HR0 := Lib.hid R0
        clear b0 R0
        go_wp2_with fail
        have bA : Below W0.heap.size W0 (W0.alloc (.cells #[.float .f32 r.X, .float .f32 r.Y, .float .f32 r.H, .float .f32 r.DX, .float .f32 r.DY, .float .f32 r.DH, .float .f32 r.Mo] 27)) := (by repeat (first | with_reducible exact Below.refl _ _ | with_reducible apply Below.drew | with_reducible refine below_drewN ?_ _ | (with_reducible refine Below.setCell ?_ ?_ _; rotate_left; focus (first | omega | (simp <;> omega))) | (with_reducible refine Below.alloc ?_ ?_ _; rotate_left; focus (first | omega | (simp <;> omega)))))
        have hS := row_seven _ _ r HWF.out (heap_alloc_new W0 (.cells #[.float .f32 r.X, .float .f32 r.Y, .float .f32 r.H, .float .f32 r.DX, .float .f32 r.DY, .float .f32 r.DH, .float .f32 r.Mo] 27))
        have HB1 := Lib.hid (HB0.out.trans (bA.mono HB0.out.size))
        have HR1 := Lib.hid (HR0.out.below bA HR0.out.lt)
        refine (KH.out _ _ hS).mono ?_
        rintro e w1 ⟨rfl, rfl⟩
        clear p0 p1 p2 p3 p4 p5 p6 lr bA hS HR0 HB0 KH
        generalize W0.alloc (.cells #[.float .f32 r.X, .float .f32 r.Y, .float .f32 r.H, .float .f32 r.DX, .float .f32 r.DY, .float .f32 r.DH, .float .f32 r.Mo] 27) = W1 at *
        have p3 : W1.cell? ⟨w.heap.size, 3, none⟩ = some (.float .f32 r.DX) := HR1.out.cell 3
        have p4 : W1.cell? ⟨w.heap.size, 4, none⟩ = some (.float .f32 r.DY) := HR1.out.cell 4
        have p6 : W1.cell? ⟨w.heap.size, 6, none⟩ = some (.float .f32 r.Mo) := HR1.out.cell 6
        have lr := HR1.out.lt
        go_wp2_with fail
        go_ret
        exact ⟨rfl, HB1.out⟩
      · rw [decide_eq_false cy] at ey
        rw [if_neg (fun h => cy h.2)]
        by_cases c1 : Ieee.single.V r.Mo < 0
        · rw [decide_eq_true c1] at lm
          rw [if_pos c1]
          clear cx cy c1 gm
          go_enter Try.func21, Try.ntmps21
          go_upto_region 1 with fail
          have b0 : Below w.heap.size w (w.alloc (.cells #[.float .f32 r.X, .float .f32 r.Y, .float .f32 r.H, .float .f32 r.DX, .float .f32 r.DY, .float .f32 r.DH, .float .f32 r.Mo] 29)) := (by repeat (first | with_reducible exact Below.refl _ _ | with_reducible apply Below.drew | with_reducible refine below_drewN ?_ _ | (with_reducible refine Below.setCell ?_ ?_ _; rotate_left; focus (first | omega | (simp <;> omega))) | (with_reducible refine Below.alloc ?_ ?_ _; rotate_left; focus (first | omega | (simp <;> omega)))))
          have R0 := Blk.new w #[.float .f32 r.X, .float .f32 r.Y, .float .f32 r.H, .float .f32 r.DX, .float .f32 r.DY, .float .f32 r.DH, .float .f32 r.Mo] 29
          generalize w.alloc (.cells #[.float .f32 r.X, .float .f32 r.Y, .float .f32 r.H, .float .f32 r.DX, .float .f32 r.DY, .float .f32 r.DH, .float .f32 r.Mo] 29) = W0 at *
          have p0 : W0.cell? ⟨w.heap.size, 0, none⟩ = some (.float .f32 r.X) := R0.cell 0
          have p1 : W0.cell? ⟨w.heap.size, 1, none⟩ = some (.float .f32 r.Y) := R0.cell 1
          have p2 : W0.cell? ⟨w.heap.size, 2, none⟩ = some (.float .f32 r.H) := R0.cell 2
          have p3 : W0.cell? ⟨w.heap.size, 3, none⟩ = some (.float .f32 r.DX) := R0.cell 3
          have p4 : W0.cell? ⟨w.heap.size, 4, none⟩ = some (.float .f32 r.DY) := R0.cell 4
          have p5 : W0.cell? ⟨w.heap.size, 5, none⟩ = some (.float .f32 r.DH) := R0.cell 5
          have p6 : W0.cell? ⟨w.heap.size, 6, none⟩ = some (.float .f32 r.Mo) := R0.cell 6
          have lr := R0.lt
          have HB0 := Lib.hid b0
          have HR0 := Lib.hid R0
          clear b0 R0
          go_wp2_with fail
          have bA : Below W0.heap.size W0 (W0.alloc (.cells #[.float .f32 r.X, .float .f32 r.Y, .float .f32 r.H, .float .f32 r.DX, .float .f32 r.DY, .float .f32 r.DH, .float .f32 r.Mo] 27)) := (by repeat (first | with_reducible exact Below.refl _ _ | with_reducible apply Below.drew | with_reducible refine below_drewN ?_ _ | (with_reducible refine Below.setCell ?_ ?_ _; rotate_left; focus (first | omega | (simp <;> omega))) | (with_reducible refine Below.alloc ?_ ?_ _; rotate_left; focus (first | omega | (simp <;> omega)))))
          have hS := row_seven _ _ r HWF.out (heap_alloc_new W0 (.cells #[.float .f32 r.X, .float .f32 r.Y, .float .f32 r.H, .float .f32 r.DX, .float .f32 r.DY, .float .f32 r.DH, .float .f32 r.Mo] 27))
          have HB1 := Lib.hid (HB0.out.trans (bA.mono HB0.out.size))
          have HR1 := Lib.hid (HR0.out.below bA HR0.out.lt)
          refine (KH.out _ _ hS).mono ?_
          rintro e w1 ⟨rfl, rfl⟩
          clear p0 p1 p2 p3 p4 p5 p6 lr bA hS HR0 HB0 KH
          generalize W0.alloc (.cells #[.float .f32 r.X, .float .f32 r.Y, .float .f32 r.H, .float .f32 r.DX, .float .f32 r.DY, .float .f32 r.DH, .float .f32 r.Mo] 27) = W1 at *
          have p3 : W1.cell? ⟨w.heap.size, 3, none⟩ = some (.float .f32 r.DX) := HR1.out.cell 3
          have p4 : W1.cell? ⟨w.heap.size, 4, none⟩ = some (.float .f32 r.DY) := HR1.out.cell 4
          have p6 : W1.cell? ⟨w.heap.size, 6, none⟩ = some (.float .f32 r.Mo) := HR1.out.cell 6
          have lr := HR1.out.lt
          go_wp2_with fail
          go_ret
          exact ⟨rfl, HB1.out⟩
        · rw [decide_eq_false c1] at lm
          rw [if_neg c1]
          by_cases c2 : Ieee.P2 16 < Ieee.single.V r.Mo
          · rw [decide_eq_true c2] at gm
            rw [if_pos c2]
            clear cx cy c1 c2
            go_enter Try.func21, Try.ntmps21
            go_upto_region 1 with fail
            have b0 : Below w.heap.size w (w.alloc (.cells #[.float .f32 r.X, .float .f32 r.Y, .float .f32 r.H, .float .f32 r.DX, .float .f32 r.DY, .float .f32 r.DH, .float .f32 r.Mo] 29)) := (by repeat (first | with_reducible exact Below.refl _ _ | with_reducible apply Below.drew | with_reducible refine below_drewN ?_ _ | (with_reducible refine Below.setCell ?_ ?_ _; rotate_left; focus (first | omega | (simp <;> omega))) | (with_reducible refine Below.alloc ?_ ?_ _; rotate_left; focus (first | omega | (simp <;> omega)))))
            have R0 := Blk.new w #[.float .f32 r.X, .float .f32 r.Y, .float .f32 r.H, .float .f32 r.DX, .float .f32 r.DY, .float .f32 r.DH, .float .f32 r.Mo] 29
            generalize w.alloc (.cells #[.float .f32 r.X, .float .f32 r.Y, .float .f32 r.H, .float .f32 r.DX, .float .f32 r.DY, .float .f32 r.DH, .float .f32 r.Mo] 29) = W0 at *
            have p0 : W0.cell? ⟨w.heap.size, 0, none⟩ = some (.float .f32 r.X) := R0.cell 0
            have p1 : W0.cell? ⟨w.heap.size, 1, none⟩ = some (.float .f32 r.Y) := R0.cell 1
            have p2 : W0.cell? ⟨w.heap.size, 2, none⟩ = some (.float .f32 r.H) := R0.cell 2
            have p3 : W0.cell? ⟨w.heap.size, 3, none⟩ = some (.float .f32 r.DX) := R0.cell 3
            have p4 : W0.cell? ⟨w.heap.size, 4, none⟩ = some (.float .f32 r.DY) := R0.cell 4
            have p5 : W0.cell? ⟨w.heap.size, 5, none⟩ = some (.float .f32 r.DH) := R0.cell 5
            have p6 : W0.cell? ⟨w.heap.size, 6, none⟩ = some (.float .f32 r.Mo) := R0.cell 6
            have lr := R0.lt
            have HB0 := Lib.hid b0
            have HR0 := Lib.hid R0
            clear b0 R0
            go_wp2_with fail
            have bA : Below W0.heap.size W0 (W0.alloc (.cells #[.float .f32 r.X, .float .f32 r.Y, .float .f32 r.H, .float .f32 r.DX, .float .f32 r.DY, .float .f32 r.DH, .float .f32 r.Mo] 27)) := (by repeat (first | with_reducible exact Below.refl _ _ | with_reducible apply Below.drew | with_reducible refine below_drewN ?_ _ | (with_reducible refine Below.setCell ?_ ?_ _; rotate_left; focus (first | omega | (simp <;> omega))) | (with_reducible refine Below.alloc ?_ ?_ _; rotate_left; focus (first | omega | (simp <;> omega)))))
            have hS := row_seven _ _ r HWF.out (heap_alloc_new W0 (.cells #[.float .f32 r.X, .float .f32 r.Y, .float .f32 r.H, .float .f32 r.DX, .float .f32 r.DY, .float .f32 r.DH, .float .f32 r.Mo] 27))
            have HB1 := Lib.hid (HB0.out.trans (bA.mono HB0.out.size))
            have HR1 := Lib.hid (HR0.out.below bA HR0.out.lt)
            refine (KH.out _ _ hS).mono ?_
            rintro e w1 ⟨rfl, rfl⟩
            clear p0 p1 p2 p3 p4 p5 p6 lr bA hS HR0 HB0 KH
            generalize W0.alloc (.cells #[.float .f32 r.X, .float .f32 r.Y, .float .f32 r.H, .float .f32 r.DX, .float .f32 r.DY, .float .f32 r.DH, .float .f32 r.Mo] 27) = W1 at *
            have p3 : W1.cell? ⟨w.heap.size, 3, none⟩ = some (.float .f32 r.DX) := HR1.out.cell 3
            have p4 : W1.cell? ⟨w.heap.size, 4, none⟩ = some (.float .f32 r.DY) := HR1.out.cell 4
            have p6 : W1.cell? ⟨w.heap.size, 6, none⟩ = some (.float .f32 r.Mo) := HR1.out.cell 6
            have lr := HR1.out.lt
            go_wp2_with fail
            go_ret
            exact ⟨rfl, HB1.out⟩
          · rw [decide_eq_false c2] at gm
            rw [if_neg c2]
            clear cx cy c1 c2
            go_enter Try.func21, Try.ntmps21
            go_upto_region 1 with fail
            have b0 : Below w.heap.size w (w.alloc (.cells #[.float .f32 r.X, .float .f32 r.Y, .float .f32 r.H, .float .f32 r.DX, .float .f32 r.DY, .float .f32 r.DH, .float .f32 r.Mo] 29)) := (by repeat (first | with_reducible exact Below.refl _ _ | with_reducible apply Below.drew | with_reducible refine below_drewN ?_ _ | (with_reducible refine Below.setCell ?_ ?_ _; rotate_left; focus (first | omega | (simp <;> omega))) | (with_reducible refine Below.alloc ?_ ?_ _; rotate_left; focus (first | omega | (simp <;> omega)))))
            have R0 := Blk.new w #[.float .f32 r.X, .float .f32 r.Y, .float .f32 r.H, .float .f32 r.DX, .float .f32 r.DY, .float .f32 r.DH, .float .f32 r.Mo] 29
            generalize w.alloc (.cells #[.float .f32 r.X, .float .f32 r.Y, .float .f32 r.H, .float .f32 r.DX, .float .f32 r.DY, .float .f32 r.DH, .float .f32 r.Mo] 29) = W0 at *
            have p0 : W0.cell? ⟨w.heap.size, 0, none⟩ = some (.float .f32 r.X) := R0.cell 0
            have p1 : W0.cell? ⟨w.heap.size, 1, none⟩ = some (.float .f32 r.Y) := R0.cell 1
            have p2 : W0.cell? ⟨w.heap.size, 2, none⟩ = some (.float .f32 r.H) := R0.cell 2
            have p3 : W0.cell? ⟨w.heap.size, 3, none⟩ = some (.float .f32 r.DX) := R0.cell 3
            have p4 : W0.cell? ⟨w.heap.size, 4, none⟩ = some (.float .f32 r.DY) := R0.cell 4
            have p5 : W0.cell? ⟨w.heap.size, 5, none⟩ = some (.float .f32 r.DH) := R0.cell 5
            have p6 : W0.cell? ⟨w.heap.size, 6, none⟩ = some (.float .f32 r.Mo) := R0.cell 6
            have lr := R0.lt
            have HB0 := Lib.hid b0
            have HR0 := Lib.hid R0
            clear b0 R0
            go_wp2_with fail
            have bA : Below W0.heap.size W0 (W0.alloc (.cells #[.float .f32 r.X, .float .f32 r.Y, .float .f32 r.H, .float .f32 r.DX, .float .f32 r.DY, .float .f32 r.DH, .float .f32 r.Mo] 27)) := (by repeat (first | with_reducible exact Below.refl _ _ | with_reducible apply Below.drew | with_reducible refine below_drewN ?_ _ | (with_reducible refine Below.setCell ?_ ?_ _; rotate_left; focus (first | omega | (simp <;> omega))) | (with_reducible refine Below.alloc ?_ ?_ _; rotate_left; focus (first | omega | (simp <;> omega)))))
            have hS := row_seven _ _ r HWF.out (heap_alloc_new W0 (.cells #[.float .f32 r.X, .float .f32 r.Y, .float .f32 r.H, .float .f32 r.DX, .float .f32 r.DY, .float .f32 r.DH, .float .f32 r.Mo] 27))
            have HB1 := Lib.hid (HB0.out.trans (bA.mono HB0.out.size))
            have HR1 := Lib.hid (HR0.out.below bA HR0.out.lt)
            refine (KH.out _ _ hS).mono ?_
            rintro e w1 ⟨rfl, rfl⟩
            clear p0 p1 p2 p3 p4 p5 p6 lr bA hS HR0 HB0 KH
            generalize W0.alloc (.cells #[.float .f32 r.X, .float .f32 r.Y, .float .f32 r.H, .float .f32 r.DX, .float .f32 r.DY, .float .f32 r.DH, .float .f32 r.Mo] 27) = W1 at *
            have p3 : W1.cell? ⟨w.heap.size, 3, none⟩ = some (.float .f32 r.DX) := HR1.out.cell 3
            have p4 : W1.cell? ⟨w.heap.size, 4, none⟩ = some (.float .f32 r.DY) := HR1.out.cell 4
            have p6 : W1.cell? ⟨w.heap.size, 6, none⟩ = some (.float .f32 r.Mo) := HR1.out.cell 6
            have lr := HR1.out.lt
            go_wp2_with fail
            go_ret
            exact ⟨rfl, HB1.out⟩
    · rw [decide_eq_false cx] at ex
      rw [if_neg (fun h => cx h.1)]
      clear ey
      by_cases c1 : Ieee.single.V r.Mo < 0
      · rw [decide_eq_true c1] at lm
        rw [if_pos c1]
        clear cx c1 gm
        go_enter Try.func21, Try.ntmps21
        go_upto_region 1 with fail
        have b0 : Below w.heap.size w (w.alloc (.cells #[.float .f32 r.X, .float .f32 r.Y, .float .f32 r.H, .float .f32 r.DX, .float .f32 r.DY, .float .f32 r.DH, .float .f32 r.Mo] 29)) := (by repeat (first | with_reducible exact Below.refl _ _ | with_reducible apply Below.drew | with_reducible refine below_drewN ?_ _ | (with_reducible refine Below.setCell ?_ ?_ _; rotate_left; focus (first | omega | (simp <;> omega))) | (with_reducible refine Below.alloc ?_ ?_ _; rotate_left; focus (first | omega | (simp <;> omega)))))
        have R0 := Blk.new w #[.float .f32 r.X, .float .f32 r.Y, .float .f32 r.H, .float .f32 r.DX, .float .f32 r.DY, .float .f32 r.DH, .float .f32 r.Mo] 29
        generalize w.alloc (.cells #[.float .f32 r.X, .float .f32 r.Y, .float .f32 r.H, .float .f32 r.DX, .float .f32 r.DY, .float .f32 r.DH, .float .f32 r.Mo] 29) = W0 at *
        have p0 : W0.cell? ⟨w.heap.size, 0, none⟩ = some (.float .f32 r.X) := R0.cell 0
        have p1 : W0.cell? ⟨w.heap.size, 1, none⟩ = some (.float .f32 r.Y) := R0.cell 1
        have p2 : W0.cell? ⟨w.heap.size, 2, none⟩ = some (.float .f32 r.H) := R0.cell 2
        have p3 : W0.cell? ⟨w.heap.size, 3, none⟩ = some (.float .f32 r.DX) := R0.cell 3
        have p4 : W0.cell? ⟨w.heap.size, 4, none⟩ = some (.float .f32 r.DY) := R0.cell 4
        have p5 : W0.cell? ⟨w.heap.size, 5, none⟩ = some (.float .f32 r.DH) := R0.cell 5
        have p6 : W0.cell? ⟨w.heap.size, 6, none⟩ = some (.float .f32 r.Mo) := R0.cell 6
        have lr := R0.lt
        have HB0 := Lib.hid b0
        have HR0 := Lib.hid R0
        clear b0 R0
        go_wp2_with fail
        have bA : Below W0.heap.size W0 (W0.alloc (.cells #[.float .f32 r.X, .float .f32 r.Y, .float .f32 r.H, .float .f32 r.DX, .float .f32 r.DY, .float .f32 r.DH, .float .f32 r.Mo] 27)) := (by repeat (first | with_reducible exact Below.refl _ _ | with_reducible apply Below.drew | with_reducible refine below_drewN ?_ _ | (with_reducible refine Below.setCell ?_ ?_ _; rotate_left; focus (first | omega | (simp <;> omega))) | (with_reducible refine Below.alloc ?_ ?_ _; rotate_left; focus (first | omega | (simp <;> omega)))))
        have hS := row_seven _ _ r HWF.out (heap_alloc_new W0 (.cells #[.float .f32 r.X, .float .f32 r.Y, .float .f32 r.H, .float .f32 r.DX, .float .f32 r.DY, .float .f32 r.DH, .float .f32 r.Mo] 27))
        have HB1 := Lib.hid (HB0.out.trans (bA.mono HB0.out.size))
        have HR1 := Lib.hid (HR0.out.below bA HR0.out.lt)
        refine (KH.out _ _ hS).mono ?_
        rintro e w1 ⟨rfl, rfl⟩
        clear p0 p1 p2 p3 p4 p5 p6 lr bA hS HR0 HB0 KH
        generalize W0.alloc (.cells #[.float .f32 r.X, .float .f32 r.Y, .float .f32 r.H, .float .f32 r.DX, .float .f32 r.DY, .float .f32 r.DH, .float .f32 r.Mo] 27) = W1 at *
        have p3 : W1.cell? ⟨w.heap.size, 3, none⟩ = some (.float .f32 r.DX) := HR1.out.cell 3
        have p4 : W1.cell? ⟨w.heap.size, 4, none⟩ = some (.float .f32 r.DY) := HR1.out.cell 4
        have p6 : W1.cell? ⟨w.heap.size, 6, none⟩ = some (.float .f32 r.Mo) := HR1.out.cell 6
        have lr := HR1.out.lt
        go_wp2_with fail
        go_ret
        exact ⟨rfl, HB1.out⟩
      · rw [decide_eq_false c1] at lm
        rw [if_neg c1]
        by_cases c2 : Ieee.P2 16 < Ieee.single.V r.Mo
        · rw [decide_eq_true c2] at gm
          rw [if_pos c2]
          clear cx c1 c2
          go_enter Try.func21, Try.ntmps21
          go_upto_region 1 with fail
          have b0 : Below w.heap.size w (w.alloc (.cells #[.float .f32 r.X, .float .f32 r.Y, .float .f32 r.H, .float .f32 r.DX, .float .f32 r.DY, .float .f32 r.DH, .float .f32 r.Mo] 29)) := (by repeat (first | with_reducible exact Below.refl _ _ | with_reducible apply Below.drew | with_reducible refine below_drewN ?_ _ | (with_reducible refine Below.setCell ?_ ?_ _; rotate_left; focus (first | omega | (simp <;> omega))) | (with_reducible refine Below.alloc ?_ ?_ _; rotate_left; focus (first | omega | (simp <;> omega)))))
          have R0 := Blk.new w #[.float .f32 r.X, .float .f32 r.Y, .float .f32 r.H, .float .f32 r.DX, .float .f32 r.DY, .float .f32 r.DH, .float .f32 r.Mo] 29
          generalize w.alloc (.cells #[.float .f32 r.X, .float .f32 r.Y, .float .f32 r.H, .float .f32 r.DX, .float .f32 r.DY, .float .f32 r.DH, .float .f32 r.Mo] 29) = W0 at *
          have p0 : W0.cell? ⟨w.heap.size, 0, none⟩ = some (.float .f32 r.X) := R0.cell 0
          have p1 : W0.cell? ⟨w.heap.size, 1, none⟩ = some (.float .f32 r.Y) := R0.cell 1
          have p2 : W0.cell? ⟨w.heap.size, 2, none⟩ = some (.float .f32 r.H) := R0.cell 2
          have p3 : W0.cell? ⟨w.heap.size, 3, none⟩ = some (.float .f32 r.DX) := R0.cell 3
          have p4 : W0.cell? ⟨w.heap.size, 4, none⟩ = some (.float .f32 r.DY) := R0.cell 4
          have p5 : W0.cell? ⟨w.heap.size, 5, none⟩ = some (.float .f32 r.DH) := R0.cell 5
          have p6 : W0.cell? ⟨w.heap.size, 6, none⟩ = some (.float .f32 r.Mo) := R0.cell 6
          have lr := R0.lt
          have HB0 := Lib.hid b0
          have HR0 := Lib.hid R0
          clear b0 R0
          go_wp2_with fail
          have bA : Below W0.heap.size W0 (W0.alloc (.cells #[.float .f32 r.X, .float .f32 r.Y, .float .f32 r.H, .float .f32 r.DX, .float .f32 r.DY, .float .f32 r.DH, .float .f32 r.Mo] 27)) := (by repeat (first | with_reducible exact Below.refl _ _ | with_reducible apply Below.drew | with_reducible refine below_drewN ?_ _ | (with_reducible refine Below.setCell ?_ ?_ _; rotate_left; focus (first | omega | (simp <;> omega))) | (with_reducible refine Below.alloc ?_ ?_ _; rotate_left; focus (first | omega | (simp <;> omega)))))
          have hS := row_seven _ _ r HWF.out (heap_alloc_new W0 (.cells #[.float .f32 r.X, .float .f32 r.Y, .float .f32 r.H, .float .f32 r.DX, .float .f32 r.DY, .float .f32 r.DH, .float .f32 r.Mo] 27))
          have HB1 := Lib.hid (HB0.out.trans (bA.mono HB0.out.size))
          have HR1 := Lib.hid (HR0.out.below bA HR0.out.lt)
          refine (KH.out _ _ hS).mono ?_
          rintro e w1 ⟨rfl, rfl⟩
          clear p0 p1 p2 p3 p4 p5 p6 lr bA hS HR0 HB0 KH
          generalize W0.alloc (.cells #[.float .f32 r.X, .float .f32 r.Y, .float .f32 r.H, .float .f32 r.DX, .float .f32 r.DY, .float .f32 r.DH, .float .f32 r.Mo] 27) = W1 at *
          have p3 : W1.cell? ⟨w.heap.size, 3, none⟩ = some (.float .f32 r.DX) := HR1.out.cell 3
          have p4 : W1.cell? ⟨w.heap.size, 4, none⟩ = some (.float .f32 r.DY) := HR1.out.cell 4
          have p6 : W1.cell? ⟨w.heap.size, 6, none⟩ = some (.float .f32 r.Mo) := HR1.out.cell 6
          have lr := HR1.out.lt
          go_wp2_with fail
          go_ret
          exact ⟨rfl, HB1.out⟩
        · rw [decide_eq_false c2] at gm
          rw [if_neg c2]
          clear cx c1 c2
          go_enter Try.func21, Try.ntmps21
          go_upto_region 1 with fail
          have b0 : Below w.heap.size w (w.alloc (.cells #[.float .f32 r.X, .float .f32 r.Y, .float .f32 r.H, .float .f32 r.DX, .float .f32 r.DY, .float .f32 r.DH, .float .f32 r.Mo] 29)) := (by repeat (first | with_reducible exact Below.refl _ _ | with_reducible apply Below.drew | with_reducible refine below_drewN ?_ _ | (with_reducible refine Below.setCell ?_ ?_ _; rotate_left; focus (first | omega | (simp <;> omega))) | (with_reducible refine Below.alloc ?_ ?_ _; rotate_left; focus (first | omega | (simp <;> omega)))))
          have R0 := Blk.new w #[.float .f32 r.X, .float .f32 r.Y, .float .f32 r.H, .float .f32 r.DX, .float .f32 r.DY, .float .f32 r.DH, .float .f32 r.Mo] 29
          generalize w.alloc (.cells #[.float .f32 r.X, .float .f32 r.Y, .float .f32 r.H, .float .f32 r.DX, .float .f32 r.DY, .float .f32 r.DH, .float .f32 r.Mo] 29) = W0 at *
          have p0 : W0.cell? ⟨w.heap.size, 0, none⟩ = some (.float .f32 r.X) := R0.cell 0
          have p1 : W0.cell? ⟨w.heap.size, 1, none⟩ = some (.float .f32 r.Y) := R0.cell 1
          have p2 : W0.cell? ⟨w.heap.size, 2, none⟩ = some (.float .f32 r.H) := R0.cell 2
          have p3 : W0.cell? ⟨w.heap.size, 3, none⟩ = some (.float .f32 r.DX) := R0.cell 3
          have p4 : W0.cell? ⟨w.heap.size, 4, none⟩ = some (.float .f32 r.DY) := R0.cell 4
          have p5 : W0.cell? ⟨w.heap.size, 5, none⟩ = some (.float .f32 r.DH) := R0.cell 5
          have p6 : W0.cell? ⟨w.heap.size, 6, none⟩ = some (.float .f32 r.Mo) := R0.cell 6
          have lr := R0.lt
          have HB0 := Lib.hid b0
          have HR0 := Lib.hid R0
          clear b0 R0
          go_wp2_with fail
          have bA : Below W0.heap.size W0 (W0.alloc (.cells #[.float .f32 r.X, .float .f32 r.Y, .float .f32 r.H, .float .f32 r.DX, .float .f32 r.DY, .float .f32 r.DH, .float .f32 r.Mo] 27)) := (by repeat (first | with_reducible exact Below.refl _ _ | with_reducible apply Below.drew | with_reducible refine below_drewN ?_ _ | (with_reducible refine Below.setCell ?_ ?_ _; rotate_left; focus (first | omega | (simp <;> omega))) | (with_reducible refine Below.alloc ?_ ?_ _; rotate_left; focus (first | omega | (simp <;> omega)))))
          have hS := row_seven _ _ r HWF.out (heap_alloc_new W0 (.cells #[.float .f32 r.X, .float .f32 r.Y, .float .f32 r.H, .float .f32 r.DX, .float .f32 r.DY, .float .f32 r.DH, .float .f32 r.Mo] 27))
          have HB1 := Lib.hid (HB0.out.trans (bA.mono HB0.out.size))
          have HR1 := Lib.hid (HR0.out.below bA HR0.out.lt)
          refine (KH.out _ _ hS).mono ?_
          rintro e w1 ⟨rfl, rfl⟩
          clear p0 p1 p2 p3 p4 p5 p6 lr bA hS HR0 HB0 KH
          generalize W0.alloc (.cells #[.float .f32 r.X, .float .f32 r.Y, .float .f32 r.H, .float .f32 r.DX, .float .f32 r.DY, .float .f32 r.DH, .float .f32 r.Mo] 27) = W1 at *
          have p3 : W1.cell? ⟨w.heap.size, 3, none⟩ = some (.float .f32 r.DX) := HR1.out.cell 3
          have p4 : W1.cell? ⟨w.heap.size, 4, none⟩ = some (.float .f32 r.DY) := HR1.out.cell 4
          have p6 : W1.cell? ⟨w.heap.size, 6, none⟩ = some (.float .f32 r.Mo) := HR1.out.cell 6
          have lr := HR1.out.lt
          go_wp2_with fail
          go_ret
          exact ⟨rfl, HB1.out⟩
  · rw [if_pos h1]
    have hb : (htE (ryL r) != 0) = true := by rw [bne_iff_ne]; exact h1
    clear h1 hw
    generalize htE (ryL r) = q at *
    go_enter Try.func21, Try.ntmps21
    go_upto_region 1 with fail
    have b0 : Below w.heap.size w (w.alloc (.cells #[.float .f32 r.X, .float .f32 r.Y, .float .f32 r.H, .float .f32 r.DX, .float .f32 r.DY, .float .f32 r.DH, .float .f32 r.Mo] 29)) := (by repeat (first | with_reducible exact Below.refl _ _ | with_reducible apply Below.drew | with_reducible refine below_drewN ?_ _ | (with_reducible refine Below.setCell ?_ ?_ _; rotate_left; focus (first | omega | (simp <;> omega))) | (with_reducible refine Below.alloc ?_ ?_ _; rotate_left; focus (first | omega | (simp <;> omega)))))
    have R0 := Blk.new w #[.float .f32 r.X, .float .f32 r.Y, .float .f32 r.H, .float .f32 r.DX, .float .f32 r.DY, .float .f32 r.DH, .float .f32 r.Mo] 29
    generalize w.alloc (.cells #[.float .f32 r.X, .float .f32 r.Y, .float .f32 r.H, .float .f32 r.DX, .float .f32 r.DY, .float .f32 r.DH, .float .f32 r.Mo] 29) = W0 at *
    have p0 : W0.cell? ⟨w.heap.size, 0, none⟩ = some (.float .f32 r.X) := R0.cell 0
    have p1 : W0.cell? ⟨w.heap.size, 1, none⟩ = some (.float .f32 r.Y) := R0.cell 1
    have p2 : W0.cell? ⟨w.heap.size, 2, none⟩ = some (.float .f32 r.H) := R0.cell 2
    have p3 : W0.cell? ⟨w.heap.size, 3, none⟩ = some (.float .f32 r.DX) := R0.cell 3
    have p4 : W0.cell? ⟨w.heap.size, 4, none⟩ = some (.float .f32 r.DY) := R0.cell 4
    have p5 : W0.cell? ⟨w.heap.size, 5, none⟩ = some (.float .f32 r.DH) := R0.cell 5
    have p6 : W0.cell? ⟨w.heap.size, 6, none⟩ = some (.float .f32 r.Mo) := R0.cell 6
    have lr := R0.lt
    have HB0 := Lib.hid b0
    have HR0 := Lib.hid R0
    clear b0 R0
    go_wp2_with fail
    have bA : Below W0.heap.size W0 (W0.alloc (.cells #[.float .f32 r.X, .float .f32 r.Y, .float .f32 r.H, .float .f32 r.DX, .float .f32 r.DY, .float .f32 r.DH, .float .f32 r.Mo] 27)) := (by repeat (first | with_reducible exact Below.refl _ _ | with_reducible apply Below.drew | with_reducible refine below_drewN ?_ _ | (with_reducible refine Below.setCell ?_ ?_ _; rotate_left; focus (first | omega | (simp <;> omega))) | (with_reducible refine Below.alloc ?_ ?_ _; rotate_left; focus (first | omega | (simp <;> omega)))))
    have hS := row_seven _ _ r HWF.out (heap_alloc_new W0 (.cells #[.float .f32 r.X, .float .f32 r.Y, .float .f32 r.H, .float .f32 r.DX, .float .f32 r.DY, .float .f32 r.DH, .float .f32 r.Mo] 27))
    have HB1 := Lib.hid (HB0.out.trans (bA.mono HB0.out.size))
    have HR1 := Lib.hid (HR0.out.below bA HR0.out.lt)
    refine (KH.out _ _ hS).mono ?_
    rintro e w1 ⟨rfl, rfl⟩
    clear p0 p1 p2 p3 p4 p5 p6 lr bA hS HR0 HB0 KH
    generalize W0.alloc (.cells #[.float .f32 r.X, .float .f32 r.Y, .float .f32 r.H, .float .f32 r.DX, .float .f32 r.DY, .float .f32 r.DH, .float .f32 r.Mo] 27) = W1 at *
    have p3 : W1.cell? ⟨w.heap.size, 3, none⟩ = some (.float .f32 r.DX) := HR1.out.cell 3
    have p4 : W1.cell? ⟨w.heap.size, 4, none⟩ = some (.float .f32 r.DY) := HR1.out.cell 4
    have p6 : W1.cell? ⟨w.heap.size, 6, none⟩ = some (.float .f32 r.Mo) := HR1.out.cell 6
    have lr := HR1.out.lt
    go_wp2_with fail
    go_ret
    exact ⟨rfl, HB1.out⟩
end Go.Proofs.Ytiiogjjjgoeghaa

namespace Go.Proofs.Ytiiogjjjgoeghaa
open Go.ChangeShapes Go.WideShapes Go.ChangeAt Go.RowKit
open Ieee.Format (fin finE htE allFin allHt all_true all_false mulF subF addF Ht Bd divF rootF floorF easeF mixF)
set_option linter.unusedVariables false
set_option linter.unusedSimpArgs false
open Ieee.Format (num fin_num hiS loS hiS_append loS_append hiS_mem loS_mem)

theorem take_next {l : List Nat} {k : Nat} (h : k < l.length) : l.take (k + 1) = l.take k ++ [l.getD k 0] := by
  rw [List.take_add_one, List.getElem?_eq_getElem h, List.getD_eq_getElem?_getD, List.getElem?_eq_getElem h]
  rfl
set_option maxRecDepth 100000 in
set_option maxHeartbeats 1000000 in
theorem extremes_any (x : Nat) (m : List Nat) (b o c : Nat) (w : World) (hl : SRow w (some ⟨b, o, none⟩) (x :: m)) (hc : m.length + 1 ≤ c) (hcm : c ≤ 9223372036854775807) (hx : Ht x) (hm : ∀ v ∈ m, Ht v) :
    Calls Try.prog 26 #[.slice (some ⟨b, o, none⟩) (m.length + 1) c] w fun e w' => e = .returned (.tuple #[.float .f32 (loS x m), .float .f32 (hiS x m)]) ∧ Below w.heap.size w w' := by
  have HL := Lib.hid hl
  have c0 : w.cell? ⟨b, o, none⟩ = some (.float .f32 x) := hl.at_ (k := 0) (by simp)
  have HN := Lib.hid (fun k (hk : k ≤ m.length) => show num (loS x (m.take k)) ∧ num (hiS x (m.take k)) from by
    refine ⟨?_, ?_⟩
    · rcases loS_mem (m.take k) x with h | h
      · rw [h]; exact fin_num hx.fin
      · exact fin_num (hm _ (List.mem_of_mem_take h)).fin
    · rcases hiS_mem (m.take k) x with h | h
      · rw [h]; exact fin_num hx.fin
      · exact fin_num (hm _ (List.mem_of_mem_take h)).fin)
  have HM := Lib.hid (fun k (hk : k < m.length) => show num (m.getD k 0) from by
    rw [List.getD_eq_getElem?_getD, List.getElem?_eq_getElem hk]; exact fin_num (hm _ (List.getElem_mem hk)).fin)
  have HT := Lib.hid (fun k (hk : k < m.length) => take_next hk)
  have HC := Lib.hid (fun k (hk : k < m.length) => show w.cell? ⟨b, o + 1 + k, none⟩ = some (.float .f32 (m.getD k 0)) from by
    have := hl.at_ (k := k + 1) (by simpa using hk)
    rw [show o + 1 + k = o + (k + 1) by omega, this]
    rfl)
  have HE : Hid (m.take m.length = m) := Lib.hid (List.take_length)
  have hi1 : (0 : Int) < (m.length : Int) + 1 := by omega
  have hcl : (1 : Int) ≤ (m.length : Int) + 1 := by omega
  clear hl hx hm
  go_enter Try.func26, Try.ntmps26
  go_wp2_with fail
  go_quiet (fail)
  go_upto_region 3 with fail
  case inl hc1 =>
    obtain rfl : m = [] := by cases m with
      | nil => rfl
      | cons a t => simp at hc; omega
    go_loopw [2, 3, 15] (fun lv hv iv wr => iv = .int .i64 0 ∧ lv = .float .f32 x ∧ hv = .float .f32 x ∧ Below w.heap.size w wr) (fun _ _ iv _ => 0)
    case atStart => exact ⟨rfl, rfl, rfl, by have hb := Below.refl w.heap.size w; exact (by have hszz := hb.size; repeat (first | with_reducible exact hb | with_reducible apply Below.drew | with_reducible refine below_drewN ?_ _ | (with_reducible refine Below.setCell ?_ ?_ _; rotate_left; focus (first | omega | (simp <;> omega))) | (with_reducible refine Below.alloc ?_ ?_ _; rotate_left; focus (first | omega | (simp <;> omega)))))⟩
    case round =>
      obtain ⟨rfl, rfl, rfl, hb⟩ := hrel
      have HB := Lib.hid hb
      clear HN HM HT HC HE hb
      go_wp2_with fail
      exact bodyPost_ret (v := .tuple #[.float .f32 x, .float .f32 x]) (by simp [results, Try.results26, go_sem, *]) rfl ⟨rfl, HB.out⟩
  case inr hc1 =>
    go_loopw [2, 3, 15] (fun lv hv iv wr => ∃ k : Nat, k ≤ m.length ∧ iv = .int .i64 (k : Int) ∧ lv = .float .f32 (loS x (m.take k)) ∧ hv = .float .f32 (hiS x (m.take k)) ∧ Below w.heap.size w wr) (fun _ _ iv _ => m.length - (intOf iv).toNat)
    case atStart => exact ⟨0, by omega, rfl, rfl, rfl, by have hb := Below.refl w.heap.size w; exact (by have hszz := hb.size; repeat (first | with_reducible exact hb | with_reducible apply Below.drew | with_reducible refine below_drewN ?_ _ | (with_reducible refine Below.setCell ?_ ?_ _; rotate_left; focus (first | omega | (simp <;> omega))) | (with_reducible refine Below.alloc ?_ ?_ _; rotate_left; focus (first | omega | (simp <;> omega)))))⟩
    case round =>
      obtain ⟨k, hk, rfl, rfl, rfl, hb⟩ := hrel
      have HB := Lib.hid hb
      by_cases hlt : k < m.length
      · have hi' : (k : Int) < (m.length : Int) := by omega
        have c1 : wr.cell? ⟨b, o + 1 + k, none⟩ = some (.float .f32 (m.getD k 0)) := by
          have h := HC.out k hlt
          rw [hb.cell (World.block_lt_of_cell? w _ h)]
          exact h
        obtain ⟨n1, n2⟩ := HN.out k hk
        have l1 := oL (HM.out k hlt) n1
        have g1 := oG (HM.out k hlt) n2
        have HR : Hid (loS x (m.take (k + 1)) = (if Ieee.single.V (m.getD k 0) < Ieee.single.V (loS x (m.take k)) then m.getD k 0 else loS x (m.take k)) ∧ hiS x (m.take (k + 1)) = (if Ieee.single.V (hiS x (m.take k)) < Ieee.single.V (m.getD k 0) then m.getD k 0 else hiS x (m.take k))) := by
          unfold Hid
          rw [HT.out k hlt, loS_append, hiS_append]
          exact ⟨rfl, rfl⟩
        clear hb n1 n2 HN HM HT HC HE
        generalize hL2 : loS x (m.take (k + 1)) = L2 at *
        generalize hH2 : hiS x (m.take (k + 1)) = H2 at *
        generalize loS x (m.take k) = L1 at *
        generalize hiS x (m.take k) = H1 at *
        generalize m.getD k 0 = v at *
        obtain ⟨hr1, hr2⟩ := HR.out
        by_cases d1 : Ieee.single.V v < Ieee.single.V L1
        · rw [decide_eq_true d1] at l1
          rw [if_pos d1] at hr1
          by_cases d2 : Ieee.single.V H1 < Ieee.single.V v
          · rw [decide_eq_true d2] at g1
            rw [if_pos d2] at hr2
            have HQ := Lib.hid (And.intro (hL2.trans hr1) (hH2.trans hr2))
            clear hr1 hr2 hL2 hH2 HR d1 d2
            go_wp2_with fail
            go_roundw
            case rel => exact ⟨k + 1, by omega, by go_num, by rw [HQ.out.1], by rw [HQ.out.2], HB.out⟩
            case measure => simp [intOf]; omega
          · rw [decide_eq_false d2] at g1
            rw [if_neg d2] at hr2
            have HQ := Lib.hid (And.intro (hL2.trans hr1) (hH2.trans hr2))
            clear hr1 hr2 hL2 hH2 HR d1 d2
            go_wp2_with fail
            go_roundw
            case rel => exact ⟨k + 1, by omega, by go_num, by rw [HQ.out.1], by rw [HQ.out.2], HB.out⟩
            case measure => simp [intOf]; omega
        · rw [decide_eq_false d1] at l1
          rw [if_neg d1] at hr1
          by_cases d2 : Ieee.single.V H1 < Ieee.single.V v
          · rw [decide_eq_true d2] at g1
            rw [if_pos d2] at hr2
            have HQ := Lib.hid (And.intro (hL2.trans hr1) (hH2.trans hr2))
            clear hr1 hr2 hL2 hH2 HR d1 d2
            go_wp2_with fail
            go_roundw
            case rel => exact ⟨k + 1, by omega, by go_num, by rw [HQ.out.1], by rw [HQ.out.2], HB.out⟩
            case measure => simp [intOf]; omega
          · rw [decide_eq_false d2] at g1
            rw [if_neg d2] at hr2
            have HQ := Lib.hid (And.intro (hL2.trans hr1) (hH2.trans hr2))
            clear hr1 hr2 hL2 hH2 HR d1 d2
            go_wp2_with fail
            go_roundw
            case rel => exact ⟨k + 1, by omega, by go_num, by rw [HQ.out.1], by rw [HQ.out.2], HB.out⟩
            case measure => simp [intOf]; omega
      · obtain rfl : k = m.length := by omega
        have he := HE.out
        rw [he]
        clear HN HM HT HC HE he hb
        go_wp2_with fail
        exact bodyPost_ret (v := .tuple #[.float .f32 (loS x m), .float .f32 (hiS x m)]) (by simp [results, Try.results26, go_sem, *]) rfl ⟨rfl, HB.out⟩
end Go.Proofs.Ytiiogjjjgoeghaa

namespace Go.Proofs.Ytiiogjjjgoeghaa
open Go.ChangeShapes Go.WideShapes Go.ChangeAt Go.RowKit
open Ieee.Format (fin finE htE allFin allHt all_true all_false mulF subF addF Ht Bd divF rootF floorF easeF mixF)
set_option linter.unusedVariables false
set_option linter.unusedSimpArgs false
open Ieee.Format (num fin_num hiS loS hiS_append loS_append hiS_mem loS_mem)

/-- a box's values -/
abbrev boxL (L x y lo hi : Nat) : Array Value := #[.int .i64 (L : Int), .int .i64 (x : Int), .int .i64 (y : Int), .float .f32 lo, .float .f32 hi]
abbrev boxV (L x y lo hi : Nat) : Value := .agg (boxL L x y lo hi)
set_option maxRecDepth 100000 in
set_option maxHeartbeats 1000000 in
theorem span_any (X Y Wn Hn : Int) (x : Nat) (m : List Nat) (b o c : Nat) (w : World) (hl : SRow w (some ⟨b, o, none⟩) (x :: m)) (hc : m.length + 1 ≤ c) (hcm : c ≤ 9223372036854775807) (hx : Ht x) (hm : ∀ v ∈ m, Ht v) :
    Calls Try.prog 19 #[fldV X Y Wn Hn (some ⟨b, o, none⟩) (m.length + 1) c] w fun e w' => e = .returned (.tuple #[.float .f32 (loS x m), .float .f32 (hiS x m)]) ∧ Below w.heap.size w w' := by
  have HL := Lib.hid hl
  have K := Lib.hid (fun w hl => extremes_any x m b o c w hl hc hcm hx hm)
  clear hl hm
  go_enter Try.func19, Try.ntmps19
  go_upto_region 1 with fail
  have b0 : Below w.heap.size w (w.alloc (.cells #[.int .i64 X, .int .i64 Y, .int .i64 Wn, .int .i64 Hn, .slice (some ⟨b, o, none⟩) (m.length + 1) c] 26)) := (by repeat (first | with_reducible exact Below.refl _ _ | with_reducible apply Below.drew | with_reducible refine below_drewN ?_ _ | (with_reducible refine Below.setCell ?_ ?_ _; rotate_left; focus (first | omega | (simp <;> omega))) | (with_reducible refine Below.alloc ?_ ?_ _; rotate_left; focus (first | omega | (simp <;> omega)))))
  have F0 := Fld.new w X Y Wn Hn (.slice (some ⟨b, o, none⟩) (m.length + 1) c)
  generalize w.alloc (.cells #[.int .i64 X, .int .i64 Y, .int .i64 Wn, .int .i64 Hn, .slice (some ⟨b, o, none⟩) (m.length + 1) c] 26) = W0 at *
  obtain ⟨d0, d1, d2, d3, d4⟩ := F0.cells
  have l0 := F0.lt
  have KK := Lib.hid (K.out W0 (HL.out.below b0))
  have HB0 := Lib.hid b0
  clear F0 b0 K HL
  go_wp2_with fail
  refine KK.out.mono ?_
  rintro e w1 ⟨rfl, b1⟩
  have HB1 := Lib.hid (HB0.out.trans (b1.mono HB0.out.size))
  clear b1 KK HB0
  go_wp2_with fail
  have hB := HB1.out
  exact bodyPost_ret (v := .tuple #[.float .f32 (loS x m), .float .f32 (hiS x m)]) (by simp [results, Try.results19, go_sem, *]) rfl ⟨rfl, (by have hszz := hB.size; repeat (first | with_reducible exact hB | with_reducible apply Below.drew | with_reducible refine below_drewN ?_ _ | (with_reducible refine Below.setCell ?_ ?_ _; rotate_left; focus (first | omega | (simp <;> omega))) | (with_reducible refine Below.alloc ?_ ?_ _; rotate_left; focus (first | omega | (simp <;> omega)))))⟩

theorem min_nat (a b : Nat) : ∀ w' : World, (Builtin.min_ #[3, 3] 3 #[.int .i64 (a : Int), .int .i64 (b : Int)]).run Try.prog w' = .ok (.int .i64 ((min a b : Nat) : Int)) w' := by
  intro w'
  have e : ((min a b : Nat) : Int) = if (b : Int) < a then (b : Int) else a := by split <;> omega
  rw [e]; rfl
set_option maxRecDepth 100000 in
set_option maxHeartbeats 1000000 in
theorem cells_any (X Y : Int) (Wn Hn L x y lo hi : Nat) (w : World) (hL : L ≤ 20) (hx : x * 2 ^ L < Wn) (hy : y * 2 ^ L < Hn) (hW : Wn ≤ 512) (hH : Hn ≤ 512) :
    Calls Try.prog 18 #[reg X Y Wn Hn, boxV L x y lo hi] w fun e w' => e = .returned (reg ((x * 2 ^ L : Nat) : Int) ((y * 2 ^ L : Nat) : Int) ((min (2 ^ L) (Wn - x * 2 ^ L) : Nat) : Int) ((min (2 ^ L) (Hn - y * 2 ^ L) : Nat) : Int)) ∧ Below w.heap.size w w' := by
  have p1 : 0 < 2 ^ L := Nat.pow_pos (by omega)
  have p2 : 2 ^ L ≤ 2 ^ 20 := Nat.pow_le_pow_right (by omega) hL
  have ex : (x : Int) * 2 ^ L = ((x * 2 ^ L : Nat) : Int) := by rw [Int.natCast_mul, Int.natCast_pow]; rfl
  have ey : (y : Int) * 2 ^ L = ((y * 2 ^ L : Nat) : Int) := by rw [Int.natCast_mul, Int.natCast_pow]; rfl
  have ep : (2 : Int) ^ L = ((2 ^ L : Nat) : Int) := by rw [Int.natCast_pow]; rfl
  generalize hxx : x * 2 ^ L = sx at *
  generalize hyy : y * 2 ^ L = sy at *
  have e1 : IntKind.i64.wrap ((x : Int) * 2 ^ L) = (sx : Int) := by rw [ex, IntWalk.i64_in _ (by omega)]
  have e2 : IntKind.i64.wrap ((y : Int) * 2 ^ L) = (sy : Int) := by rw [ey, IntWalk.i64_in _ (by omega)]
  have e3 : IntKind.i64.wrap ((2 : Int) ^ L) = ((2 ^ L : Nat) : Int) := by rw [ep, IntWalk.i64_in _ (by omega)]
  have e4 : IntKind.i64.wrap ((Wn : Int) - (sx : Int)) = ((Wn - sx : Nat) : Int) := by rw [IntWalk.i64_in _ (by omega)]; omega
  have e5 : IntKind.i64.wrap ((Hn : Int) - (sy : Int)) = ((Hn - sy : Nat) : Int) := by rw [IntWalk.i64_in _ (by omega)]; omega
  have e6 : IntKind.i64.wrap (1 * (2 : Int) ^ L) = ((2 ^ L : Nat) : Int) := by rw [Int.one_mul, e3]
  have m1 := min_nat (2 ^ L) (Wn - sx)
  have m2 := min_nat (2 ^ L) (Hn - sy)
  clear ex ey hxx hyy ep p1 p2
  generalize 2 ^ L = p at *
  generalize min p (Wn - sx) = qx at *
  generalize min p (Hn - sy) = qy at *
  go_enter Try.func18, Try.ntmps18
  go_upto_region 1 with fail
  generalize hW0 : ((w.alloc (.cells #[.int .i64 X, .int .i64 Y, .int .i64 (Wn : Int), .int .i64 (Hn : Int)] 23)).alloc (.cells (boxL L x y lo hi) 53)).alloc (.cells #[.int .i64 0, .int .i64 0, .int .i64 0, .int .i64 0] 23) = W0 at *
  have b0 : Below w.heap.size w W0 := by rw [← hW0]; exact (by repeat (first | with_reducible exact Below.refl _ _ | with_reducible apply Below.drew | with_reducible refine below_drewN ?_ _ | (with_reducible refine Below.setCell ?_ ?_ _; rotate_left; focus (first | omega | (simp <;> omega))) | (with_reducible refine Below.alloc ?_ ?_ _; rotate_left; focus (first | omega | (simp <;> omega)))))
  have R0 : Reg W0 w.heap.size X Y Wn Hn := by rw [← hW0]; exact ((Reg.new w X Y Wn Hn).alloc _).alloc _
  have B0 : Blk W0 (w.heap.size + 1) (boxL L x y lo hi) 53 := by
    rw [← hW0]
    have := (Blk.new (w.alloc (.cells #[.int .i64 X, .int .i64 Y, .int .i64 (Wn : Int), .int .i64 (Hn : Int)] 23)) (boxL L x y lo hi) 53).alloc (.cells #[.int .i64 0, .int .i64 0, .int .i64 0, .int .i64 0] 23)
    simpa using this
  have Z0 : Reg W0 (w.heap.size + 1 + 1) 0 0 0 0 := by
    rw [← hW0]
    have := Reg.new ((w.alloc (.cells #[.int .i64 X, .int .i64 Y, .int .i64 (Wn : Int), .int .i64 (Hn : Int)] 23)).alloc (.cells (boxL L x y lo hi) 53)) 0 0 0 0
    simpa using this
  clear hW0
  obtain ⟨r0, r1, r2, r3⟩ := R0.cells
  obtain ⟨z0, z1, z2, z3⟩ := Z0.cells
  have s0 : W0.cell? ⟨w.heap.size + 1, 0, none⟩ = some (.int .i64 (L : Int)) := B0.cell 0
  have s1 : W0.cell? ⟨w.heap.size + 1, 1, none⟩ = some (.int .i64 (x : Int)) := B0.cell 1
  have s2 : W0.cell? ⟨w.heap.size + 1, 2, none⟩ = some (.int .i64 (y : Int)) := B0.cell 2
  have lz := Z0.lt
  have qf0 := frozen_of_row W0 (w.heap.size + 1 + 1) 0 _ _ Z0
  have qf1 := frozen_of_row W0 (w.heap.size + 1 + 1) 1 _ _ Z0
  have qf2 := frozen_of_row W0 (w.heap.size + 1 + 1) 2 _ _ Z0
  have qf3 := frozen_of_row W0 (w.heap.size + 1 + 1) 3 _ _ Z0
  have HB0 := Lib.hid b0
  clear R0 B0 Z0 b0
  go_quiet (fail)
  go_wp2_with fail
  go_region
  all_goals
    have hB := HB0.out
    go_wp2_with fail
    exact bodyPost_ret (v := reg (sx : Int) (sy : Int) (qx : Int) (qy : Int)) (by simp [results, Try.results18, go_sem, *]) rfl ⟨rfl, (by have hszz := hB.size; repeat (first | with_reducible exact hB | with_reducible apply Below.drew | with_reducible refine below_drewN ?_ _ | (with_reducible refine Below.setCell ?_ ?_ _; rotate_left; focus (first | omega | (simp <;> omega))) | (with_reducible refine Below.alloc ?_ ?_ _; rotate_left; focus (first | omega | (simp <;> omega)))))⟩
end Go.Proofs.Ytiiogjjjgoeghaa
