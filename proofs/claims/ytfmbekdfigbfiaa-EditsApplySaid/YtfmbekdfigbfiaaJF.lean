import Derived.Test.YtfmbekdfigbfiaaJE
import Derived.BigQuiet
import Derived.Deep.QuietTactic
import Derived.Deep.DeepCutAuto
import Derived.Deep.AppendLies
import Derived.OwnWalk
namespace Go.Proofs.Ytfmbekdfigbfiaa
open Go.ChangeShapes Go.WideShapes Go.ChangeAt Go.RowKit
open Ieee.Format (fin finE htE allFin allHt all_true all_false mulF subF addF Ht Bd divF rootF floorF easeF mixF)
set_option linter.unusedVariables false

/-! ### what is wrong with an edit -/
def formE (e : Ed) : Int := if ((e.kd = 1 ∨ e.kd = 3) ∧ e.t ≠ 0) ∨ (e.kd ≠ 1 ∧ e.h ≠ 0) then 2 else 0
def edE (e : Ed) : Int := if e.kd < 1 then 1 else if 4 < e.kd then 1 else if brushE e.bk e.X e.Y e.R e.h ≠ 0 then brushE e.bk e.X e.Y e.R e.h else if htE [e.t] ≠ 0 then htE [e.t] else formE e
theorem edE_ok {e : Ed} (h : edE e = 0) : e.ok := by
  unfold edE at h
  by_cases h1 : e.kd < 1
  · rw [if_pos h1] at h; omega
  rw [if_neg h1] at h
  by_cases h2 : 4 < e.kd
  · rw [if_pos h2] at h; omega
  rw [if_neg h2] at h
  by_cases h3 : brushE e.bk e.X e.Y e.R e.h = 0
  · rw [if_neg (by omega)] at h
    by_cases h4 : htE [e.t] = 0
    · exact ⟨by omega, by omega, h3, htE_one h4⟩
    · rw [if_pos h4] at h; omega
  · rw [if_pos h3] at h; omega
set_option maxRecDepth 100000 in
theorem zero_any (v : Nat) (w : World) : Calls Try.prog 193 #[.float .f32 v] w fun e w' => e = .returned (.bool (decide (v = 0))) ∧ w = w' := by
  have kb := fun w => run_f32bits v w
  by_cases h : v = 0
  · subst h
    rw [decide_eq_true rfl]
    go_enter Try.func193, Try.ntmps193
    go_wp2
    go_ret
    exact ⟨rfl, rfl⟩
  · rw [decide_eq_false h]
    have hb : ((v : Int) == 0) = false := by simpa using h
    have hb2 : ¬ (v : Int) = 0 := by omega
    clear h
    go_enter Try.func193, Try.ntmps193
    go_wp2
    go_ret
    exact ⟨rfl, rfl⟩
set_option maxRecDepth 100000 in
set_option maxHeartbeats 2000000 in
theorem check_edit (e : Ed) (w : World) (hh : e.h < 4294967296) (ht : e.t < 4294967296) :
    Calls Try.prog 152 #[edA e] w fun en w' => en = .returned (.int .i64 (edE e)) ∧ Below w.heap.size w w' := by
  have KB := Lib.hid (fun w => check_brush e.bk e.X e.Y e.R e.h w hh)
  have KT := Lib.hid (fun W g h => heights_one W g e.t ht h)
  have Z1 := Lib.hid (fun w => zero_any e.t w)
  have Z2 := Lib.hid (fun w => zero_any e.h w)
  unfold edE formE
  obtain ⟨kd, bk, BX, BY, R, h, t⟩ := e
  unfold edA
  unfold edC
  simp only at *
  by_cases h1 : kd < 1
  · rw [if_pos h1]
    go_enter Try.func152, Try.ntmps152
    go_wp2_with fail
    go_ret
    exact ⟨rfl, (by repeat (first | with_reducible exact Below.refl _ _ | with_reducible apply Below.drew | with_reducible refine below_drewN ?_ _ | (with_reducible refine Below.setCell ?_ ?_ _; rotate_left; focus (first | omega | (simp <;> omega))) | (with_reducible refine Below.alloc ?_ ?_ _; rotate_left; focus (first | omega | (simp <;> omega)))))⟩
  rw [if_neg h1]
  by_cases h2 : 4 < kd
  · rw [if_pos h2]
    go_enter Try.func152, Try.ntmps152
    go_wp2_with fail
    go_ret
    exact ⟨rfl, (by repeat (first | with_reducible exact Below.refl _ _ | with_reducible apply Below.drew | with_reducible refine below_drewN ?_ _ | (with_reducible refine Below.setCell ?_ ?_ _; rotate_left; focus (first | omega | (simp <;> omega))) | (with_reducible refine Below.alloc ?_ ?_ _; rotate_left; focus (first | omega | (simp <;> omega)))))⟩
  rw [if_neg h2]
  generalize brushE bk BX BY R h = eb at *
  generalize htE [t] = et at *
  obtain ⟨W0, hW0⟩ : ∃ W0, W0 = w.alloc (.cells #[.int .i64 kd, .int .i64 bk, .int .i64 BX, .int .i64 BY, .int .i64 R, .float .f32 h, .float .f32 t] 68) := ⟨_, rfl⟩
  have BA : Below w.heap.size w W0 := by subst hW0; exact (by repeat (first | with_reducible exact Below.refl _ _ | with_reducible apply Below.drew | with_reducible refine below_drewN ?_ _ | (with_reducible refine Below.setCell ?_ ?_ _; rotate_left; focus (first | omega | (simp <;> omega))) | (with_reducible refine Below.alloc ?_ ?_ _; rotate_left; focus (first | omega | (simp <;> omega)))))
  have P0 : Blk W0 w.heap.size #[.int .i64 kd, .int .i64 bk, .int .i64 BX, .int .i64 BY, .int .i64 R, .float .f32 h, .float .f32 t] 68 := by subst hW0; exact Blk.new _ _ _
  by_cases h3 : eb = 0
  · rw [if_neg (by omega)]
    subst h3
    by_cases h4 : et = 0
    · rw [if_neg (by omega)]
      subst h4
      by_cases k1 : kd = 1
      · subst k1
        clear h1 h2
        by_cases a1 : t = 0
        · rw [decide_eq_true a1] at Z1
          rw [if_neg (by omega)]
          try clear a2
          try clear a1
          go_enter Try.func152, Try.ntmps152
          go_wp2_with fail
          rw [← hW0]
          refine (KB.out _).mono ?_
          rintro en w1 ⟨rfl, b1⟩
          have HP1 := Lib.hid (P0.below b1 P0.lt)
          have HB1 := Lib.hid (BA.trans (b1.mono BA.size))
          clear b1 BA P0 hW0
          have p0 := HP1.out.cell 0
          have p1 := HP1.out.cell 1
          have p2 := HP1.out.cell 2
          have p3 := HP1.out.cell 3
          have p4 := HP1.out.cell 4
          have p5 := HP1.out.cell 5
          have p6 := HP1.out.cell 6
          simp only [List.getElem?_toArray, List.getElem?_cons_zero, List.getElem?_cons_succ] at p0 p1 p2 p3 p4 p5 p6
          have lpe := HP1.out.lt
          go_wp2_with fail
          refine (KT.out _ _ (by simp [go_sem])).mono ?_
          rintro en w2 ⟨rfl, rfl⟩
          go_wp2_with (first | (go_at_call 193; with_reducible refine (Z1.out _).mono ?_; rintro e2 w2 ⟨rfl, rfl⟩) | (go_at_call 193; with_reducible refine (Z2.out _).mono ?_; rintro e2 w2 ⟨rfl, rfl⟩))
          go_ret
          have B1 := HB1.out
          exact ⟨rfl, (by have hszz := B1.size; repeat (first | with_reducible exact B1 | with_reducible apply Below.drew | with_reducible refine below_drewN ?_ _ | (with_reducible refine Below.setCell ?_ ?_ _; rotate_left; focus (first | omega | (simp <;> omega))) | (with_reducible refine Below.alloc ?_ ?_ _; rotate_left; focus (first | omega | (simp <;> omega)))))⟩
        · rw [decide_eq_false a1] at Z1
          rw [if_pos (by omega)]
          try clear a2
          try clear a1
          go_enter Try.func152, Try.ntmps152
          go_wp2_with fail
          rw [← hW0]
          refine (KB.out _).mono ?_
          rintro en w1 ⟨rfl, b1⟩
          have HP1 := Lib.hid (P0.below b1 P0.lt)
          have HB1 := Lib.hid (BA.trans (b1.mono BA.size))
          clear b1 BA P0 hW0
          have p0 := HP1.out.cell 0
          have p1 := HP1.out.cell 1
          have p2 := HP1.out.cell 2
          have p3 := HP1.out.cell 3
          have p4 := HP1.out.cell 4
          have p5 := HP1.out.cell 5
          have p6 := HP1.out.cell 6
          simp only [List.getElem?_toArray, List.getElem?_cons_zero, List.getElem?_cons_succ] at p0 p1 p2 p3 p4 p5 p6
          have lpe := HP1.out.lt
          go_wp2_with fail
          refine (KT.out _ _ (by simp [go_sem])).mono ?_
          rintro en w2 ⟨rfl, rfl⟩
          go_wp2_with (first | (go_at_call 193; with_reducible refine (Z1.out _).mono ?_; rintro e2 w2 ⟨rfl, rfl⟩) | (go_at_call 193; with_reducible refine (Z2.out _).mono ?_; rintro e2 w2 ⟨rfl, rfl⟩))
          go_ret
          have B1 := HB1.out
          exact ⟨rfl, (by have hszz := B1.size; repeat (first | with_reducible exact B1 | with_reducible apply Below.drew | with_reducible refine below_drewN ?_ _ | (with_reducible refine Below.setCell ?_ ?_ _; rotate_left; focus (first | omega | (simp <;> omega))) | (with_reducible refine Below.alloc ?_ ?_ _; rotate_left; focus (first | omega | (simp <;> omega)))))⟩
      · have k1' : (kd == 1) = false := by simpa using k1
        have k1'' : (kd != 1) = true := by rw [bne_iff_ne]; exact k1
        by_cases k3 : kd = 3
        · subst k3
          clear h1 h2 k1
          by_cases a1 : t = 0
          · rw [decide_eq_true a1] at Z1
            by_cases a2 : h = 0
            · rw [decide_eq_true a2] at Z2
              rw [if_neg (by omega)]
              try clear a2
              try clear a1
              go_enter Try.func152, Try.ntmps152
              go_wp2_with fail
              rw [← hW0]
              refine (KB.out _).mono ?_
              rintro en w1 ⟨rfl, b1⟩
              have HP1 := Lib.hid (P0.below b1 P0.lt)
              have HB1 := Lib.hid (BA.trans (b1.mono BA.size))
              clear b1 BA P0 hW0
              have p0 := HP1.out.cell 0
              have p1 := HP1.out.cell 1
              have p2 := HP1.out.cell 2
              have p3 := HP1.out.cell 3
              have p4 := HP1.out.cell 4
              have p5 := HP1.out.cell 5
              have p6 := HP1.out.cell 6
              simp only [List.getElem?_toArray, List.getElem?_cons_zero, List.getElem?_cons_succ] at p0 p1 p2 p3 p4 p5 p6
              have lpe := HP1.out.lt
              go_wp2_with fail
              refine (KT.out _ _ (by simp [go_sem])).mono ?_
              rintro en w2 ⟨rfl, rfl⟩
              go_wp2_with (first | (go_at_call 193; with_reducible refine (Z1.out _).mono ?_; rintro e2 w2 ⟨rfl, rfl⟩) | (go_at_call 193; with_reducible refine (Z2.out _).mono ?_; rintro e2 w2 ⟨rfl, rfl⟩))
              go_ret
              have B1 := HB1.out
              exact ⟨rfl, (by have hszz := B1.size; repeat (first | with_reducible exact B1 | with_reducible apply Below.drew | with_reducible refine below_drewN ?_ _ | (with_reducible refine Below.setCell ?_ ?_ _; rotate_left; focus (first | omega | (simp <;> omega))) | (with_reducible refine Below.alloc ?_ ?_ _; rotate_left; focus (first | omega | (simp <;> omega)))))⟩
            · rw [decide_eq_false a2] at Z2
              rw [if_pos (by omega)]
              try clear a2
              try clear a1
              go_enter Try.func152, Try.ntmps152
              go_wp2_with fail
              rw [← hW0]
              refine (KB.out _).mono ?_
              rintro en w1 ⟨rfl, b1⟩
              have HP1 := Lib.hid (P0.below b1 P0.lt)
              have HB1 := Lib.hid (BA.trans (b1.mono BA.size))
              clear b1 BA P0 hW0
              have p0 := HP1.out.cell 0
              have p1 := HP1.out.cell 1
              have p2 := HP1.out.cell 2
              have p3 := HP1.out.cell 3
              have p4 := HP1.out.cell 4
              have p5 := HP1.out.cell 5
              have p6 := HP1.out.cell 6
              simp only [List.getElem?_toArray, List.getElem?_cons_zero, List.getElem?_cons_succ] at p0 p1 p2 p3 p4 p5 p6
              have lpe := HP1.out.lt
              go_wp2_with fail
              refine (KT.out _ _ (by simp [go_sem])).mono ?_
              rintro en w2 ⟨rfl, rfl⟩
              go_wp2_with (first | (go_at_call 193; with_reducible refine (Z1.out _).mono ?_; rintro e2 w2 ⟨rfl, rfl⟩) | (go_at_call 193; with_reducible refine (Z2.out _).mono ?_; rintro e2 w2 ⟨rfl, rfl⟩))
              go_ret
              have B1 := HB1.out
              exact ⟨rfl, (by have hszz := B1.size; repeat (first | with_reducible exact B1 | with_reducible apply Below.drew | with_reducible refine below_drewN ?_ _ | (with_reducible refine Below.setCell ?_ ?_ _; rotate_left; focus (first | omega | (simp <;> omega))) | (with_reducible refine Below.alloc ?_ ?_ _; rotate_left; focus (first | omega | (simp <;> omega)))))⟩
          · rw [decide_eq_false a1] at Z1
            rw [if_pos (by omega)]
            try clear a2
            try clear a1
            go_enter Try.func152, Try.ntmps152
            go_wp2_with fail
            rw [← hW0]
            refine (KB.out _).mono ?_
            rintro en w1 ⟨rfl, b1⟩
            have HP1 := Lib.hid (P0.below b1 P0.lt)
            have HB1 := Lib.hid (BA.trans (b1.mono BA.size))
            clear b1 BA P0 hW0
            have p0 := HP1.out.cell 0
            have p1 := HP1.out.cell 1
            have p2 := HP1.out.cell 2
            have p3 := HP1.out.cell 3
            have p4 := HP1.out.cell 4
            have p5 := HP1.out.cell 5
            have p6 := HP1.out.cell 6
            simp only [List.getElem?_toArray, List.getElem?_cons_zero, List.getElem?_cons_succ] at p0 p1 p2 p3 p4 p5 p6
            have lpe := HP1.out.lt
            go_wp2_with fail
            refine (KT.out _ _ (by simp [go_sem])).mono ?_
            rintro en w2 ⟨rfl, rfl⟩
            go_wp2_with (first | (go_at_call 193; with_reducible refine (Z1.out _).mono ?_; rintro e2 w2 ⟨rfl, rfl⟩) | (go_at_call 193; with_reducible refine (Z2.out _).mono ?_; rintro e2 w2 ⟨rfl, rfl⟩))
            go_ret
            have B1 := HB1.out
            exact ⟨rfl, (by have hszz := B1.size; repeat (first | with_reducible exact B1 | with_reducible apply Below.drew | with_reducible refine below_drewN ?_ _ | (with_reducible refine Below.setCell ?_ ?_ _; rotate_left; focus (first | omega | (simp <;> omega))) | (with_reducible refine Below.alloc ?_ ?_ _; rotate_left; focus (first | omega | (simp <;> omega)))))⟩
        · have k3' : (kd == 3) = false := by simpa using k3
          by_cases a2 : h = 0
          · rw [decide_eq_true a2] at Z2
            rw [if_neg (by omega)]
            try clear a2
            try clear a1
            go_enter Try.func152, Try.ntmps152
            go_wp2_with fail
            rw [← hW0]
            refine (KB.out _).mono ?_
            rintro en w1 ⟨rfl, b1⟩
            have HP1 := Lib.hid (P0.below b1 P0.lt)
            have HB1 := Lib.hid (BA.trans (b1.mono BA.size))
            clear b1 BA P0 hW0
            have p0 := HP1.out.cell 0
            have p1 := HP1.out.cell 1
            have p2 := HP1.out.cell 2
            have p3 := HP1.out.cell 3
            have p4 := HP1.out.cell 4
            have p5 := HP1.out.cell 5
            have p6 := HP1.out.cell 6
            simp only [List.getElem?_toArray, List.getElem?_cons_zero, List.getElem?_cons_succ] at p0 p1 p2 p3 p4 p5 p6
            have lpe := HP1.out.lt
            go_wp2_with fail
            refine (KT.out _ _ (by simp [go_sem])).mono ?_
            rintro en w2 ⟨rfl, rfl⟩
            go_wp2_with (first | (go_at_call 193; with_reducible refine (Z1.out _).mono ?_; rintro e2 w2 ⟨rfl, rfl⟩) | (go_at_call 193; with_reducible refine (Z2.out _).mono ?_; rintro e2 w2 ⟨rfl, rfl⟩))
            go_ret
            have B1 := HB1.out
            exact ⟨rfl, (by have hszz := B1.size; repeat (first | with_reducible exact B1 | with_reducible apply Below.drew | with_reducible refine below_drewN ?_ _ | (with_reducible refine Below.setCell ?_ ?_ _; rotate_left; focus (first | omega | (simp <;> omega))) | (with_reducible refine Below.alloc ?_ ?_ _; rotate_left; focus (first | omega | (simp <;> omega)))))⟩
          · rw [decide_eq_false a2] at Z2
            rw [if_pos (by omega)]
            try clear a2
            try clear a1
            go_enter Try.func152, Try.ntmps152
            go_wp2_with fail
            rw [← hW0]
            refine (KB.out _).mono ?_
            rintro en w1 ⟨rfl, b1⟩
            have HP1 := Lib.hid (P0.below b1 P0.lt)
            have HB1 := Lib.hid (BA.trans (b1.mono BA.size))
            clear b1 BA P0 hW0
            have p0 := HP1.out.cell 0
            have p1 := HP1.out.cell 1
            have p2 := HP1.out.cell 2
            have p3 := HP1.out.cell 3
            have p4 := HP1.out.cell 4
            have p5 := HP1.out.cell 5
            have p6 := HP1.out.cell 6
            simp only [List.getElem?_toArray, List.getElem?_cons_zero, List.getElem?_cons_succ] at p0 p1 p2 p3 p4 p5 p6
            have lpe := HP1.out.lt
            go_wp2_with fail
            refine (KT.out _ _ (by simp [go_sem])).mono ?_
            rintro en w2 ⟨rfl, rfl⟩
            go_wp2_with (first | (go_at_call 193; with_reducible refine (Z1.out _).mono ?_; rintro e2 w2 ⟨rfl, rfl⟩) | (go_at_call 193; with_reducible refine (Z2.out _).mono ?_; rintro e2 w2 ⟨rfl, rfl⟩))
            go_ret
            have B1 := HB1.out
            exact ⟨rfl, (by have hszz := B1.size; repeat (first | with_reducible exact B1 | with_reducible apply Below.drew | with_reducible refine below_drewN ?_ _ | (with_reducible refine Below.setCell ?_ ?_ _; rotate_left; focus (first | omega | (simp <;> omega))) | (with_reducible refine Below.alloc ?_ ?_ _; rotate_left; focus (first | omega | (simp <;> omega)))))⟩
    · rw [if_pos h4]
      have hb : (et != 0) = true := by rw [bne_iff_ne]; exact h4
      clear h4
      go_enter Try.func152, Try.ntmps152
      go_wp2_with fail
      rw [← hW0]
      refine (KB.out _).mono ?_
      rintro en w1 ⟨rfl, b1⟩
      have HP1 := Lib.hid (P0.below b1 P0.lt)
      have HB1 := Lib.hid (BA.trans (b1.mono BA.size))
      clear b1 BA P0 hW0
      have p0 := HP1.out.cell 0
      have p1 := HP1.out.cell 1
      have p2 := HP1.out.cell 2
      have p3 := HP1.out.cell 3
      have p4 := HP1.out.cell 4
      have p5 := HP1.out.cell 5
      have p6 := HP1.out.cell 6
      simp only [List.getElem?_toArray, List.getElem?_cons_zero, List.getElem?_cons_succ] at p0 p1 p2 p3 p4 p5 p6
      have lpe := HP1.out.lt
      go_wp2_with fail
      refine (KT.out _ _ (by simp [go_sem])).mono ?_
      rintro en w2 ⟨rfl, rfl⟩
      go_wp2_with fail
      go_ret
      have B1 := HB1.out
      exact ⟨rfl, (by have hszz := B1.size; repeat (first | with_reducible exact B1 | with_reducible apply Below.drew | with_reducible refine below_drewN ?_ _ | (with_reducible refine Below.setCell ?_ ?_ _; rotate_left; focus (first | omega | (simp <;> omega))) | (with_reducible refine Below.alloc ?_ ?_ _; rotate_left; focus (first | omega | (simp <;> omega)))))⟩
  · rw [if_pos h3]
    have hb : (eb != 0) = true := by rw [bne_iff_ne]; exact h3
    clear h3
    go_enter Try.func152, Try.ntmps152
    go_wp2_with fail
    rw [← hW0]
    refine (KB.out _).mono ?_
    rintro en w1 ⟨rfl, b1⟩
    have HP1 := Lib.hid (P0.below b1 P0.lt)
    have HB1 := Lib.hid (BA.trans (b1.mono BA.size))
    clear b1 BA P0 hW0
    have p0 := HP1.out.cell 0
    have p1 := HP1.out.cell 1
    have p2 := HP1.out.cell 2
    have p3 := HP1.out.cell 3
    have p4 := HP1.out.cell 4
    have p5 := HP1.out.cell 5
    have p6 := HP1.out.cell 6
    simp only [List.getElem?_toArray, List.getElem?_cons_zero, List.getElem?_cons_succ] at p0 p1 p2 p3 p4 p5 p6
    have lpe := HP1.out.lt
    go_wp2_with fail
    go_ret
    exact ⟨rfl, HB1.out⟩
set_option maxRecDepth 100000 in
set_option maxHeartbeats 2000000 in
theorem refcheck_edit (e : Ed) (w : World) (hh : e.h < 4294967296) (ht : e.t < 4294967296) :
    Calls Try.prog 30 #[edA e] w fun en w' => en = .returned (.int .i64 (edE e)) ∧ Below w.heap.size w w' := by
  have KB := Lib.hid (fun w => refcheck_brush e.bk e.X e.Y e.R e.h w hh)
  have KT := Lib.hid (fun W g h => refheight_one W g e.t ht h)
  have kb := fun b w => run_f32bits b w
  unfold edE formE
  obtain ⟨kd, bk, BX, BY, R, h, t⟩ := e
  unfold edA
  unfold edC
  simp only at *
  by_cases h1 : kd < 1
  · rw [if_pos h1]
    go_enter Try.func30, Try.ntmps30
    go_wp2_with fail
    go_ret
    exact ⟨rfl, (by repeat (first | with_reducible exact Below.refl _ _ | with_reducible apply Below.drew | with_reducible refine below_drewN ?_ _ | (with_reducible refine Below.setCell ?_ ?_ _; rotate_left; focus (first | omega | (simp <;> omega))) | (with_reducible refine Below.alloc ?_ ?_ _; rotate_left; focus (first | omega | (simp <;> omega)))))⟩
  rw [if_neg h1]
  by_cases h2 : 4 < kd
  · rw [if_pos h2]
    go_enter Try.func30, Try.ntmps30
    go_wp2_with fail
    go_ret
    exact ⟨rfl, (by repeat (first | with_reducible exact Below.refl _ _ | with_reducible apply Below.drew | with_reducible refine below_drewN ?_ _ | (with_reducible refine Below.setCell ?_ ?_ _; rotate_left; focus (first | omega | (simp <;> omega))) | (with_reducible refine Below.alloc ?_ ?_ _; rotate_left; focus (first | omega | (simp <;> omega)))))⟩
  rw [if_neg h2]
  generalize brushE bk BX BY R h = eb at *
  generalize htE [t] = et at *
  obtain ⟨W0, hW0⟩ : ∃ W0, W0 = w.alloc (.cells #[.int .i64 kd, .int .i64 bk, .int .i64 BX, .int .i64 BY, .int .i64 R, .float .f32 h, .float .f32 t] 68) := ⟨_, rfl⟩
  have BA : Below w.heap.size w W0 := by subst hW0; exact (by repeat (first | with_reducible exact Below.refl _ _ | with_reducible apply Below.drew | with_reducible refine below_drewN ?_ _ | (with_reducible refine Below.setCell ?_ ?_ _; rotate_left; focus (first | omega | (simp <;> omega))) | (with_reducible refine Below.alloc ?_ ?_ _; rotate_left; focus (first | omega | (simp <;> omega)))))
  have P0 : Blk W0 w.heap.size #[.int .i64 kd, .int .i64 bk, .int .i64 BX, .int .i64 BY, .int .i64 R, .float .f32 h, .float .f32 t] 68 := by subst hW0; exact Blk.new _ _ _
  by_cases h3 : eb = 0
  · rw [if_neg (by omega)]
    subst h3
    by_cases h4 : et = 0
    · rw [if_neg (by omega)]
      subst h4
      have hv : ∀ v : Nat, v ≠ 0 → ((v : Int) != 0) = true ∧ ((v : Int) == 0) = false ∧ ¬ (v : Int) = 0 := fun v q => by
        have q2 : ¬ (v : Int) = 0 := by omega
        exact ⟨by simpa using q2, by simpa using q2, q2⟩
      by_cases k1 : kd = 1
      · subst k1
        clear h1 h2
        by_cases a1 : t = 0
        · rw [if_neg (by omega)]
          subst a1
          clear hv
          try clear a2
          try clear a1
          go_enter Try.func30, Try.ntmps30
          go_wp2_with fail
          rw [← hW0]
          refine (KB.out _).mono ?_
          rintro en w1 ⟨rfl, b1⟩
          have HP1 := Lib.hid (P0.below b1 P0.lt)
          have HB1 := Lib.hid (BA.trans (b1.mono BA.size))
          clear b1 BA P0 hW0
          have p0 := HP1.out.cell 0
          have p1 := HP1.out.cell 1
          have p2 := HP1.out.cell 2
          have p3 := HP1.out.cell 3
          have p4 := HP1.out.cell 4
          have p5 := HP1.out.cell 5
          have p6 := HP1.out.cell 6
          simp only [List.getElem?_toArray, List.getElem?_cons_zero, List.getElem?_cons_succ] at p0 p1 p2 p3 p4 p5 p6
          have lpe := HP1.out.lt
          go_wp2_with fail
          refine (KT.out _ _ (by simp [go_sem])).mono ?_
          rintro en w2 ⟨rfl, rfl⟩
          go_wp2_with fail
          go_ret
          have B1 := HB1.out
          exact ⟨rfl, (by have hszz := B1.size; repeat (first | with_reducible exact B1 | with_reducible apply Below.drew | with_reducible refine below_drewN ?_ _ | (with_reducible refine Below.setCell ?_ ?_ _; rotate_left; focus (first | omega | (simp <;> omega))) | (with_reducible refine Below.alloc ?_ ?_ _; rotate_left; focus (first | omega | (simp <;> omega)))))⟩
        · rw [if_pos (by omega)]
          obtain ⟨u1, u2, u3⟩ := hv t a1
          clear hv
          try clear a2
          try clear a1
          go_enter Try.func30, Try.ntmps30
          go_wp2_with fail
          rw [← hW0]
          refine (KB.out _).mono ?_
          rintro en w1 ⟨rfl, b1⟩
          have HP1 := Lib.hid (P0.below b1 P0.lt)
          have HB1 := Lib.hid (BA.trans (b1.mono BA.size))
          clear b1 BA P0 hW0
          have p0 := HP1.out.cell 0
          have p1 := HP1.out.cell 1
          have p2 := HP1.out.cell 2
          have p3 := HP1.out.cell 3
          have p4 := HP1.out.cell 4
          have p5 := HP1.out.cell 5
          have p6 := HP1.out.cell 6
          simp only [List.getElem?_toArray, List.getElem?_cons_zero, List.getElem?_cons_succ] at p0 p1 p2 p3 p4 p5 p6
          have lpe := HP1.out.lt
          go_wp2_with fail
          refine (KT.out _ _ (by simp [go_sem])).mono ?_
          rintro en w2 ⟨rfl, rfl⟩
          go_wp2_with fail
          go_ret
          have B1 := HB1.out
          exact ⟨rfl, (by have hszz := B1.size; repeat (first | with_reducible exact B1 | with_reducible apply Below.drew | with_reducible refine below_drewN ?_ _ | (with_reducible refine Below.setCell ?_ ?_ _; rotate_left; focus (first | omega | (simp <;> omega))) | (with_reducible refine Below.alloc ?_ ?_ _; rotate_left; focus (first | omega | (simp <;> omega)))))⟩
      · by_cases k3 : kd = 3
        · subst k3
          clear h1 h2 k1
          by_cases a1 : t = 0
          · by_cases a2 : h = 0
            · rw [if_neg (by omega)]
              subst a1 a2
              clear hv
              try clear a2
              try clear a1
              go_enter Try.func30, Try.ntmps30
              go_wp2_with fail
              rw [← hW0]
              refine (KB.out _).mono ?_
              rintro en w1 ⟨rfl, b1⟩
              have HP1 := Lib.hid (P0.below b1 P0.lt)
              have HB1 := Lib.hid (BA.trans (b1.mono BA.size))
              clear b1 BA P0 hW0
              have p0 := HP1.out.cell 0
              have p1 := HP1.out.cell 1
              have p2 := HP1.out.cell 2
              have p3 := HP1.out.cell 3
              have p4 := HP1.out.cell 4
              have p5 := HP1.out.cell 5
              have p6 := HP1.out.cell 6
              simp only [List.getElem?_toArray, List.getElem?_cons_zero, List.getElem?_cons_succ] at p0 p1 p2 p3 p4 p5 p6
              have lpe := HP1.out.lt
              go_wp2_with fail
              refine (KT.out _ _ (by simp [go_sem])).mono ?_
              rintro en w2 ⟨rfl, rfl⟩
              go_wp2_with fail
              go_ret
              have B1 := HB1.out
              exact ⟨rfl, (by have hszz := B1.size; repeat (first | with_reducible exact B1 | with_reducible apply Below.drew | with_reducible refine below_drewN ?_ _ | (with_reducible refine Below.setCell ?_ ?_ _; rotate_left; focus (first | omega | (simp <;> omega))) | (with_reducible refine Below.alloc ?_ ?_ _; rotate_left; focus (first | omega | (simp <;> omega)))))⟩
            · rw [if_pos (by omega)]
              obtain ⟨u1, u2, u3⟩ := hv h a2
              subst a1
              clear hv
              try clear a2
              try clear a1
              go_enter Try.func30, Try.ntmps30
              go_wp2_with fail
              rw [← hW0]
              refine (KB.out _).mono ?_
              rintro en w1 ⟨rfl, b1⟩
              have HP1 := Lib.hid (P0.below b1 P0.lt)
              have HB1 := Lib.hid (BA.trans (b1.mono BA.size))
              clear b1 BA P0 hW0
              have p0 := HP1.out.cell 0
              have p1 := HP1.out.cell 1
              have p2 := HP1.out.cell 2
              have p3 := HP1.out.cell 3
              have p4 := HP1.out.cell 4
              have p5 := HP1.out.cell 5
              have p6 := HP1.out.cell 6
              simp only [List.getElem?_toArray, List.getElem?_cons_zero, List.getElem?_cons_succ] at p0 p1 p2 p3 p4 p5 p6
              have lpe := HP1.out.lt
              go_wp2_with fail
              refine (KT.out _ _ (by simp [go_sem])).mono ?_
              rintro en w2 ⟨rfl, rfl⟩
              go_wp2_with fail
              go_ret
              have B1 := HB1.out
              exact ⟨rfl, (by have hszz := B1.size; repeat (first | with_reducible exact B1 | with_reducible apply Below.drew | with_reducible refine below_drewN ?_ _ | (with_reducible refine Below.setCell ?_ ?_ _; rotate_left; focus (first | omega | (simp <;> omega))) | (with_reducible refine Below.alloc ?_ ?_ _; rotate_left; focus (first | omega | (simp <;> omega)))))⟩
          · rw [if_pos (by omega)]
            obtain ⟨u1, u2, u3⟩ := hv t a1
            clear hv
            try clear a2
            try clear a1
            go_enter Try.func30, Try.ntmps30
            go_wp2_with fail
            rw [← hW0]
            refine (KB.out _).mono ?_
            rintro en w1 ⟨rfl, b1⟩
            have HP1 := Lib.hid (P0.below b1 P0.lt)
            have HB1 := Lib.hid (BA.trans (b1.mono BA.size))
            clear b1 BA P0 hW0
            have p0 := HP1.out.cell 0
            have p1 := HP1.out.cell 1
            have p2 := HP1.out.cell 2
            have p3 := HP1.out.cell 3
            have p4 := HP1.out.cell 4
            have p5 := HP1.out.cell 5
            have p6 := HP1.out.cell 6
            simp only [List.getElem?_toArray, List.getElem?_cons_zero, List.getElem?_cons_succ] at p0 p1 p2 p3 p4 p5 p6
            have lpe := HP1.out.lt
            go_wp2_with fail
            refine (KT.out _ _ (by simp [go_sem])).mono ?_
            rintro en w2 ⟨rfl, rfl⟩
            go_wp2_with fail
            go_ret
            have B1 := HB1.out
            exact ⟨rfl, (by have hszz := B1.size; repeat (first | with_reducible exact B1 | with_reducible apply Below.drew | with_reducible refine below_drewN ?_ _ | (with_reducible refine Below.setCell ?_ ?_ _; rotate_left; focus (first | omega | (simp <;> omega))) | (with_reducible refine Below.alloc ?_ ?_ _; rotate_left; focus (first | omega | (simp <;> omega)))))⟩
        · have k24 : kd = 2 ∨ kd = 4 := by omega
          clear h1 h2 k1 k3
          by_cases a2 : h = 0
          · rw [if_neg (by omega)]
            subst a2
            clear hv
            rcases k24 with rfl | rfl
            all_goals
              try clear a2
              try clear a1
              go_enter Try.func30, Try.ntmps30
              go_wp2_with fail
              rw [← hW0]
              refine (KB.out _).mono ?_
              rintro en w1 ⟨rfl, b1⟩
              have HP1 := Lib.hid (P0.below b1 P0.lt)
              have HB1 := Lib.hid (BA.trans (b1.mono BA.size))
              clear b1 BA P0 hW0
              have p0 := HP1.out.cell 0
              have p1 := HP1.out.cell 1
              have p2 := HP1.out.cell 2
              have p3 := HP1.out.cell 3
              have p4 := HP1.out.cell 4
              have p5 := HP1.out.cell 5
              have p6 := HP1.out.cell 6
              simp only [List.getElem?_toArray, List.getElem?_cons_zero, List.getElem?_cons_succ] at p0 p1 p2 p3 p4 p5 p6
              have lpe := HP1.out.lt
              go_wp2_with fail
              refine (KT.out _ _ (by simp [go_sem])).mono ?_
              rintro en w2 ⟨rfl, rfl⟩
              go_wp2_with fail
              go_ret
              have B1 := HB1.out
              exact ⟨rfl, (by have hszz := B1.size; repeat (first | with_reducible exact B1 | with_reducible apply Below.drew | with_reducible refine below_drewN ?_ _ | (with_reducible refine Below.setCell ?_ ?_ _; rotate_left; focus (first | omega | (simp <;> omega))) | (with_reducible refine Below.alloc ?_ ?_ _; rotate_left; focus (first | omega | (simp <;> omega)))))⟩
          · rw [if_pos (by omega)]
            obtain ⟨u1, u2, u3⟩ := hv h a2
            clear hv
            rcases k24 with rfl | rfl
            all_goals
              try clear a2
              try clear a1
              go_enter Try.func30, Try.ntmps30
              go_wp2_with fail
              rw [← hW0]
              refine (KB.out _).mono ?_
              rintro en w1 ⟨rfl, b1⟩
              have HP1 := Lib.hid (P0.below b1 P0.lt)
              have HB1 := Lib.hid (BA.trans (b1.mono BA.size))
              clear b1 BA P0 hW0
              have p0 := HP1.out.cell 0
              have p1 := HP1.out.cell 1
              have p2 := HP1.out.cell 2
              have p3 := HP1.out.cell 3
              have p4 := HP1.out.cell 4
              have p5 := HP1.out.cell 5
              have p6 := HP1.out.cell 6
              simp only [List.getElem?_toArray, List.getElem?_cons_zero, List.getElem?_cons_succ] at p0 p1 p2 p3 p4 p5 p6
              have lpe := HP1.out.lt
              go_wp2_with fail
              refine (KT.out _ _ (by simp [go_sem])).mono ?_
              rintro en w2 ⟨rfl, rfl⟩
              go_wp2_with fail
              go_ret
              have B1 := HB1.out
              exact ⟨rfl, (by have hszz := B1.size; repeat (first | with_reducible exact B1 | with_reducible apply Below.drew | with_reducible refine below_drewN ?_ _ | (with_reducible refine Below.setCell ?_ ?_ _; rotate_left; focus (first | omega | (simp <;> omega))) | (with_reducible refine Below.alloc ?_ ?_ _; rotate_left; focus (first | omega | (simp <;> omega)))))⟩
    · rw [if_pos h4]
      have hb : (et != 0) = true := by rw [bne_iff_ne]; exact h4
      clear h4
      go_enter Try.func30, Try.ntmps30
      go_wp2_with fail
      rw [← hW0]
      refine (KB.out _).mono ?_
      rintro en w1 ⟨rfl, b1⟩
      have HP1 := Lib.hid (P0.below b1 P0.lt)
      have HB1 := Lib.hid (BA.trans (b1.mono BA.size))
      clear b1 BA P0 hW0
      have p0 := HP1.out.cell 0
      have p1 := HP1.out.cell 1
      have p2 := HP1.out.cell 2
      have p3 := HP1.out.cell 3
      have p4 := HP1.out.cell 4
      have p5 := HP1.out.cell 5
      have p6 := HP1.out.cell 6
      simp only [List.getElem?_toArray, List.getElem?_cons_zero, List.getElem?_cons_succ] at p0 p1 p2 p3 p4 p5 p6
      have lpe := HP1.out.lt
      go_wp2_with fail
      refine (KT.out _ _ (by simp [go_sem])).mono ?_
      rintro en w2 ⟨rfl, rfl⟩
      go_wp2_with fail
      go_ret
      have B1 := HB1.out
      exact ⟨rfl, (by have hszz := B1.size; repeat (first | with_reducible exact B1 | with_reducible apply Below.drew | with_reducible refine below_drewN ?_ _ | (with_reducible refine Below.setCell ?_ ?_ _; rotate_left; focus (first | omega | (simp <;> omega))) | (with_reducible refine Below.alloc ?_ ?_ _; rotate_left; focus (first | omega | (simp <;> omega)))))⟩
  · rw [if_pos h3]
    have hb : (eb != 0) = true := by rw [bne_iff_ne]; exact h3
    clear h3
    go_enter Try.func30, Try.ntmps30
    go_wp2_with fail
    rw [← hW0]
    refine (KB.out _).mono ?_
    rintro en w1 ⟨rfl, b1⟩
    have HP1 := Lib.hid (P0.below b1 P0.lt)
    have HB1 := Lib.hid (BA.trans (b1.mono BA.size))
    clear b1 BA P0 hW0
    have p0 := HP1.out.cell 0
    have p1 := HP1.out.cell 1
    have p2 := HP1.out.cell 2
    have p3 := HP1.out.cell 3
    have p4 := HP1.out.cell 4
    have p5 := HP1.out.cell 5
    have p6 := HP1.out.cell 6
    simp only [List.getElem?_toArray, List.getElem?_cons_zero, List.getElem?_cons_succ] at p0 p1 p2 p3 p4 p5 p6
    have lpe := HP1.out.lt
    go_wp2_with fail
    go_ret
    exact ⟨rfl, HB1.out⟩
end Go.Proofs.Ytfmbekdfigbfiaa

namespace Go.Proofs.Ytfmbekdfigbfiaa
open Go.ChangeShapes Go.WideShapes Go.ChangeAt Go.RowKit
open Ieee.Format (fin finE htE allFin allHt all_true all_false mulF subF addF Ht Bd divF rootF floorF easeF mixF)
set_option linter.unusedVariables false

/-! ### rows of edits -/
def edAt (L : List Ed) (i : Nat) : Ed := L.getD i ⟨0, 0, 0, 0, 0, 0, 0⟩
theorem edAt_eq {L : List Ed} {i : Nat} (h : i < L.length) : edAt L i = L[i] := by unfold edAt; rw [List.getD_eq_getElem?_getD, List.getElem?_eq_getElem h]; rfl
theorem edAt_mem {L : List Ed} {i : Nat} (h : i < L.length) : edAt L i ∈ L := by rw [edAt_eq h]; exact List.getElem_mem h
def EdCells (w : World) (b o : Nat) (L : List Ed) : Prop := ∀ i, i < L.length → ∀ j, j < 7 → w.cell? ⟨b, o + i * 7 + j, none⟩ = (edC (edAt L i))[j]?
def EdRow (w : World) (a : Option Addr) (L : List Ed) : Prop := (L.length ≤ 9223372036854775807 ∧ ∀ e ∈ L, e.h < 4294967296 ∧ e.t < 4294967296) ∧ (L = [] ∨ ∃ b o, a = some ⟨b, o, none⟩ ∧ b < w.heap.size ∧ EdCells w b o L)
theorem EdCells.below {w w' : World} {B b o : Nat} {L : List Ed} (h : EdCells w b o L) (hb : Below B w w') (hl : b < B) : EdCells w' b o L := fun i hi j hj => by
  rw [hb.cell (by simpa using hl)]; exact h i hi j hj
theorem EdRow.below {w w' : World} {a : Option Addr} {L : List Ed} (h : EdRow w a L) (hb : Below w.heap.size w w') : EdRow w' a L := by
  obtain ⟨h0, h1⟩ := h
  refine ⟨h0, ?_⟩
  rcases h1 with h1 | ⟨b, o, h1, h2, h3⟩
  · exact .inl h1
  · exact .inr ⟨b, o, h1, Nat.lt_of_lt_of_le h2 hb.size, h3.below hb h2⟩
theorem EdCells.seven {w : World} {b o : Nat} {L : List Ed} (h : EdCells w b o L) {i : Nat} (hi : i < L.length) :
    w.cell? ⟨b, o + i * 7, none⟩ = some (.int .i64 (edAt L i).kd) ∧ w.cell? ⟨b, o + i * 7 + 1, none⟩ = some (.int .i64 (edAt L i).bk) ∧ w.cell? ⟨b, o + i * 7 + 2, none⟩ = some (.int .i64 (edAt L i).X) ∧ w.cell? ⟨b, o + i * 7 + 3, none⟩ = some (.int .i64 (edAt L i).Y) ∧ w.cell? ⟨b, o + i * 7 + 4, none⟩ = some (.int .i64 (edAt L i).R) ∧ w.cell? ⟨b, o + i * 7 + 5, none⟩ = some (.float .f32 (edAt L i).h) ∧ w.cell? ⟨b, o + i * 7 + 6, none⟩ = some (.float .f32 (edAt L i).t) :=
  ⟨h i hi 0 (by omega), h i hi 1 (by omega), h i hi 2 (by omega), h i hi 3 (by omega), h i hi 4 (by omega), h i hi 5 (by omega), h i hi 6 (by omega)⟩
theorem softN_take {L : List Ed} {k : Nat} (h : k < L.length) : softN (L.take (k + 1)) = softN (L.take k) + softB (edAt L k) := by
  unfold softN
  rw [List.take_add_one, List.getElem?_eq_getElem h, edAt_eq h, List.map_append, List.sum_append]
  simp only [Option.toList, List.map_cons, List.map_nil, List.sum_cons, List.sum_nil, Nat.add_zero]
/-- the first error of a list of edits -/
def edsE : List Ed → Int
  | [] => 0
  | e :: l => if edE e ≠ 0 then edE e else edsE l
def edlE (L : List Ed) : Int := if 500 < L.length then 4 else edsE L
theorem edsE_zero {L : List Ed} (h : edsE L = 0) : ∀ e ∈ L, edE e = 0 := by
  induction L with
  | nil => intro e he; cases he
  | cons a L ih =>
    unfold edsE at h
    by_cases ha : edE a = 0
    · rw [if_neg (by omega)] at h
      intro e he
      rcases List.mem_cons.1 he with rfl | he
      · exact ha
      · exact ih h e he
    · rw [if_pos ha] at h; exact absurd h ha
theorem edsE_drop {L : List Ed} {k : Nat} (h : k < L.length) : edsE (L.drop k) = if edE (edAt L k) ≠ 0 then edE (edAt L k) else edsE (L.drop (k + 1)) := by
  rw [List.drop_eq_getElem_cons h, edAt_eq h]
  rfl

set_option maxRecDepth 100000 in
theorem softens_any (L : List Ed) (a : Option Addr) (cap : Nat) (w : World) (hr : EdRow w a L) (hn : L.length ≤ 1000) :
    Calls Try.prog 83 #[.slice a L.length cap] w fun en w' => en = .returned (.int .i64 (softN L : Int)) ∧ Below w.heap.size w w' := by
  obtain ⟨_, hr⟩ := hr
  have HA : ∀ k, k < L.length → ∃ b o, a = some ⟨b, o, none⟩ ∧ b < w.heap.size ∧ EdCells w b o L := fun k hk => by
    rcases hr with h | h
    · rw [h] at hk; exact absurd hk (by simp)
    · exact h
  have HS := Lib.hid (fun k => softN_le (L.take k))
  have HE : Hid (softN (L.take L.length) = softN L) := Lib.hid (by rw [List.take_length])
  have HA' := Lib.hid HA
  clear hr HA
  go_enter Try.func83, Try.ntmps83
  go_upto_region 3 with fail
  go_loopw [3, 8] (fun av iv wr => ∃ k : Nat, k ≤ L.length ∧ iv = .int .i64 (k : Int) ∧ av = .int .i64 (softN (L.take k) : Int) ∧ Below w.heap.size w wr) (fun _ iv _ => L.length - (intOf iv).toNat)
  case atStart => exact ⟨0, by omega, rfl, rfl, Below.refl _ _⟩
  case round =>
    obtain ⟨k, hk, rfl, rfl, hb⟩ := hrel
    have HB := Lib.hid hb
    have hs0 := HS.out k
    rw [List.length_take] at hs0
    by_cases hlt : k < L.length
    · obtain ⟨b, o, rfl, hlb, hc⟩ := HA'.out k hlt
      have hi' : (k : Int) < (L.length : Int) := by omega
      obtain ⟨c0, c1, c2, c3, c4, c5, c6⟩ := (hc.below HB.out hlb).seven hlt
      have hst := softN_take hlt
      unfold softB at hst
      generalize hQ : softN (L.take (k + 1)) = q1 at *
      generalize softN (L.take k) = q0 at *
      generalize edAt L k = e at *
      obtain ⟨kd, bk, BX, BY, R, h, t⟩ := e
      simp only at *
      have HBN := Lib.hid (fun (W : World) (h : Below w.heap.size w W) => show ∃ k_1 : Nat, k_1 ≤ L.length ∧ Value.int .i64 ((k : Int) + 1) = .int .i64 (k_1 : Int) ∧ Value.int .i64 (q1 : Int) = .int .i64 (softN (L.take k_1) : Int) ∧ Below w.heap.size w W from ⟨k + 1, by omega, by congr 1, by rw [hQ], h⟩)
      clear hQ hb hc
      by_cases h3 : kd = 3
      · rw [if_pos h3] at hst
        subst h3
        have e1 : IntKind.i64.wrap ((q0 : Int) + 1) = (q1 : Int) := by rw [IntWalk.i64_in _ (by omega)]; omega
        have e2 : wrap64 ((q0 : Int) + 1) = (q1 : Int) := by unfold wrap64; omega
        have e3 : (q0 : Int) + 1 = (q1 : Int) := by omega
        clear hst
        go_wp2_with fail
        go_roundw
        case rel => exact HBN.out _ (by have h := HB.out; exact (by have hszz := h.size; repeat (first | with_reducible exact h | with_reducible apply Below.drew | with_reducible refine below_drewN ?_ _ | (with_reducible refine Below.setCell ?_ ?_ _; rotate_left; focus (first | omega | (simp <;> omega))) | (with_reducible refine Below.alloc ?_ ?_ _; rotate_left; focus (first | omega | (simp <;> omega))))))
        case measure => simp [intOf]; omega
      · rw [if_neg h3] at hst
        obtain rfl : q1 = q0 := by omega
        have hb3 : (kd == 3) = false := by simpa using h3
        clear hst
        go_wp2_with fail
        go_roundw
        case rel => exact HBN.out _ (by have h := HB.out; exact (by have hszz := h.size; repeat (first | with_reducible exact h | with_reducible apply Below.drew | with_reducible refine below_drewN ?_ _ | (with_reducible refine Below.setCell ?_ ?_ _; rotate_left; focus (first | omega | (simp <;> omega))) | (with_reducible refine Below.alloc ?_ ?_ _; rotate_left; focus (first | omega | (simp <;> omega))))))
        case measure => simp [intOf]; omega
    · obtain rfl : k = L.length := by omega
      rw [HE.out] at *
      go_wp2_with fail
      go_ret
      exact ⟨rfl, hb⟩
set_option maxRecDepth 100000 in
theorem checkEdits_list (L : List Ed) (a : Option Addr) (cap : Nat) (w : World) (hr : EdRow w a L) (hn : L.length ≤ 500) :
    Calls Try.prog 82 #[.slice a L.length cap] w fun en w' => en = .returned (.int .i64 (edsE L)) ∧ Below w.heap.size w w' := by
  obtain ⟨⟨_, hwf⟩, hr⟩ := hr
  have HA : ∀ k, k < L.length → ∃ b o, a = some ⟨b, o, none⟩ ∧ b < w.heap.size ∧ EdCells w b o L := fun k hk => by
    rcases hr with h | h
    · rw [h] at hk; exact absurd hk (by simp)
    · exact h
  have KC := Lib.hid (fun k (hk : k < L.length) w => check_edit (edAt L k) w (hwf _ (edAt_mem hk)).1 (hwf _ (edAt_mem hk)).2)
  have HD := Lib.hid (fun k (hk : k < L.length) => edsE_drop hk)
  have H0 : Hid (edsE (L.drop 0) = edsE L) := rfl
  have HN : Hid (edsE (L.drop L.length) = 0) := Lib.hid (by rw [List.drop_length]; rfl)
  have HA' := Lib.hid HA
  clear hr HA hwf
  go_enter Try.func82, Try.ntmps82
  go_upto_region 4 with fail
  go_loopw [11] (fun iv wr => ∃ k : Nat, k ≤ L.length ∧ iv = .int .i64 (k : Int) ∧ edsE L = edsE (L.drop k) ∧ Below w.heap.size w wr) (fun iv _ => L.length - (intOf iv).toNat)
  case atStart => exact ⟨0, by omega, rfl, rfl, Below.refl _ _⟩
  case round =>
    obtain ⟨k, hk, rfl, hE, hb⟩ := hrel
    have HB := Lib.hid hb
    have HEE := Lib.hid hE
    clear hE
    by_cases hlt : k < L.length
    · obtain ⟨b, o, rfl, hlb, hc⟩ := HA'.out k hlt
      have hi' : (k : Int) < (L.length : Int) := by omega
      obtain ⟨c0, c1, c2, c3, c4, c5, c6⟩ := (hc.below HB.out hlb).seven hlt
      have KC1 := Lib.hid (KC.out k hlt)
      have HD1 := Lib.hid (HD.out k hlt)
      clear KC HD hb hc
      generalize edAt L k = e at *
      obtain ⟨kd, bk, BX, BY, R, h, t⟩ := e
      unfold edA at KC1
      unfold edC at KC1
      simp only at *
      have b1 : Below wr.heap.size wr (wr.alloc (.cells #[.int .i64 kd, .int .i64 bk, .int .i64 BX, .int .i64 BY, .int .i64 R, .float .f32 h, .float .f32 t] 68)) := (by repeat (first | with_reducible exact Below.refl _ _ | with_reducible apply Below.drew | with_reducible refine below_drewN ?_ _ | (with_reducible refine Below.setCell ?_ ?_ _; rotate_left; focus (first | omega | (simp <;> omega))) | (with_reducible refine Below.alloc ?_ ?_ _; rotate_left; focus (first | omega | (simp <;> omega)))))
      have hbs := HB.out.size
      generalize edE ⟨kd, bk, BX, BY, R, h, t⟩ = q at *
      go_wp2_with fail
      refine (KC1.out _).mono ?_
      rintro en w2 ⟨rfl, b2⟩
      have HB2 := Lib.hid (HB.out.trans ((b1.trans (b2.mono b1.size)).mono hbs))
      clear b2 b1
      by_cases hq : q = 0
      · subst hq
        have HE3 : Hid (edsE L = edsE (L.drop (k + 1))) := Lib.hid (by rw [HEE.out, HD1.out, if_neg (by omega)])
        go_wp2_with fail
        go_roundw
        case rel => exact ⟨k + 1, by omega, by go_num, HE3.out, HB2.out⟩
        case measure => simp [intOf]; omega
      · have hb' : (q != 0) = true := by rw [bne_iff_ne]; exact hq
        have HE3 : Hid (edsE L = q) := Lib.hid (by rw [HEE.out, HD1.out, if_pos hq])
        go_wp2_with fail
        go_ret
        exact ⟨ret_i64 HE3.out.symm, HB2.out⟩
    · obtain rfl : k = L.length := by omega
      have HE3 : Hid (edsE L = 0) := Lib.hid (by rw [HEE.out, HN.out])
      go_wp2_with fail
      go_ret
      exact ⟨ret_i64 HE3.out.symm, HB.out⟩
set_option maxRecDepth 100000 in
theorem editsError_list (L : List Ed) (a : Option Addr) (cap : Nat) (w : World) (hr : EdRow w a L) (hn : L.length ≤ 500) :
    Calls Try.prog 87 #[.slice a L.length cap] w fun en w' => en = .returned (.int .i64 (edsE L)) ∧ Below w.heap.size w w' := by
  obtain ⟨⟨_, hwf⟩, hr⟩ := hr
  have HA : ∀ k, k < L.length → ∃ b o, a = some ⟨b, o, none⟩ ∧ b < w.heap.size ∧ EdCells w b o L := fun k hk => by
    rcases hr with h | h
    · rw [h] at hk; exact absurd hk (by simp)
    · exact h
  have KC := Lib.hid (fun k (hk : k < L.length) w => refcheck_edit (edAt L k) w (hwf _ (edAt_mem hk)).1 (hwf _ (edAt_mem hk)).2)
  have HD := Lib.hid (fun k (hk : k < L.length) => edsE_drop hk)
  have H0 : Hid (edsE (L.drop 0) = edsE L) := rfl
  have HN : Hid (edsE (L.drop L.length) = 0) := Lib.hid (by rw [List.drop_length]; rfl)
  have HA' := Lib.hid HA
  clear hr HA hwf
  go_enter Try.func87, Try.ntmps87
  go_upto_region 4 with fail
  go_loopw [11] (fun iv wr => ∃ k : Nat, k ≤ L.length ∧ iv = .int .i64 (k : Int) ∧ edsE L = edsE (L.drop k) ∧ Below w.heap.size w wr) (fun iv _ => L.length - (intOf iv).toNat)
  case atStart => exact ⟨0, by omega, rfl, rfl, Below.refl _ _⟩
  case round =>
    obtain ⟨k, hk, rfl, hE, hb⟩ := hrel
    have HB := Lib.hid hb
    have HEE := Lib.hid hE
    clear hE
    by_cases hlt : k < L.length
    · obtain ⟨b, o, rfl, hlb, hc⟩ := HA'.out k hlt
      have hi' : (k : Int) < (L.length : Int) := by omega
      obtain ⟨c0, c1, c2, c3, c4, c5, c6⟩ := (hc.below HB.out hlb).seven hlt
      have KC1 := Lib.hid (KC.out k hlt)
      have HD1 := Lib.hid (HD.out k hlt)
      clear KC HD hb hc
      generalize edAt L k = e at *
      obtain ⟨kd, bk, BX, BY, R, h, t⟩ := e
      unfold edA at KC1
      unfold edC at KC1
      simp only at *
      have b1 : Below wr.heap.size wr (wr.alloc (.cells #[.int .i64 kd, .int .i64 bk, .int .i64 BX, .int .i64 BY, .int .i64 R, .float .f32 h, .float .f32 t] 68)) := (by repeat (first | with_reducible exact Below.refl _ _ | with_reducible apply Below.drew | with_reducible refine below_drewN ?_ _ | (with_reducible refine Below.setCell ?_ ?_ _; rotate_left; focus (first | omega | (simp <;> omega))) | (with_reducible refine Below.alloc ?_ ?_ _; rotate_left; focus (first | omega | (simp <;> omega)))))
      have hbs := HB.out.size
      generalize edE ⟨kd, bk, BX, BY, R, h, t⟩ = q at *
      go_wp2_with fail
      refine (KC1.out _).mono ?_
      rintro en w2 ⟨rfl, b2⟩
      have HB2 := Lib.hid (HB.out.trans ((b1.trans (b2.mono b1.size)).mono hbs))
      clear b2 b1
      by_cases hq : q = 0
      · subst hq
        have HE3 : Hid (edsE L = edsE (L.drop (k + 1))) := Lib.hid (by rw [HEE.out, HD1.out, if_neg (by omega)])
        go_wp2_with fail
        go_roundw
        case rel => exact ⟨k + 1, by omega, by go_num, HE3.out, HB2.out⟩
        case measure => simp [intOf]; omega
      · have hb' : (q != 0) = true := by rw [bne_iff_ne]; exact hq
        have HE3 : Hid (edsE L = q) := Lib.hid (by rw [HEE.out, HD1.out, if_pos hq])
        go_wp2_with fail
        go_ret
        exact ⟨ret_i64 HE3.out.symm, HB2.out⟩
    · obtain rfl : k = L.length := by omega
      have HE3 : Hid (edsE L = 0) := Lib.hid (by rw [HEE.out, HN.out])
      go_wp2_with fail
      go_ret
      exact ⟨ret_i64 HE3.out.symm, HB.out⟩
end Go.Proofs.Ytfmbekdfigbfiaa

namespace Go.Proofs.Ytfmbekdfigbfiaa
open Go.ChangeShapes Go.WideShapes Go.ChangeAt Go.RowKit
open Ieee.Format (fin finE htE allFin allHt all_true all_false mulF subF addF Ht Bd divF rootF floorF easeF mixF)
set_option linter.unusedVariables false

/-! ### the fields behind the first k edits -/
def cur0 (X Y : Int) (Wn : Nat) (l : List Nat) : Int → Int → Nat := fun x y => l.getD (cellNo X Y Wn x y).toNat 0
def snk (L : List Ed) (k : Nat) : Nat := softN (L.take k)
/-- the field behind the first k edits -/
def curF (L : List Ed) (X Y : Int) (Wn Hn : Nat) (g0 : Int → Int → Nat) (k : Nat) : Lv :=
  ⟨X + snk L k, Y + snk L k, Wn - 2 * snk L k, Hn - 2 * snk L k, madeL (edsV (L.take k) g0) (X + snk L k) (Y + snk L k) (Wn - 2 * snk L k) ((Hn - 2 * snk L k) * (Wn - 2 * snk L k))⟩
theorem edsV_take {L : List Ed} {k : Nat} (h : k < L.length) (g : Int → Int → Nat) : edsV (L.take (k + 1)) g = edV (edAt L k) (edsV (L.take k) g) := by
  rw [List.take_add_one, List.getElem?_eq_getElem h, edAt_eq h]
  simp only [Option.toList]
  rw [edsV_append]
  rfl
theorem snk_succ {L : List Ed} {k : Nat} (h : k < L.length) : snk L (k + 1) = snk L k + softB (edAt L k) := softN_take h
theorem snk_mono {L : List Ed} {k : Nat} (h : k ≤ L.length) : snk L k ≤ softN L := by
  have : ∀ j, j + k ≤ L.length → snk L k ≤ snk L (k + j) := by
    intro j
    induction j with
    | zero => intro _; exact Nat.le_refl _
    | succ j ih =>
      intro hj
      have a := ih (by omega)
      have b := snk_succ (L := L) (k := k + j) (by omega)
      rw [show k + (j + 1) = k + j + 1 from rfl, b]
      omega
  have := this (L.length - k) (by omega)
  rw [show k + (L.length - k) = L.length by omega] at this
  unfold snk at this ⊢
  rwa [List.take_length] at this
theorem curF_next {L : List Ed} {k : Nat} (h : k < L.length) (X Y : Int) (Wn Hn : Nat) (g0 : Int → Int → Nat) :
    edL (edAt L k) (edsV (L.take k) g0) (X + snk L k) (Y + snk L k) (Wn - 2 * snk L k) (Hn - 2 * snk L k) = curF L X Y Wn Hn g0 (k + 1) := by
  unfold edL curF
  rw [edsV_take h, snk_succ h]
  have e1 : X + ((snk L k + softB (edAt L k) : Nat) : Int) = X + (snk L k : Int) + (softB (edAt L k) : Int) := by omega
  have e2 : Y + ((snk L k + softB (edAt L k) : Nat) : Int) = Y + (snk L k : Int) + (softB (edAt L k) : Int) := by omega
  have e3 : Wn - 2 * (snk L k + softB (edAt L k)) = Wn - 2 * snk L k - 2 * softB (edAt L k) := by omega
  have e4 : Hn - 2 * (snk L k + softB (edAt L k)) = Hn - 2 * snk L k - 2 * softB (edAt L k) := by omega
  rw [e1, e2, e3, e4]
theorem curF_zero (L : List Ed) (X Y : Int) (Wn Hn : Nat) (l : List Nat) (h1 : 1 ≤ Wn) (hl : l.length = Hn * Wn) : curF L X Y Wn Hn (cur0 X Y Wn l) 0 = ⟨X, Y, Wn, Hn, l⟩ := by
  unfold curF snk
  have e : softN (L.take 0) = 0 := by simp [softN]
  have := made_id X Y Wn Hn l h1 hl
  rw [e]
  simp only [List.take_zero, edsV, Nat.mul_zero, Nat.sub_zero, Int.natCast_zero, Int.add_zero]
  congr 1
theorem mixF_lt (a b s : Nat) : Ieee.Format.mixF a b s < 4294967296 := Ieee.Format.addF_lt _ _
theorem edV_lt {e : Ed} (ht : e.t < 4294967296) {g : Int → Int → Nat} (hg : ∀ x y, g x y < 4294967296) (x y : Int) : edV e g x y < 4294967296 := by
  unfold edV chgF
  split
  · exact hg _ _
  split
  · exact Ieee.Format.addF_lt _ _
  split
  · exact mixF_lt _ _ _
  split
  · exact mixF_lt _ _ _
  · exact ht
/-- all that is right of a list of edits -/
structure EdsOk (L : List Ed) : Prop where
  n : L.length ≤ 12
  ok : ∀ e ∈ L, e.ok
  wf : ∀ e ∈ L, e.h < 4294967296 ∧ e.t < 4294967296
theorem edsV_facts {L : List Ed} (h : EdsOk L) {g : Int → Int → Nat} (hg : ∀ x y, Bd 20 (g x y)) (hg2 : ∀ x y, g x y < 4294967296) :
    ∀ k, k ≤ L.length → (∀ x y, Bd (20 + 2 * k) (edsV (L.take k) g x y)) ∧ ∀ x y, edsV (L.take k) g x y < 4294967296
  | 0, _ => by simpa [edsV] using ⟨hg, hg2⟩
  | k + 1, hk => by
    obtain ⟨a, b⟩ := edsV_facts h hg hg2 k (by omega)
    have hn := h.n
    rw [edsV_take (by omega)]
    exact ⟨fun x y => edV_bd (h.ok _ (edAt_mem (by omega))) (by omega) (by omega) a x y, fun x y => edV_lt (h.wf _ (edAt_mem (by omega))).2 b x y⟩
theorem cur0_facts {X Y : Int} {Wn Hn : Nat} {l : List Nat} (h : Right X Y Wn Hn l) (hw : ∀ x ∈ l, x < 4294967296) : (∀ x y, Bd 20 (cur0 X Y Wn l x y)) ∧ ∀ x y, cur0 X Y Wn l x y < 4294967296 := by
  refine ⟨fun x y => (h.getD _).bd, fun x y => ?_⟩
  unfold cur0
  rcases Nat.lt_or_ge (cellNo X Y Wn x y).toNat l.length with q | q
  · rw [List.getD_eq_getElem?_getD, List.getElem?_eq_getElem q]; exact hw _ (List.getElem_mem q)
  · rw [List.getD_eq_getElem?_getD, List.getElem?_eq_none q]; decide
/-- what Apply gives -/
def appE (L : List Ed) (Wn Hn : Nat) (S : List Nat) : Int := if edsE L ≠ 0 then edsE L else if Wn ≤ 2 * softN L ∨ Hn ≤ 2 * softN L then 10 else if allHt S = true then 0 else 3

/-- the memory of Apply behind k edits -/
structure ApInv (w wr : World) (u : Lv) (k9 gk capk : Nat) : Prop where
  f : Fld wr k9 u.X u.Y u.W u.H (.slice (some ⟨gk, 0, none⟩) u.l.length capk)
  o : OwnF wr w.heap.size gk capk u.l
  z : Fld wr (w.heap.size + 1) 0 0 0 0 (.slice none 0 0)
  ne : gk ≠ k9
  nz : gk ≠ w.heap.size + 1
  lk : w.heap.size + 1 < k9
  b : Below w.heap.size w wr
section
variable {w wr w2 : World} {u : Lv} {k9 gk capk : Nat}
theorem ApInv.call (h : ApInv w wr u k9 gk capk) (hb : Below wr.heap.size wr w2) : ApInv w w2 u k9 gk capk :=
  ⟨h.f.below hb h.f.lt, h.o.below hb h.o.lt.2, h.z.below hb h.z.lt, h.ne, h.nz, h.lk, h.b.trans (hb.mono h.b.size)⟩
theorem ApInv.alloc (h : ApInv w wr u k9 gk capk) (o : Obj) : ApInv w (wr.alloc o) u k9 gk capk := h.call ((Below.refl _ _).alloc (Nat.le_refl _) _)
/-- a new field is stored -/
theorem ApInv.store (h : ApInv w w2 u k9 gk capk) {v : Lv} {B g2 c2 : Nat} (ho : OwnF w2 B g2 c2 v.l) (hB : k9 < B) : ∀ W5,
    W5 = ((((w2.setCell ⟨k9, 0, none⟩ (.int .i64 v.X)).setCell ⟨k9, 1, none⟩ (.int .i64 v.Y)).setCell ⟨k9, 2, none⟩ (.int .i64 v.W)).setCell ⟨k9, 3, none⟩ (.int .i64 v.H)).setCell ⟨k9, 4, none⟩ (.slice (some ⟨g2, 0, none⟩) v.l.length c2) → ApInv w W5 v k9 g2 c2 := by
  intro W5 hW5
  obtain ⟨h5, bb5, oo5, ff5, _⟩ := fld_store w2 k9 _ _ _ _ _ v.X v.Y v.W v.H (.slice (some ⟨g2, 0, none⟩) v.l.length c2) h.f W5 hW5
  have hl := h.lk
  have hs := h.b.size
  have hg := ho.lt.1
  exact ⟨h5, (oo5 _ _ _ _ ho (by omega)).base (by omega), ff5 _ _ _ _ _ _ h.z (by omega), by omega, by omega, hl, h.b.trans (bb5.mono (by omega))⟩
end
set_option maxRecDepth 100000 in
set_option maxHeartbeats 2000000 in
theorem apply_any (L : List Ed) (ea : Option Addr) (ecap : Nat) (X Y : Int) (Wn Hn g cap : Nat) (l : List Nat) (w : World) (hr : Right X Y Wn Hn l) (hl : SRow w (some ⟨g, 0, none⟩) l) (hE : EdRow w ea L) (hn : L.length ≤ 12) :
    Calls Try.prog 25 #[fldV X Y Wn Hn (some ⟨g, 0, none⟩) l.length cap, .slice ea L.length ecap] w fun e w' =>
      OpP (appE L Wn Hn (curF L X Y Wn Hn (cur0 X Y Wn l) L.length).l) (curF L X Y Wn Hn (cur0 X Y Wn l) L.length).X (curF L X Y Wn Hn (cur0 X Y Wn l) L.length).Y (curF L X Y Wn Hn (cur0 X Y Wn l) L.length).W (curF L X Y Wn Hn (cur0 X Y Wn l) L.length).H (curF L X Y Wn Hn (cur0 X Y Wn l) L.length).l w e w' := by
  have K := Lib.hid (fun w h => check_field X Y Wn Hn (some ⟨g, 0, none⟩) cap l w h)
  rw [hr.chk] at K
  have HL := Lib.hid hl
  have HE := Lib.hid hE
  have KC := Lib.hid (fun w h => checkEdits_list L ea ecap w h (by omega))
  unfold appE
  by_cases he : edsE L = 0
  · rw [he] at KC
    rw [if_neg (show ¬ edsE L ≠ 0 by omega)]
    have KS := Lib.hid (fun w h => softens_any L ea ecap w h (by omega))
    have hsn : softN L ≤ 12 := by have := softN_le L; omega
    by_cases hs : Wn ≤ 2 * softN L ∨ Hn ≤ 2 * softN L
    · rw [if_pos hs]
      have HQ := Lib.hid (fun e w' h1 h2 => OpP.err (c := 10) (X := (curF L X Y Wn Hn (cur0 X Y Wn l) L.length).X) (Y := (curF L X Y Wn Hn (cur0 X Y Wn l) L.length).Y) (W := (curF L X Y Wn Hn (cur0 X Y Wn l) L.length).W) (H := (curF L X Y Wn Hn (cur0 X Y Wn l) L.length).H) (m := (curF L X Y Wn Hn (cur0 X Y Wn l) L.length).l) (w := w) (e := e) (w' := w') (by decide) h1 h2)
      generalize curF L X Y Wn Hn (cur0 X Y Wn l) L.length = u at *
      generalize softN L = n at *
      have hw2 := hr.w2
      have hh2 := hr.h2
      clear hr hl hE he
      have hs' : (Wn : Int) ≤ 2 * (n : Int) ∨ ¬ (Wn : Int) ≤ 2 * (n : Int) ∧ (Hn : Int) ≤ 2 * (n : Int) := by omega
      clear hs
      rcases hs' with h1 | ⟨h1, h2⟩
      all_goals
        go_enter Try.func25, Try.ntmps25
        go_wp2_with fail
        generalize hW0 : (w.alloc (.cells #[.int .i64 X, .int .i64 Y, .int .i64 Wn, .int .i64 Hn, .slice (some ⟨g, 0, none⟩) l.length cap] 26)).alloc (.cells #[.int .i64 0, .int .i64 0, .int .i64 0, .int .i64 0, .slice none 0 0] 26) = W0 at *
        obtain ⟨E0, F0, B0, z0⟩ := two_fields w X Y Wn Hn (.slice (some ⟨g, 0, none⟩) l.length cap) W0 hW0.symm
        clear hW0
        refine (K.out _ (HL.out.below B0)).mono ?_
        rintro e w1 ⟨rfl, b1⟩
        have HX1 := Lib.hid (E0.below b1 E0.lt)
        have HF1 := Lib.hid (F0.below b1 F0.lt)
        have HB1 := Lib.hid (B0.trans (b1.mono B0.size))
        clear b1 E0 F0 B0 z0
        go_wp2_with fail
        refine (KC.out _ (HE.out.below HB1.out)).mono ?_
        rintro e w2 ⟨rfl, b2⟩
        have HX2 := Lib.hid (HX1.out.below b2 HX1.out.lt)
        have HF2 := Lib.hid (HF1.out.below b2 HF1.out.lt)
        have HB2 := Lib.hid (HB1.out.trans (b2.mono HB1.out.size))
        clear b2 HF1 HB1 HX1
        go_wp2_with fail
        refine (KS.out _ (HE.out.below HB2.out)).mono ?_
        rintro e w3 ⟨rfl, b3⟩
        have HX3 := Lib.hid (HX2.out.below b3 HX2.out.lt)
        have HF3 := Lib.hid (HF2.out.below b3 HF2.out.lt)
        have HB3 := Lib.hid (HB2.out.trans (b3.mono HB2.out.size))
        clear b3 HF2 HB2 HX2
        obtain ⟨c0, c1, c2, c3, c4⟩ := HX3.out.cells
        obtain ⟨d0, d1, d2, d3, d4⟩ := HF3.out.cells
        have qf0 := HF3.out.frozen 0
        have qf1 := HF3.out.frozen 1
        have qf2 := HF3.out.frozen 2
        have qf3 := HF3.out.frozen 3
        have qf4 := HF3.out.frozen 4
        have lz := HF3.out.lt
        go_wp2_with fail
        have B3 := HB3.out
        exact bodyPost_ret (v := .tuple #[fldV 0 0 0 0 none 0 0, .int .i64 10]) (by simp [results, Try.results25, go_sem, *]) rfl (HQ.out _ _ rfl (by have hszz := B3.size; repeat (first | with_reducible exact B3 | with_reducible apply Below.drew | with_reducible refine below_drewN ?_ _ | (with_reducible refine Below.setCell ?_ ?_ _; rotate_left; focus (first | omega | (simp <;> omega))) | (with_reducible refine Below.alloc ?_ ?_ _; rotate_left; focus (first | omega | (simp <;> omega))))))
    · rw [if_neg hs]
      have OK : EdsOk L := ⟨hn, fun e he' => edE_ok (edsE_zero he e he'), hE.1.2⟩
      obtain ⟨f1, f2⟩ := cur0_facts hr hl.1.2
      have FA := Lib.hid (fun k hk => edsV_facts OK f1 f2 k hk)
      have SM := Lib.hid (fun k (hk : k ≤ L.length) => snk_mono hk)
      have hne := hr.ne
      have KP := Lib.hid (fun w h => copy_any X Y Wn Hn g 0 cap l w h hne)
      have w1 := hr.w1; have w2 := hr.w2; have h1 := hr.h1; have h2 := hr.h2; have x1 := hr.x1; have x2 := hr.x2; have y1 := hr.y1; have y2 := hr.y2
      have C0 := curF_zero L X Y Wn Hn l w1 hr.len
      have KE := Lib.hid (fun k (hk : k < L.length) b c W (hW : SRow W (some ⟨b, 0, none⟩) (curF L X Y Wn Hn (cur0 X Y Wn l) k).l) => show Calls Try.prog 85 #[fldV (curF L X Y Wn Hn (cur0 X Y Wn l) k).X (curF L X Y Wn Hn (cur0 X Y Wn l) k).Y (curF L X Y Wn Hn (cur0 X Y Wn l) k).W (curF L X Y Wn Hn (cur0 X Y Wn l) k).H (some ⟨b, 0, none⟩) (curF L X Y Wn Hn (cur0 X Y Wn l) k).l.length c, edA (edAt L k)] W fun en w' => LvP (curF L X Y Wn Hn (cur0 X Y Wn l) (k + 1)) W en w' from by
        have s1 := SM.out (k + 1) (by omega)
        have s0 := snk_succ hk
        have fa := FA.out k (by omega)
        rw [← curF_next hk]
        have hm := edAt_mem hk
        refine edited_any (edAt L k) (OK.ok _ hm) (OK.wf _ hm).1 (edsV (L.take k) (cur0 X Y Wn l)) (X + snk L k) (Y + snk L k) (Wn - 2 * snk L k) (Hn - 2 * snk L k) b c (20 + 2 * k) W hW (by omega) (by omega) (by omega) (by omega) (by omega) (by omega) (by omega) (by omega) (fun h3 => ?_) fa.1 (edV_lt (OK.wf _ hm).2 fa.2) (by omega) (by omega)
        have : softB (edAt L k) = 1 := by unfold softB; rw [if_pos h3]
        omega)
      have KR1 := Lib.hid (fun (u : Lv) b c W (h : SRow W (some ⟨b, 0, none⟩) u.l) (hh : allHt u.l = true) => result_ok u.X u.Y u.W u.H b 0 c u.l W h (fun j hj => (Ieee.Format.allHt_iff.1 hh) _ (by rw [List.getD_eq_getElem?_getD, List.getElem?_eq_getElem hj]; exact List.getElem_mem _)))
      have KR2 := Lib.hid (fun (u : Lv) b c W (h : SRow W (some ⟨b, 0, none⟩) u.l) (hh : allHt u.l = false) => result_no u.X u.Y u.W u.H b 0 c u.l W h hh)
      have UL := Lib.hid (fun k => show (curF L X Y Wn Hn (cur0 X Y Wn l) k).l.length ≤ 262144 from by
        unfold curF
        rw [madeL_len]
        have := Nat.mul_le_mul (show Hn - 2 * snk L k ≤ 512 by omega) (show Wn - 2 * snk L k ≤ 512 by omega)
        omega)
      clear FA SM
      have hs' : ¬ (Wn : Int) ≤ 2 * (softN L : Int) ∧ ¬ (Hn : Int) ≤ 2 * (softN L : Int) := by omega
      obtain ⟨hs1, hs2⟩ := hs'
      generalize softN L = n at *
      clear hs f1 f2 OK hne he hr hl
      generalize cur0 X Y Wn l = g0 at *
      generalize hU : curF L X Y Wn Hn g0 L.length = uz
      have HU := Lib.hid hU
      have HQ1 := Lib.hid (fun (hh : allHt uz.l = true) (w' : World) gk ck (h1 : OwnF w' w.heap.size gk ck uz.l) (h2 : Below w.heap.size w w') => show OpP (if allHt uz.l = true then 0 else 3) uz.X uz.Y uz.W uz.H uz.l w (.returned (.tuple #[fldV uz.X uz.Y uz.W uz.H (some ⟨gk, 0, none⟩) uz.l.length ck, .int .i64 0])) w' from
        ⟨⟨uz.X, uz.Y, uz.W, uz.H, some ⟨gk, 0, none⟩, uz.l.length, ck, by rw [if_pos hh], .inr ⟨if_pos hh, rfl, rfl, rfl, rfl, gk, rfl, rfl, h1⟩⟩, h2⟩)
      have HQ2 := Lib.hid (fun (hh : allHt uz.l = false) (w' : World) (h2 : Below w.heap.size w w') => show OpP (if allHt uz.l = true then 0 else 3) uz.X uz.Y uz.W uz.H uz.l w (.returned (.tuple #[fldV 0 0 0 0 none 0 0, .int .i64 3])) w' from by
        rw [if_neg (by simp [hh])]; exact OpP.err (by decide) rfl h2)
      clear hU
      generalize (if allHt uz.l = true then (0 : Int) else 3) = C at *
      go_enter Try.func25, Try.ntmps25
      go_wp2_with fail
      generalize hW0 : (w.alloc (.cells #[.int .i64 X, .int .i64 Y, .int .i64 Wn, .int .i64 Hn, .slice (some ⟨g, 0, none⟩) l.length cap] 26)).alloc (.cells #[.int .i64 0, .int .i64 0, .int .i64 0, .int .i64 0, .slice none 0 0] 26) = W0 at *
      obtain ⟨E0, F0, B0, z0⟩ := two_fields w X Y Wn Hn (.slice (some ⟨g, 0, none⟩) l.length cap) W0 hW0.symm
      clear hW0
      refine (K.out _ (HL.out.below B0)).mono ?_
      rintro e w1 ⟨rfl, b1⟩
      have HX1 := Lib.hid (E0.below b1 E0.lt)
      have HF1 := Lib.hid (F0.below b1 F0.lt)
      have HB1 := Lib.hid (B0.trans (b1.mono B0.size))
      clear b1 E0 F0 B0 z0
      go_wp2_with fail
      refine (KC.out _ (HE.out.below HB1.out)).mono ?_
      rintro e w2 ⟨rfl, b2⟩
      have HX2 := Lib.hid (HX1.out.below b2 HX1.out.lt)
      have HF2 := Lib.hid (HF1.out.below b2 HF1.out.lt)
      have HB2 := Lib.hid (HB1.out.trans (b2.mono HB1.out.size))
      clear b2 HF1 HB1 HX1
      go_wp2_with fail
      refine (KS.out _ (HE.out.below HB2.out)).mono ?_
      rintro e w3 ⟨rfl, b3⟩
      have HX3 := Lib.hid (HX2.out.below b3 HX2.out.lt)
      have HF3 := Lib.hid (HF2.out.below b3 HF2.out.lt)
      have HB3 := Lib.hid (HB2.out.trans (b3.mono HB2.out.size))
      clear b3 HF2 HB2 HX2
      obtain ⟨c0, c1, c2, c3, c4⟩ := HX3.out.cells
      have KP3 := Lib.hid (KP.out _ (HL.out.below HB3.out))
      clear KP K KC KS
      go_wp2_with fail
      refine KP3.out.mono ?_
      rintro e w4 ⟨gk, ck, rfl, ho, b4⟩
      have HF4 := Lib.hid (HF3.out.below b4 HF3.out.lt)
      have HB4 := Lib.hid (HB3.out.trans (b4.mono HB3.out.size))
      have hHO := Lib.hid (ho.base HB3.out.size)
      have HG4 : Hid (gk < w4.heap.size) := ho.lt.2
      have HNZ : Hid (gk ≠ w.heap.size + 1) := by have a := ho.lt.1; have b := HF3.out.lt; unfold Hid; omega
      clear b4 HF3 HB3 ho KP3 c0 c1 c2 c3 c4 HX3
      have I4 : ApInv w (w4.alloc (.cells #[.int .i64 X, .int .i64 Y, .int .i64 (Wn : Int), .int .i64 (Hn : Int), .slice (some ⟨gk, 0, none⟩) l.length ck] 26)) (curF L X Y Wn Hn g0 0) w4.heap.size gk ck := by
        rw [C0]
        exact ⟨Fld.new _ _ _ _ _ _, hHO.out.alloc _, HF4.out.alloc _, by have := HG4.out; omega, HNZ.out, HF4.out.lt, HB4.out.alloc (by have := HB4.out.size; omega) _⟩
      have HI4 := Lib.hid I4
      clear I4 C0 hHO HF4 HB4
      have lk4 : w.heap.size + 1 < w4.heap.size := HI4.out.lk
      go_upto_region 11 with fail
      generalize w4.alloc (.cells #[.int .i64 X, .int .i64 Y, .int .i64 (Wn : Int), .int .i64 (Hn : Int), .slice (some ⟨gk, 0, none⟩) l.length ck] 26) = W4 at *
      generalize w4.heap.size = k9 at *
      go_upto_region 12 with fail
      go_loopw [44] (fun iv wr => ∃ (k gk ck : Nat), k ≤ L.length ∧ iv = .int .i64 (k : Int) ∧ ApInv w wr (curF L X Y Wn Hn g0 k) k9 gk ck) (fun iv _ => L.length - (intOf iv).toNat)
      case atStart => exact ⟨0, gk, ck, by omega, rfl, HI4.out⟩
      case round =>
        clear HI4 HG4
        obtain ⟨k, gk, ck, hk, rfl, I⟩ := hrel
        have HI := Lib.hid I
        obtain ⟨c0, c1, c2, c3, c4⟩ := I.f.cells
        have lkk := I.f.lt
        by_cases hlt : k < L.length
        · rcases (HE.out.below I.b).2 with h0 | ⟨b, o, rfl, hlb, hc⟩
          · rw [h0] at hlt; exact absurd hlt (by simp)
          have hi' : (k : Int) < (L.length : Int) := by omega
          obtain ⟨a0, a1, a2, a3, a4, a5, a6⟩ := hc.seven hlt
          have KE1 := Lib.hid (KE.out k hlt gk ck)
          have hul := UL.out k
          have HROW := Lib.hid (I.o.row (by omega))
          clear I hc KE
          generalize hE1 : edAt L k = e1 at *
          obtain ⟨kd, bk, BX, BY, R, h, t⟩ := e1
          clear hE1
          unfold edA at KE1
          unfold edC at KE1
          simp only at *
          have BA : Below wr.heap.size wr (wr.alloc (.cells #[.int .i64 kd, .int .i64 bk, .int .i64 BX, .int .i64 BY, .int .i64 R, .float .f32 h, .float .f32 t] 68)) := (by repeat (first | with_reducible exact Below.refl _ _ | with_reducible apply Below.drew | with_reducible refine below_drewN ?_ _ | (with_reducible refine Below.setCell ?_ ?_ _; rotate_left; focus (first | omega | (simp <;> omega))) | (with_reducible refine Below.alloc ?_ ?_ _; rotate_left; focus (first | omega | (simp <;> omega)))))
          have HI2 := Lib.hid (HI.out.call BA)
          have KE2 := Lib.hid (KE1.out _ (HROW.out.below BA))
          have hsz : k9 < (wr.alloc (.cells #[.int .i64 kd, .int .i64 bk, .int .i64 BX, .int .i64 BY, .int .i64 R, .float .f32 h, .float .f32 t] 68)).heap.size := Nat.lt_of_lt_of_le lkk BA.size
          have PA := Blk.new wr #[.int .i64 kd, .int .i64 bk, .int .i64 BX, .int .i64 BY, .int .i64 R, .float .f32 h, .float .f32 t] 68
          clear KE1 HI HROW BA
          generalize curF L X Y Wn Hn g0 k = u at *
          go_upto_region 14 with fail
          generalize wr.alloc (.cells #[.int .i64 kd, .int .i64 bk, .int .i64 BX, .int .i64 BY, .int .i64 R, .float .f32 h, .float .f32 t] 68) = wa at *
          clear c0 c1 c2 c3 c4 a0 a1 a2 a3 a4 a5 a6
          obtain ⟨c0, c1, c2, c3, c4⟩ := HI2.out.f.cells
          have HP1 := Lib.hid PA
          clear PA
          have p0 : wa.cell? ⟨wr.heap.size, 0, none⟩ = some (.int .i64 kd) := HP1.out.cell 0
          have p1 : wa.cell? ⟨wr.heap.size, 1, none⟩ = some (.int .i64 bk) := HP1.out.cell 1
          have p2 : wa.cell? ⟨wr.heap.size, 2, none⟩ = some (.int .i64 BX) := HP1.out.cell 2
          have p3 : wa.cell? ⟨wr.heap.size, 3, none⟩ = some (.int .i64 BY) := HP1.out.cell 3
          have p4 : wa.cell? ⟨wr.heap.size, 4, none⟩ = some (.int .i64 R) := HP1.out.cell 4
          have p5 : wa.cell? ⟨wr.heap.size, 5, none⟩ = some (.float .f32 h) := HP1.out.cell 5
          have p6 : wa.cell? ⟨wr.heap.size, 6, none⟩ = some (.float .f32 t) := HP1.out.cell 6
          have lpe := HP1.out.lt
          go_wp2_with fail
          refine KE2.out.mono ?_
          rintro en w2 ⟨⟨g2, c5, rfl, ho⟩, b2⟩
          have HI3 := Lib.hid (HI2.out.call b2)
          have HO3 := Lib.hid ho
          clear c0 c1 c2 c3 c4 KE2 ho b2 HI2 p0 p1 p2 p3 p4 p5 p6 lpe HP1
          obtain ⟨c0, c1, c2, c3, c4⟩ := HI3.out.f.cells
          have qf0 := HI3.out.f.frozen 0
          have qf1 := HI3.out.f.frozen 1
          have qf2 := HI3.out.f.frozen 2
          have qf3 := HI3.out.f.frozen 3
          have qf4 := HI3.out.f.frozen 4
          have lz := HI3.out.f.lt
          obtain ⟨u2, hu2⟩ : ∃ u2, u2 = curF L X Y Wn Hn g0 (k + 1) := ⟨_, rfl⟩
          have HU2 := Lib.hid hu2
          rw [← hu2] at HO3
          simp only [← hu2]
          clear hu2
          go_wp2_with fail
          generalize hW5 : ((((w2.setCell ⟨k9, 0, none⟩ (.int .i64 u2.X)).setCell ⟨k9, 1, none⟩ (.int .i64 u2.Y)).setCell ⟨k9, 2, none⟩ (.int .i64 (u2.W : Int))).setCell ⟨k9, 3, none⟩ (.int .i64 (u2.H : Int))).setCell ⟨k9, 4, none⟩ (.slice (some ⟨g2, 0, none⟩) u2.l.length c5) = W5 at *
          have I5 := HI3.out.store HO3.out hsz W5 hW5.symm
          have HREL : Hid (∃ (k_1 gk_1 ck_1 : Nat), k_1 ≤ L.length ∧ Value.int .i64 ((k : Int) + 1) = .int .i64 (k_1 : Int) ∧ ApInv w W5 (curF L X Y Wn Hn g0 k_1) k9 gk_1 ck_1) := Lib.hid ⟨k + 1, g2, c5, by omega, by congr 1, HU2.out ▸ I5⟩
          clear hW5 I5 HI3 HO3 c0 c1 c2 c3 c4 qf0 qf1 qf2 qf3 qf4
          go_wp2_with fail
          go_roundw
          case rel => exact HREL.out
          case measure => simp [intOf]; omega
        · obtain rfl : k = L.length := by omega
          have hul := UL.out L.length
          rw [HU.out] at I hul
          have HROW := Lib.hid (I.o.row (by omega))
          have KRA := Lib.hid (KR1.out uz gk ck wr HROW.out)
          have KRB := Lib.hid (KR2.out uz gk ck wr HROW.out)
          clear HI
          have HI := Lib.hid I
          clear KR1 KR2 KE UL I c0 c1 c2 c3 c4
          obtain ⟨c0, c1, c2, c3, c4⟩ := HI.out.f.cells
          by_cases hh : allHt uz.l = true
          · have KR := Lib.hid (KRA.out hh)
            have HQ := Lib.hid (HQ1.out hh)
            clear KRA KRB hh HQ1 HQ2
            go_wp2_with fail
            refine KR.out.mono ?_
            rintro e w5 ⟨rfl, b5⟩
            have HI5 := Lib.hid (HI.out.call b5)
            clear b5 HI c0 c1 c2 c3 c4 KR HROW
            obtain ⟨d0, d1, d2, d3, d4⟩ := HI5.out.z.cells
            have qf0 := HI5.out.z.frozen 0
            have qf1 := HI5.out.z.frozen 1
            have qf2 := HI5.out.z.frozen 2
            have qf3 := HI5.out.z.frozen 3
            have qf4 := HI5.out.z.frozen 4
            have lz := HI5.out.z.lt
            go_wp2_with fail
            generalize hW5 : ((((w5.setCell ⟨w.heap.size + 1, 0, none⟩ (.int .i64 uz.X)).setCell ⟨w.heap.size + 1, 1, none⟩ (.int .i64 uz.Y)).setCell ⟨w.heap.size + 1, 2, none⟩ (.int .i64 (uz.W : Int))).setCell ⟨w.heap.size + 1, 3, none⟩ (.int .i64 (uz.H : Int))).setCell ⟨w.heap.size + 1, 4, none⟩ (.slice (some ⟨gk, 0, none⟩) uz.l.length ck) = W5 at *
            obtain ⟨h5, bb5, oo5, _, _⟩ := fld_store w5 (w.heap.size + 1) _ _ _ _ _ uz.X uz.Y uz.W uz.H (.slice (some ⟨gk, 0, none⟩) uz.l.length ck) HI5.out.z W5 hW5.symm
            have hO5 := oo5 _ _ _ _ HI5.out.o HI5.out.nz
            have hB5 := HI5.out.b.trans (bb5.mono (by omega))
            clear d0 d1 d2 d3 d4 qf0 qf1 qf2 qf3 qf4 hW5 oo5
            obtain ⟨d0, d1, d2, d3, d4⟩ := h5.cells
            exact bodyPost_ret (v := .tuple #[fldV uz.X uz.Y uz.W uz.H (some ⟨gk, 0, none⟩) uz.l.length ck, .int .i64 0]) (by simp [results, Try.results25, go_sem, *]) rfl (HQ.out _ _ _ hO5 hB5)
          · have hh' : allHt uz.l = false := by simpa using hh
            have KR := Lib.hid (KRB.out hh')
            have HQ := Lib.hid (HQ2.out hh')
            clear KRA KRB hh HQ1 HQ2 hh'
            go_wp2_with fail
            refine KR.out.mono ?_
            rintro e w5 ⟨rfl, b5⟩
            have HI5 := Lib.hid (HI.out.call b5)
            clear b5 HI c0 c1 c2 c3 c4 KR HROW
            obtain ⟨d0, d1, d2, d3, d4⟩ := HI5.out.z.cells
            have qf0 := HI5.out.z.frozen 0
            have qf1 := HI5.out.z.frozen 1
            have qf2 := HI5.out.z.frozen 2
            have qf3 := HI5.out.z.frozen 3
            have qf4 := HI5.out.z.frozen 4
            have lz := HI5.out.z.lt
            have HB5 := Lib.hid HI5.out.b
            go_wp2_with fail
            have B5 := HB5.out
            exact bodyPost_ret (v := .tuple #[fldV 0 0 0 0 none 0 0, .int .i64 3]) (by simp [results, Try.results25, go_sem, *]) rfl (HQ.out _ (by have hszz := B5.size; repeat (first | with_reducible exact B5 | with_reducible apply Below.drew | with_reducible refine below_drewN ?_ _ | (with_reducible refine Below.setCell ?_ ?_ _; rotate_left; focus (first | omega | (simp <;> omega))) | (with_reducible refine Below.alloc ?_ ?_ _; rotate_left; focus (first | omega | (simp <;> omega))))))
  · rw [if_pos he]
    have hb' : (edsE L != 0) = true := by rw [bne_iff_ne]; exact he
    have HQ := Lib.hid (fun e w' h1 h2 => OpP.err (X := (curF L X Y Wn Hn (cur0 X Y Wn l) L.length).X) (Y := (curF L X Y Wn Hn (cur0 X Y Wn l) L.length).Y) (W := (curF L X Y Wn Hn (cur0 X Y Wn l) L.length).W) (H := (curF L X Y Wn Hn (cur0 X Y Wn l) L.length).H) (m := (curF L X Y Wn Hn (cur0 X Y Wn l) L.length).l) (w := w) (e := e) (w' := w') he h1 h2)
    generalize curF L X Y Wn Hn (cur0 X Y Wn l) L.length = u at *
    generalize edsE L = q at *
    clear hr hl hE he
    go_enter Try.func25, Try.ntmps25
    go_wp2_with fail
    generalize hW0 : (w.alloc (.cells #[.int .i64 X, .int .i64 Y, .int .i64 Wn, .int .i64 Hn, .slice (some ⟨g, 0, none⟩) l.length cap] 26)).alloc (.cells #[.int .i64 0, .int .i64 0, .int .i64 0, .int .i64 0, .slice none 0 0] 26) = W0 at *
    obtain ⟨E0, F0, B0, z0⟩ := two_fields w X Y Wn Hn (.slice (some ⟨g, 0, none⟩) l.length cap) W0 hW0.symm
    clear hW0
    refine (K.out _ (HL.out.below B0)).mono ?_
    rintro e w1 ⟨rfl, b1⟩
    have HX1 := Lib.hid (E0.below b1 E0.lt)
    have HF1 := Lib.hid (F0.below b1 F0.lt)
    have HB1 := Lib.hid (B0.trans (b1.mono B0.size))
    clear b1 E0 F0 B0 z0
    go_wp2_with fail
    refine (KC.out _ (HE.out.below HB1.out)).mono ?_
    rintro e w2 ⟨rfl, b2⟩
    have HX2 := Lib.hid (HX1.out.below b2 HX1.out.lt)
    have HF2 := Lib.hid (HF1.out.below b2 HF1.out.lt)
    have HB2 := Lib.hid (HB1.out.trans (b2.mono HB1.out.size))
    clear b2 HF1 HB1 HX1
    obtain ⟨d0, d1, d2, d3, d4⟩ := HF2.out.cells
    have qf0 := HF2.out.frozen 0
    have qf1 := HF2.out.frozen 1
    have qf2 := HF2.out.frozen 2
    have qf3 := HF2.out.frozen 3
    have qf4 := HF2.out.frozen 4
    have lz := HF2.out.lt
    go_wp2_with fail
    have B2 := HB2.out
    exact bodyPost_ret (v := .tuple #[fldV 0 0 0 0 none 0 0, .int .i64 q]) (by simp [results, Try.results25, go_sem, *]) rfl (HQ.out _ _ rfl (by have hszz := B2.size; repeat (first | with_reducible exact B2 | with_reducible apply Below.drew | with_reducible refine below_drewN ?_ _ | (with_reducible refine Below.setCell ?_ ?_ _; rotate_left; focus (first | omega | (simp <;> omega))) | (with_reducible refine Below.alloc ?_ ?_ _; rotate_left; focus (first | omega | (simp <;> omega))))))
end Go.Proofs.Ytfmbekdfigbfiaa

namespace Go.Proofs.Ytfmbekdfigbfiaa
open Go.ChangeShapes Go.WideShapes Go.ChangeAt Go.RowKit
open Ieee.Format (fin finE htE allFin allHt all_true all_false mulF subF addF Ht Bd divF rootF floorF easeF mixF)
set_option linter.unusedVariables false

set_option maxRecDepth 100000 in
theorem truth_any (b : Bool) (w : World) : Calls Try.prog 158 #[.bool b] w fun e w' => e = .returned (.int .i64 (if b = true then 1 else 0)) ∧ w = w' := by
  cases b
  · go_enter Try.func158, Try.ntmps158
    go_wp2
    go_ret
    exact ⟨rfl, rfl⟩
  · go_enter Try.func158, Try.ntmps158
    go_wp2
    go_ret
    exact ⟨rfl, rfl⟩
set_option maxRecDepth 100000 in
theorem refsoftens_any (L : List Ed) (a : Option Addr) (cap : Nat) (w : World) (hr : EdRow w a L) (hn : L.length ≤ 1000) :
    Calls Try.prog 89 #[.slice a L.length cap] w fun en w' => en = .returned (.int .i64 (softN L : Int)) ∧ Below w.heap.size w w' := by
  obtain ⟨_, hr⟩ := hr
  have HA : ∀ k, k < L.length → ∃ b o, a = some ⟨b, o, none⟩ ∧ b < w.heap.size ∧ EdCells w b o L := fun k hk => by
    rcases hr with h | h
    · rw [h] at hk; exact absurd hk (by simp)
    · exact h
  have HS := Lib.hid (fun k => softN_le (L.take k))
  have HE : Hid (softN (L.take L.length) = softN L) := Lib.hid (by rw [List.take_length])
  have HA' := Lib.hid HA
  have KT1 := Lib.hid (fun w => truth_any true w)
  have KT0 := Lib.hid (fun w => truth_any false w)
  simp only [if_true, Bool.false_eq_true, if_false] at KT1 KT0
  clear hr HA
  go_enter Try.func89, Try.ntmps89
  go_upto_region 3 with fail
  go_loopw [3, 8] (fun av iv wr => ∃ k : Nat, k ≤ L.length ∧ iv = .int .i64 (k : Int) ∧ av = .int .i64 (softN (L.take k) : Int) ∧ Below w.heap.size w wr) (fun _ iv _ => L.length - (intOf iv).toNat)
  case atStart => exact ⟨0, by omega, rfl, rfl, Below.refl _ _⟩
  case round =>
    obtain ⟨k, hk, rfl, rfl, hb⟩ := hrel
    have HB := Lib.hid hb
    have hs0 := HS.out k
    rw [List.length_take] at hs0
    by_cases hlt : k < L.length
    · obtain ⟨b, o, rfl, hlb, hc⟩ := HA'.out k hlt
      have hi' : (k : Int) < (L.length : Int) := by omega
      obtain ⟨c0, c1, c2, c3, c4, c5, c6⟩ := (hc.below HB.out hlb).seven hlt
      have hst := softN_take hlt
      unfold softB at hst
      generalize hQ : softN (L.take (k + 1)) = q1 at *
      generalize softN (L.take k) = q0 at *
      generalize edAt L k = e at *
      obtain ⟨kd, bk, BX, BY, R, h, t⟩ := e
      simp only at *
      have HBN := Lib.hid (fun (W : World) (h : Below w.heap.size w W) => show ∃ k_1 : Nat, k_1 ≤ L.length ∧ Value.int .i64 ((k : Int) + 1) = .int .i64 (k_1 : Int) ∧ Value.int .i64 (q1 : Int) = .int .i64 (softN (L.take k_1) : Int) ∧ Below w.heap.size w W from ⟨k + 1, by omega, by congr 1, by rw [hQ], h⟩)
      clear hQ hb hc
      by_cases h3 : kd = 3
      · rw [if_pos h3] at hst
        subst h3
        have e1 : IntKind.i64.wrap ((q0 : Int) + 1) = (q1 : Int) := by rw [IntWalk.i64_in _ (by omega)]; omega
        have e2 : wrap64 ((q0 : Int) + 1) = (q1 : Int) := by unfold wrap64; omega
        have e3 : (q0 : Int) + 1 = (q1 : Int) := by omega
        clear hst
        go_wp2_with (go_at_call 158; refine (KT1.out _).mono ?_; rintro e2 w2 ⟨rfl, rfl⟩)
        go_roundw
        case rel => exact HBN.out _ (by have h := HB.out; exact (by have hszz := h.size; repeat (first | with_reducible exact h | with_reducible apply Below.drew | with_reducible refine below_drewN ?_ _ | (with_reducible refine Below.setCell ?_ ?_ _; rotate_left; focus (first | omega | (simp <;> omega))) | (with_reducible refine Below.alloc ?_ ?_ _; rotate_left; focus (first | omega | (simp <;> omega))))))
        case measure => simp [intOf]; omega
      · rw [if_neg h3] at hst
        obtain rfl : q1 = q0 := by omega
        have hb3 : (kd == 3) = false := by simpa using h3
        clear hst
        go_wp2_with (go_at_call 158; refine (KT0.out _).mono ?_; rintro e2 w2 ⟨rfl, rfl⟩)
        go_roundw
        case rel => exact HBN.out _ (by have h := HB.out; exact (by have hszz := h.size; repeat (first | with_reducible exact h | with_reducible apply Below.drew | with_reducible refine below_drewN ?_ _ | (with_reducible refine Below.setCell ?_ ?_ _; rotate_left; focus (first | omega | (simp <;> omega))) | (with_reducible refine Below.alloc ?_ ?_ _; rotate_left; focus (first | omega | (simp <;> omega))))))
        case measure => simp [intOf]; omega
    · obtain rfl : k = L.length := by omega
      rw [HE.out] at *
      go_wp2_with fail
      go_ret
      exact ⟨rfl, hb⟩

theorem OwnF.grown {w w' : World} {B g cap : Nat} {l : List Nat} {row : Option Nat} (h : OwnF w B g cap l) (hg : w.grownBy w' row) (hne : some g ≠ row) : OwnF w' B g cap l := by
  have hlt := h.lt.2
  refine ⟨⟨h.1.1, ?_⟩, h.2⟩
  rcases h.1.2 with h2 | ⟨g', cap', cur, hv, hB, hh, r⟩
  · exact .inl h2
  · have : g' = g := by simp at hv; exact hv.1.symm
    subst this
    exact .inr ⟨g', cap', cur, hv, hB, (hg.block g' hlt hne).trans hh, r⟩
theorem Blk.grown {w w' : World} {k : Nat} {cs : Array Value} {t : TypeId} {row : Option Nat} (h : Blk w k cs t) (hb : w.grownBy w' row) (hg : some k ≠ row) : Blk w' k cs t := (hb.block k h.lt hg).trans h
/-- the memory of the reference's Apply behind some edits -/
structure RoInv (w wr : World) (B : Nat) (u : Lv) (gk ck : Nat) : Prop where
  a : Fld wr w.heap.size u.X u.Y u.W u.H (.slice (some ⟨gk, 0, none⟩) u.l.length ck)
  o : OwnF wr B gk ck u.l
  z : Fld wr (w.heap.size + 1) 0 0 0 0 (.slice none 0 0)
  n1 : gk ≠ w.heap.size
  n2 : gk ≠ w.heap.size + 1
  b : Below w.heap.size w wr
section
variable {w wr w2 w3 : World} {B : Nat} {u : Lv} {gk ck : Nat}
theorem RoInv.call (h : RoInv w wr B u gk ck) (hb : Below wr.heap.size wr w2) : RoInv w w2 B u gk ck :=
  ⟨h.a.below hb h.a.lt, h.o.below hb h.o.lt.2, h.z.below hb h.z.lt, h.n1, h.n2, h.b.trans (hb.mono h.b.size)⟩
theorem RoInv.alloc (h : RoInv w wr B u gk ck) (o : Obj) : RoInv w (wr.alloc o) B u gk ck := h.call ((Below.refl _ _).alloc (Nat.le_refl _) _)
theorem RoInv.drew (h : RoInv w wr B u gk ck) : RoInv w wr.drew B u gk ck := ⟨h.a.drew, h.o.drew, h.z.drew, h.n1, h.n2, h.b.drew⟩
theorem RoInv.set (h : RoInv w wr B u gk ck) {p : Addr} (v : Value) (hp : w.heap.size + 1 < p.block) (hg : gk ≠ p.block) : RoInv w (wr.setCell p v) B u gk ck :=
  ⟨h.a.setCell (by omega) _, h.o.setCell hg _, h.z.setCell (by omega) _, h.n1, h.n2, h.b.setCell (by omega) _⟩
theorem RoInv.grown {row : Option Nat} {o : Obj} (h : RoInv w w2 B u gk ck) (hg : (w2.alloc o).grownBy w3 row) (h1 : ∀ k, row = some k → w.heap.size + 1 < k) (h2 : some gk ≠ row) : RoInv w w3 B u gk ck := by
  have hne : ∀ k, k ≤ w.heap.size + 1 → some k ≠ row := fun k hk e => by have := h1 k e.symm; omega
  have hA := h.alloc o
  refine ⟨hA.a.grown hg (hne _ (by omega)), hA.o.grown hg h2, hA.z.grown hg (hne _ (by omega)), h.n1, h.n2, ?_⟩
  have hz := hA.b.size
  exact hA.b.grown hg hz (fun k hk => by have := h1 k hk; omega)
end
/-- the same, within one edit -/
structure RiInv (w wr : World) (B : Nat) (u : Lv) (gk ck ke kr kn : Nat) (e : Ed) (X' Y' W' H' : Int) (sl : Value) (m : List Nat) : Prop where
  r : RoInv w wr B u gk ck
  pe : Blk wr ke (edC e) 68
  rg : Reg wr kr X' Y' W' H'
  fo : Fld wr kn X' Y' W' H' sl
  own : wr.ownsRow (kn + 1) 27 1 sl m.length (fls m)
  wf : ∀ x ∈ m, x < 4294967296
  gn : gk < kn
  ek : w.heap.size + 1 < ke
  er : ke < kr
  rn : kr < kn
section
variable {w wr w2 w3 : World} {B : Nat} {u : Lv} {gk ck ke kr kn : Nat} {e : Ed} {X' Y' W' H' : Int} {sl : Value} {m : List Nat}
theorem RiInv.call (h : RiInv w wr B u gk ck ke kr kn e X' Y' W' H' sl m) (hb : Below wr.heap.size wr w2) : RiInv w w2 B u gk ck ke kr kn e X' Y' W' H' sl m :=
  ⟨h.r.call hb, h.pe.below hb h.pe.lt, h.rg.below hb h.rg.lt, h.fo.below hb h.fo.lt, ownsRow_below h.own hb (fun k hk => (h.own.lt k hk).2), h.wf, h.gn, h.ek, h.er, h.rn⟩
theorem RiInv.drew (h : RiInv w wr B u gk ck ke kr kn e X' Y' W' H' sl m) : RiInv w wr.drew B u gk ck ke kr kn e X' Y' W' H' sl m :=
  ⟨h.r.drew, h.pe.drew, h.rg.drew, h.fo.drew, h.own, h.wf, h.gn, h.ek, h.er, h.rn⟩
theorem RiInv.mid {o : Obj} (h : RiInv w w2 B u gk ck ke kr kn e X' Y' W' H' sl m) (hg : (w2.alloc o).grownBy w3 sl.ownBlock) :
    RoInv w w3 B u gk ck ∧ Blk w3 ke (edC e) 68 ∧ Reg w3 kr X' Y' W' H' ∧ Fld w3 kn X' Y' W' H' sl := by
  have hne : ∀ k, k < kn + 1 → some k ≠ sl.ownBlock := fun k hk e => by
    have := (h.own.lt k e.symm).1; omega
  have a := h.ek; have b := h.er; have c := h.rn; have d := h.gn
  refine ⟨h.r.grown hg (fun k hk => by have := (h.own.lt k hk).1; omega) (hne _ (by omega)), (h.pe.alloc o).grown hg (hne _ (by omega)), (h.rg.alloc o).grown hg (hne _ (by omega)), (h.fo.alloc o).grown hg (hne _ (by omega))⟩
theorem RiInv.app {o : Obj} (h : RiInv w w2 B u gk ck ke kr kn e X' Y' W' H' sl m) {y g cap : Nat} (hy : y < 4294967296)
    (hown : w3.ownsRow (kn + 1) 27 1 (.slice (some ⟨g, 0, none⟩) (m.length + 1) cap) (m.length + 1) (fls m ++ [.float .f32 y])) (hg : (w2.alloc o).grownBy w3 sl.ownBlock) :
    RiInv w (w3.setCell ⟨kn, 4, none⟩ (.slice (some ⟨g, 0, none⟩) (m.length + 1) cap)) B u gk ck ke kr kn e X' Y' W' H' (.slice (some ⟨g, 0, none⟩) (m.length + 1) cap) (m ++ [y]) := by
  obtain ⟨a, b, c, d⟩ := h.mid hg
  have hgl := (hown.lt g rfl).1
  have p1 := h.ek; have p2 := h.er; have p3 := h.rn; have p4 := h.gn
  refine ⟨a.set _ (by show w.heap.size + 1 < kn; omega) (by show gk ≠ kn; omega), b.setCell (by show ke ≠ kn; omega) _, c.setCell (by show kr ≠ kn; omega) _, d.set4 _, ?_, ?_, p4, p1, p2, p3⟩
  · have e : fls (m ++ [y]) = fls m ++ [.float .f32 y] := by unfold fls; simp
    have e2 : (m ++ [y]).length = m.length + 1 := by simp
    rw [e, e2]
    refine ⟨hown.1, ?_⟩
    rcases hown.2 with h2 | ⟨g', cap', cur, hv, hB, hh, r⟩
    · exact .inl h2
    · have : g' = g := by simp at hv; exact hv.1.symm
      subst this
      exact .inr ⟨g', cap', cur, hv, hB, (Below.heap_setCell w3 _ _ g' (by show g' ≠ kn; omega)).trans hh, r⟩
  · intro x hx
    rcases List.mem_append.1 hx with hx | hx
    · exact h.wf x hx
    · have : x = y := by simpa using hx
      rw [this]; exact hy
/-- the next field is made: it is stored -/
theorem RiInv.store (h : RiInv w wr B u gk ck ke kr kn e X' Y' W' H' sl m) (hB : B ≤ w.heap.size) (hm : 0 < m.length) (v : Lv) (hv : v.X = X' ∧ v.Y = Y' ∧ (v.W : Int) = W' ∧ (v.H : Int) = H' ∧ v.l = m) :
    ∃ g c, sl = .slice (some ⟨g, 0, none⟩) m.length c ∧ ∀ W5, W5 = ((((wr.setCell ⟨w.heap.size, 0, none⟩ (.int .i64 X')).setCell ⟨w.heap.size, 1, none⟩ (.int .i64 Y')).setCell ⟨w.heap.size, 2, none⟩ (.int .i64 W')).setCell ⟨w.heap.size, 3, none⟩ (.int .i64 H')).setCell ⟨w.heap.size, 4, none⟩ (.slice (some ⟨g, 0, none⟩) m.length c) → RoInv w W5 B v g c := by
  obtain ⟨rfl, rfl, rfl, rfl, rfl⟩ := hv
  rcases h.own.2 with ⟨_, h0⟩ | ⟨g, cap, cur, rfl, hb, hh, rr⟩
  · omega
  refine ⟨g, cap, rfl, fun W5 hW5 => ?_⟩
  have ho : OwnF wr (kn + 1) g cap v.l := ⟨h.own, h.wf⟩
  obtain ⟨h5, bb5, oo5, ff5, _⟩ := fld_store wr w.heap.size _ _ _ _ _ v.X v.Y v.W v.H (.slice (some ⟨g, 0, none⟩) v.l.length cap) h.r.a W5 hW5
  have p1 := h.ek; have p2 := h.er; have p3 := h.rn
  have hgl := ho.lt.1
  exact ⟨h5, (oo5 _ _ _ _ ho (by omega)).base (by omega), ff5 _ _ _ _ _ _ h.r.z (by omega), by omega, by omega, h.r.b.trans bb5⟩
end
end Go.Proofs.Ytfmbekdfigbfiaa
