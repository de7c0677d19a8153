import Derived.Test.YtiiogjjjgoeghaaG06
import Derived.IntWalk
import Derived.BigQuiet
import Derived.Deep.QuietTactic
namespace Go.Proofs.Ytiiogjjjgoeghaa
open Go.ChangeShapes Go.WideShapes Go.ChangeAt Go.RowKit
open Ieee.Format (fin finE htE allFin allHt all_true all_false mulF subF addF Ht Bd divF rootF floorF easeF mixF)
set_option linter.unusedVariables false
set_option linter.unusedSimpArgs false
open Ieee.Format (num num_lt num_gt num_eq num_zero grF lsF grF_num lsF_num Ry Bx crI crO crB cr_num cr_tm hgF hg_bd hg_mono stF subF divF bits_sub bits_div fin_num rat_tri quo_num)

/-- when a ray strikes, as the program tells it -/
def stA (o : Option Nat) : Value := .tuple #[.float .f32 (o.getD 0), .bool o.isSome]
theorem le_word {x y : Nat} (hx : num x) (hy : num y) : (Ieee.single.V x ≤ Ieee.single.V y → ((FloatKind.f32.format.order x y == some .lt) = true ∨ ((FloatKind.f32.format.order x y == some .lt) = false ∧ (FloatKind.f32.format.order x y == some .eq) = true))) ∧ (¬ Ieee.single.V x ≤ Ieee.single.V y → (FloatKind.f32.format.order x y == some .lt) = false ∧ (FloatKind.f32.format.order x y == some .eq) = false) := by
  rw [oL hx hy, oE hx hy]
  constructor
  · intro h
    rcases rat_tri (Ieee.single.V x) (Ieee.single.V y) with c | c | c
    · exact .inl (decide_eq_true c)
    · exact .inr ⟨decide_eq_false (by grind), decide_eq_true c⟩
    · grind
  · intro h
    exact ⟨decide_eq_false (by grind), decide_eq_false (by grind)⟩
set_option maxRecDepth 100000 in
set_option maxHeartbeats 1000000 in
theorem strikes_any (r : Ry) (c : Bx) (v : Nat) (w : World) (hr : r.ok) (hc : c.ok) (hv : Ht v) :
    Calls Try.prog 22 #[rayV r, bxV c, .float .f32 v] w fun e w' => e = .returned (stA (stF r c v)) ∧ Below w.heap.size w w' := by
  have KC := Lib.hid (fun w => crossing_any r c w hr hc)
  by_cases hb : crB r c
  · obtain ⟨t1, t2⟩ := cr_tm hr hc hb
    have KI := Lib.hid (fun w => rheight_any r (crI r c) w hr t1)
    have hi := (hg_bd hr t1).2.1
    have l1 := le_word (fin_num hi) (fin_num hv.fin)
    by_cases q1 : Ieee.single.V (hgF r (crI r c)) ≤ Ieee.single.V v
    · have e : stF r c v = some (crI r c) := by unfold stF; rw [if_neg (by simpa using hb), if_pos q1]
      rw [decide_eq_true hb] at KC
      have d1 := l1.1 q1
      rw [e]
      clear l1 q1 e hi t1 t2 hb hv hr hc
      unfold stA
      generalize crI r c = I at *
      generalize crO r c = O at *
      generalize hgF r I = h1 at *
      rcases d1 with d1 | ⟨d1, d2⟩
      · go_enter Try.func22, Try.ntmps22
        go_upto_region 1 with fail
        have b0 : Below w.heap.size w ((w.alloc (.cells #[.float .f32 r.X, .float .f32 r.Y, .float .f32 r.H, .float .f32 r.DX, .float .f32 r.DY, .float .f32 r.DH, .float .f32 r.Mo] 29)).alloc (.cells #[.int .i64 c.x, .int .i64 c.y, .int .i64 (c.x2 - c.x), .int .i64 (c.y2 - c.y)] 23)) := (by repeat (first | with_reducible exact Below.refl _ _ | with_reducible apply Below.drew | with_reducible refine below_drewN ?_ _ | (with_reducible refine Below.setCell ?_ ?_ _; rotate_left; focus (first | omega | (simp <;> omega))) | (with_reducible refine Below.alloc ?_ ?_ _; rotate_left; focus (first | omega | (simp <;> omega)))))
        have R0 := (Blk.new w #[.float .f32 r.X, .float .f32 r.Y, .float .f32 r.H, .float .f32 r.DX, .float .f32 r.DY, .float .f32 r.DH, .float .f32 r.Mo] 29).alloc (.cells #[.int .i64 c.x, .int .i64 c.y, .int .i64 (c.x2 - c.x), .int .i64 (c.y2 - c.y)] 23)
        have C0 := Reg.new (w.alloc (.cells #[.float .f32 r.X, .float .f32 r.Y, .float .f32 r.H, .float .f32 r.DX, .float .f32 r.DY, .float .f32 r.DH, .float .f32 r.Mo] 29)) c.x c.y (c.x2 - c.x) (c.y2 - c.y)
        rw [show (w.alloc (.cells #[.float .f32 r.X, .float .f32 r.Y, .float .f32 r.H, .float .f32 r.DX, .float .f32 r.DY, .float .f32 r.DH, .float .f32 r.Mo] 29)).heap.size = w.heap.size + 1 from by simp] at C0
        generalize (w.alloc (.cells #[.float .f32 r.X, .float .f32 r.Y, .float .f32 r.H, .float .f32 r.DX, .float .f32 r.DY, .float .f32 r.DH, .float .f32 r.Mo] 29)).alloc (.cells #[.int .i64 c.x, .int .i64 c.y, .int .i64 (c.x2 - c.x), .int .i64 (c.y2 - c.y)] 23) = W0 at *
        have p0 : W0.cell? ⟨w.heap.size, 0, none⟩ = some (.float .f32 r.X) := R0.cell 0
        have p1 : W0.cell? ⟨w.heap.size, 1, none⟩ = some (.float .f32 r.Y) := R0.cell 1
        have p2 : W0.cell? ⟨w.heap.size, 2, none⟩ = some (.float .f32 r.H) := R0.cell 2
        have p3 : W0.cell? ⟨w.heap.size, 3, none⟩ = some (.float .f32 r.DX) := R0.cell 3
        have p4 : W0.cell? ⟨w.heap.size, 4, none⟩ = some (.float .f32 r.DY) := R0.cell 4
        have p5 : W0.cell? ⟨w.heap.size, 5, none⟩ = some (.float .f32 r.DH) := R0.cell 5
        have p6 : W0.cell? ⟨w.heap.size, 6, none⟩ = some (.float .f32 r.Mo) := R0.cell 6
        have lr := R0.lt
        obtain ⟨s0, s1, s2, s3⟩ := C0.cells
        have ls := C0.lt
        go_wp2_with fail
        refine (KC.out _).mono ?_
        rintro e w1 ⟨rfl, b1⟩
        have HB1 := Lib.hid (b0.trans (b1.mono b0.size))
        have HR1 := Lib.hid (R0.below b1 R0.lt)
        clear b0 b1 R0 C0 p0 p1 p2 p3 p4 p5 p6 lr s0 s1 s2 s3 ls KC
        have p0 : w1.cell? ⟨w.heap.size, 0, none⟩ = some (.float .f32 r.X) := HR1.out.cell 0
        have p1 : w1.cell? ⟨w.heap.size, 1, none⟩ = some (.float .f32 r.Y) := HR1.out.cell 1
        have p2 : w1.cell? ⟨w.heap.size, 2, none⟩ = some (.float .f32 r.H) := HR1.out.cell 2
        have p3 : w1.cell? ⟨w.heap.size, 3, none⟩ = some (.float .f32 r.DX) := HR1.out.cell 3
        have p4 : w1.cell? ⟨w.heap.size, 4, none⟩ = some (.float .f32 r.DY) := HR1.out.cell 4
        have p5 : w1.cell? ⟨w.heap.size, 5, none⟩ = some (.float .f32 r.DH) := HR1.out.cell 5
        have p6 : w1.cell? ⟨w.heap.size, 6, none⟩ = some (.float .f32 r.Mo) := HR1.out.cell 6
        have lr := HR1.out.lt
        go_wp2_with fail
        refine (KI.out _).mono ?_
        rintro e w2 ⟨rfl, b2⟩
        have HB2 := Lib.hid (HB1.out.trans (b2.mono HB1.out.size))
        have HR2 := Lib.hid (HR1.out.below b2 HR1.out.lt)
        clear p0 p1 p2 p3 p4 p5 p6 lr
        clear b2 KI HB1 HR1
        have p0 : w2.cell? ⟨w.heap.size, 0, none⟩ = some (.float .f32 r.X) := HR2.out.cell 0
        have p1 : w2.cell? ⟨w.heap.size, 1, none⟩ = some (.float .f32 r.Y) := HR2.out.cell 1
        have p2 : w2.cell? ⟨w.heap.size, 2, none⟩ = some (.float .f32 r.H) := HR2.out.cell 2
        have p3 : w2.cell? ⟨w.heap.size, 3, none⟩ = some (.float .f32 r.DX) := HR2.out.cell 3
        have p4 : w2.cell? ⟨w.heap.size, 4, none⟩ = some (.float .f32 r.DY) := HR2.out.cell 4
        have p5 : w2.cell? ⟨w.heap.size, 5, none⟩ = some (.float .f32 r.DH) := HR2.out.cell 5
        have p6 : w2.cell? ⟨w.heap.size, 6, none⟩ = some (.float .f32 r.Mo) := HR2.out.cell 6
        have lr := HR2.out.lt
        go_wp2_with fail
        exact bodyPost_ret (v := .tuple #[.float .f32 (I), .bool true]) (by simp [results, Try.results22, go_sem, *]) rfl ⟨rfl, by have hb := HB2.out; exact (by have hszz := hb.size; repeat (first | with_reducible exact hb | with_reducible apply Below.drew | with_reducible refine below_drewN ?_ _ | (with_reducible refine Below.setCell ?_ ?_ _; rotate_left; focus (first | omega | (simp <;> omega))) | (with_reducible refine Below.alloc ?_ ?_ _; rotate_left; focus (first | omega | (simp <;> omega)))))⟩
      · go_enter Try.func22, Try.ntmps22
        go_upto_region 1 with fail
        have b0 : Below w.heap.size w ((w.alloc (.cells #[.float .f32 r.X, .float .f32 r.Y, .float .f32 r.H, .float .f32 r.DX, .float .f32 r.DY, .float .f32 r.DH, .float .f32 r.Mo] 29)).alloc (.cells #[.int .i64 c.x, .int .i64 c.y, .int .i64 (c.x2 - c.x), .int .i64 (c.y2 - c.y)] 23)) := (by repeat (first | with_reducible exact Below.refl _ _ | with_reducible apply Below.drew | with_reducible refine below_drewN ?_ _ | (with_reducible refine Below.setCell ?_ ?_ _; rotate_left; focus (first | omega | (simp <;> omega))) | (with_reducible refine Below.alloc ?_ ?_ _; rotate_left; focus (first | omega | (simp <;> omega)))))
        have R0 := (Blk.new w #[.float .f32 r.X, .float .f32 r.Y, .float .f32 r.H, .float .f32 r.DX, .float .f32 r.DY, .float .f32 r.DH, .float .f32 r.Mo] 29).alloc (.cells #[.int .i64 c.x, .int .i64 c.y, .int .i64 (c.x2 - c.x), .int .i64 (c.y2 - c.y)] 23)
        have C0 := Reg.new (w.alloc (.cells #[.float .f32 r.X, .float .f32 r.Y, .float .f32 r.H, .float .f32 r.DX, .float .f32 r.DY, .float .f32 r.DH, .float .f32 r.Mo] 29)) c.x c.y (c.x2 - c.x) (c.y2 - c.y)
        rw [show (w.alloc (.cells #[.float .f32 r.X, .float .f32 r.Y, .float .f32 r.H, .float .f32 r.DX, .float .f32 r.DY, .float .f32 r.DH, .float .f32 r.Mo] 29)).heap.size = w.heap.size + 1 from by simp] at C0
        generalize (w.alloc (.cells #[.float .f32 r.X, .float .f32 r.Y, .float .f32 r.H, .float .f32 r.DX, .float .f32 r.DY, .float .f32 r.DH, .float .f32 r.Mo] 29)).alloc (.cells #[.int .i64 c.x, .int .i64 c.y, .int .i64 (c.x2 - c.x), .int .i64 (c.y2 - c.y)] 23) = W0 at *
        have p0 : W0.cell? ⟨w.heap.size, 0, none⟩ = some (.float .f32 r.X) := R0.cell 0
        have p1 : W0.cell? ⟨w.heap.size, 1, none⟩ = some (.float .f32 r.Y) := R0.cell 1
        have p2 : W0.cell? ⟨w.heap.size, 2, none⟩ = some (.float .f32 r.H) := R0.cell 2
        have p3 : W0.cell? ⟨w.heap.size, 3, none⟩ = some (.float .f32 r.DX) := R0.cell 3
        have p4 : W0.cell? ⟨w.heap.size, 4, none⟩ = some (.float .f32 r.DY) := R0.cell 4
        have p5 : W0.cell? ⟨w.heap.size, 5, none⟩ = some (.float .f32 r.DH) := R0.cell 5
        have p6 : W0.cell? ⟨w.heap.size, 6, none⟩ = some (.float .f32 r.Mo) := R0.cell 6
        have lr := R0.lt
        obtain ⟨s0, s1, s2, s3⟩ := C0.cells
        have ls := C0.lt
        go_wp2_with fail
        refine (KC.out _).mono ?_
        rintro e w1 ⟨rfl, b1⟩
        have HB1 := Lib.hid (b0.trans (b1.mono b0.size))
        have HR1 := Lib.hid (R0.below b1 R0.lt)
        clear b0 b1 R0 C0 p0 p1 p2 p3 p4 p5 p6 lr s0 s1 s2 s3 ls KC
        have p0 : w1.cell? ⟨w.heap.size, 0, none⟩ = some (.float .f32 r.X) := HR1.out.cell 0
        have p1 : w1.cell? ⟨w.heap.size, 1, none⟩ = some (.float .f32 r.Y) := HR1.out.cell 1
        have p2 : w1.cell? ⟨w.heap.size, 2, none⟩ = some (.float .f32 r.H) := HR1.out.cell 2
        have p3 : w1.cell? ⟨w.heap.size, 3, none⟩ = some (.float .f32 r.DX) := HR1.out.cell 3
        have p4 : w1.cell? ⟨w.heap.size, 4, none⟩ = some (.float .f32 r.DY) := HR1.out.cell 4
        have p5 : w1.cell? ⟨w.heap.size, 5, none⟩ = some (.float .f32 r.DH) := HR1.out.cell 5
        have p6 : w1.cell? ⟨w.heap.size, 6, none⟩ = some (.float .f32 r.Mo) := HR1.out.cell 6
        have lr := HR1.out.lt
        go_wp2_with fail
        refine (KI.out _).mono ?_
        rintro e w2 ⟨rfl, b2⟩
        have HB2 := Lib.hid (HB1.out.trans (b2.mono HB1.out.size))
        have HR2 := Lib.hid (HR1.out.below b2 HR1.out.lt)
        clear p0 p1 p2 p3 p4 p5 p6 lr
        clear b2 KI HB1 HR1
        have p0 : w2.cell? ⟨w.heap.size, 0, none⟩ = some (.float .f32 r.X) := HR2.out.cell 0
        have p1 : w2.cell? ⟨w.heap.size, 1, none⟩ = some (.float .f32 r.Y) := HR2.out.cell 1
        have p2 : w2.cell? ⟨w.heap.size, 2, none⟩ = some (.float .f32 r.H) := HR2.out.cell 2
        have p3 : w2.cell? ⟨w.heap.size, 3, none⟩ = some (.float .f32 r.DX) := HR2.out.cell 3
        have p4 : w2.cell? ⟨w.heap.size, 4, none⟩ = some (.float .f32 r.DY) := HR2.out.cell 4
        have p5 : w2.cell? ⟨w.heap.size, 5, none⟩ = some (.float .f32 r.DH) := HR2.out.cell 5
        have p6 : w2.cell? ⟨w.heap.size, 6, none⟩ = some (.float .f32 r.Mo) := HR2.out.cell 6
        have lr := HR2.out.lt
        go_wp2_with fail
        exact bodyPost_ret (v := .tuple #[.float .f32 (I), .bool true]) (by simp [results, Try.results22, go_sem, *]) rfl ⟨rfl, by have hb := HB2.out; exact (by have hszz := hb.size; repeat (first | with_reducible exact hb | with_reducible apply Below.drew | with_reducible refine below_drewN ?_ _ | (with_reducible refine Below.setCell ?_ ?_ _; rotate_left; focus (first | omega | (simp <;> omega))) | (with_reducible refine Below.alloc ?_ ?_ _; rotate_left; focus (first | omega | (simp <;> omega)))))⟩
    · have d1 := l1.2 q1
      have KO := Lib.hid (fun w => rheight_any r (crO r c) w hr t2)
      have ho := (hg_bd hr t2).2.1
      have l2 := le_word (fin_num ho) (fin_num hv.fin)
      rw [decide_eq_true hb] at KC
      by_cases q2 : Ieee.single.V (hgF r (crO r c)) ≤ Ieee.single.V v
      · have e : stF r c v = some (lsF (grF (divF (subF v r.H) r.DH) (crI r c)) (crO r c)) := by unfold stF; rw [if_neg (by simpa using hb), if_neg q1, if_pos q2]
        have d2 := l2.1 q2
        have hD : Ieee.single.V r.DH ≠ 0 := fun h0 => by
          have := (hg_mono hr t1 t2 hb.2.2).2 (by rw [h0]; exact Rat.le_refl)
          have := (hg_mono hr t1 t2 hb.2.2).1 (by rw [h0]; exact Rat.le_refl)
          grind
        have k1 := fun w' => run_float_arith (P := Try.prog) w' .sub 27 .f32 _ _ _ (bits_sub hv.fin hr.h.fin)
        have fs := (hv.bd.sub hr.h.bd (by omega)).1
        have k2 := fun w' => run_float_arith (P := Try.prog) w' .quo 27 .f32 _ _ _ (bits_div fs hr.dh.fin hD)
        have nq := quo_num fs hr.dh.fin hD
        have KG := Lib.hid (fun w => greater_any _ _ w nq t1.n)
        have KL := Lib.hid (fun w => lesser_any _ _ w (grF_num nq t1.n) t2.n)
        rw [e]
        clear l1 l2 q1 q2 e hi ho t1 t2 hb hv hr hc hD fs nq
        unfold stA
        generalize crI r c = I at *
        generalize crO r c = O at *
        generalize hgF r I = h1 at *
        generalize hgF r O = h2 at *
        obtain ⟨d1, d1'⟩ := d1
        rcases d2 with d2 | ⟨d2, d2'⟩
        all_goals
          go_enter Try.func22, Try.ntmps22
          go_upto_region 1 with fail
          have b0 : Below w.heap.size w ((w.alloc (.cells #[.float .f32 r.X, .float .f32 r.Y, .float .f32 r.H, .float .f32 r.DX, .float .f32 r.DY, .float .f32 r.DH, .float .f32 r.Mo] 29)).alloc (.cells #[.int .i64 c.x, .int .i64 c.y, .int .i64 (c.x2 - c.x), .int .i64 (c.y2 - c.y)] 23)) := (by repeat (first | with_reducible exact Below.refl _ _ | with_reducible apply Below.drew | with_reducible refine below_drewN ?_ _ | (with_reducible refine Below.setCell ?_ ?_ _; rotate_left; focus (first | omega | (simp <;> omega))) | (with_reducible refine Below.alloc ?_ ?_ _; rotate_left; focus (first | omega | (simp <;> omega)))))
          have R0 := (Blk.new w #[.float .f32 r.X, .float .f32 r.Y, .float .f32 r.H, .float .f32 r.DX, .float .f32 r.DY, .float .f32 r.DH, .float .f32 r.Mo] 29).alloc (.cells #[.int .i64 c.x, .int .i64 c.y, .int .i64 (c.x2 - c.x), .int .i64 (c.y2 - c.y)] 23)
          have C0 := Reg.new (w.alloc (.cells #[.float .f32 r.X, .float .f32 r.Y, .float .f32 r.H, .float .f32 r.DX, .float .f32 r.DY, .float .f32 r.DH, .float .f32 r.Mo] 29)) c.x c.y (c.x2 - c.x) (c.y2 - c.y)
          rw [show (w.alloc (.cells #[.float .f32 r.X, .float .f32 r.Y, .float .f32 r.H, .float .f32 r.DX, .float .f32 r.DY, .float .f32 r.DH, .float .f32 r.Mo] 29)).heap.size = w.heap.size + 1 from by simp] at C0
          generalize (w.alloc (.cells #[.float .f32 r.X, .float .f32 r.Y, .float .f32 r.H, .float .f32 r.DX, .float .f32 r.DY, .float .f32 r.DH, .float .f32 r.Mo] 29)).alloc (.cells #[.int .i64 c.x, .int .i64 c.y, .int .i64 (c.x2 - c.x), .int .i64 (c.y2 - c.y)] 23) = W0 at *
          have p0 : W0.cell? ⟨w.heap.size, 0, none⟩ = some (.float .f32 r.X) := R0.cell 0
          have p1 : W0.cell? ⟨w.heap.size, 1, none⟩ = some (.float .f32 r.Y) := R0.cell 1
          have p2 : W0.cell? ⟨w.heap.size, 2, none⟩ = some (.float .f32 r.H) := R0.cell 2
          have p3 : W0.cell? ⟨w.heap.size, 3, none⟩ = some (.float .f32 r.DX) := R0.cell 3
          have p4 : W0.cell? ⟨w.heap.size, 4, none⟩ = some (.float .f32 r.DY) := R0.cell 4
          have p5 : W0.cell? ⟨w.heap.size, 5, none⟩ = some (.float .f32 r.DH) := R0.cell 5
          have p6 : W0.cell? ⟨w.heap.size, 6, none⟩ = some (.float .f32 r.Mo) := R0.cell 6
          have lr := R0.lt
          obtain ⟨s0, s1, s2, s3⟩ := C0.cells
          have ls := C0.lt
          go_wp2_with fail
          refine (KC.out _).mono ?_
          rintro e w1 ⟨rfl, b1⟩
          have HB1 := Lib.hid (b0.trans (b1.mono b0.size))
          have HR1 := Lib.hid (R0.below b1 R0.lt)
          clear b0 b1 R0 C0 p0 p1 p2 p3 p4 p5 p6 lr s0 s1 s2 s3 ls KC
          have p0 : w1.cell? ⟨w.heap.size, 0, none⟩ = some (.float .f32 r.X) := HR1.out.cell 0
          have p1 : w1.cell? ⟨w.heap.size, 1, none⟩ = some (.float .f32 r.Y) := HR1.out.cell 1
          have p2 : w1.cell? ⟨w.heap.size, 2, none⟩ = some (.float .f32 r.H) := HR1.out.cell 2
          have p3 : w1.cell? ⟨w.heap.size, 3, none⟩ = some (.float .f32 r.DX) := HR1.out.cell 3
          have p4 : w1.cell? ⟨w.heap.size, 4, none⟩ = some (.float .f32 r.DY) := HR1.out.cell 4
          have p5 : w1.cell? ⟨w.heap.size, 5, none⟩ = some (.float .f32 r.DH) := HR1.out.cell 5
          have p6 : w1.cell? ⟨w.heap.size, 6, none⟩ = some (.float .f32 r.Mo) := HR1.out.cell 6
          have lr := HR1.out.lt
          go_wp2_with fail
          refine (KI.out _).mono ?_
          rintro e w2 ⟨rfl, b2⟩
          have HB2 := Lib.hid (HB1.out.trans (b2.mono HB1.out.size))
          have HR2 := Lib.hid (HR1.out.below b2 HR1.out.lt)
          clear p0 p1 p2 p3 p4 p5 p6 lr
          clear b2 KI HB1 HR1
          have p0 : w2.cell? ⟨w.heap.size, 0, none⟩ = some (.float .f32 r.X) := HR2.out.cell 0
          have p1 : w2.cell? ⟨w.heap.size, 1, none⟩ = some (.float .f32 r.Y) := HR2.out.cell 1
          have p2 : w2.cell? ⟨w.heap.size, 2, none⟩ = some (.float .f32 r.H) := HR2.out.cell 2
          have p3 : w2.cell? ⟨w.heap.size, 3, none⟩ = some (.float .f32 r.DX) := HR2.out.cell 3
          have p4 : w2.cell? ⟨w.heap.size, 4, none⟩ = some (.float .f32 r.DY) := HR2.out.cell 4
          have p5 : w2.cell? ⟨w.heap.size, 5, none⟩ = some (.float .f32 r.DH) := HR2.out.cell 5
          have p6 : w2.cell? ⟨w.heap.size, 6, none⟩ = some (.float .f32 r.Mo) := HR2.out.cell 6
          have lr := HR2.out.lt
          go_wp2_with fail
          refine (KO.out _).mono ?_
          rintro e w3 ⟨rfl, b2⟩
          have HB3 := Lib.hid (HB2.out.trans (b2.mono HB2.out.size))
          have HR3 := Lib.hid (HR2.out.below b2 HR2.out.lt)
          clear p0 p1 p2 p3 p4 p5 p6 lr
          clear b2 KO HB2 HR2
          have p0 : w3.cell? ⟨w.heap.size, 0, none⟩ = some (.float .f32 r.X) := HR3.out.cell 0
          have p1 : w3.cell? ⟨w.heap.size, 1, none⟩ = some (.float .f32 r.Y) := HR3.out.cell 1
          have p2 : w3.cell? ⟨w.heap.size, 2, none⟩ = some (.float .f32 r.H) := HR3.out.cell 2
          have p3 : w3.cell? ⟨w.heap.size, 3, none⟩ = some (.float .f32 r.DX) := HR3.out.cell 3
          have p4 : w3.cell? ⟨w.heap.size, 4, none⟩ = some (.float .f32 r.DY) := HR3.out.cell 4
          have p5 : w3.cell? ⟨w.heap.size, 5, none⟩ = some (.float .f32 r.DH) := HR3.out.cell 5
          have p6 : w3.cell? ⟨w.heap.size, 6, none⟩ = some (.float .f32 r.Mo) := HR3.out.cell 6
          have lr := HR3.out.lt
          go_wp2_with fail
          refine (KG.out _).mono ?_
          rintro e w4 ⟨rfl, rfl⟩
          go_wp2_with fail
          refine (KL.out _).mono ?_
          rintro e w4 ⟨rfl, rfl⟩
          go_wp2_with fail
          exact bodyPost_ret (v := .tuple #[.float .f32 (lsF (grF (divF (subF v r.H) r.DH) I) O), .bool true]) (by simp [results, Try.results22, go_sem, *]) rfl ⟨rfl, by have hb := HB3.out; exact (by have hszz := hb.size; repeat (first | with_reducible exact hb | with_reducible apply Below.drew | with_reducible refine below_drewN ?_ _ | (with_reducible refine Below.setCell ?_ ?_ _; rotate_left; focus (first | omega | (simp <;> omega))) | (with_reducible refine Below.alloc ?_ ?_ _; rotate_left; focus (first | omega | (simp <;> omega)))))⟩
      · have e : stF r c v = none := by unfold stF; rw [if_neg (by simpa using hb), if_neg q1, if_neg q2]
        have d2 := l2.2 q2
        rw [e]
        clear l1 l2 q1 q2 e hi ho t1 t2 hb hv hr hc
        unfold stA
        generalize crI r c = I at *
        generalize crO r c = O at *
        generalize hgF r I = h1 at *
        generalize hgF r O = h2 at *
        obtain ⟨d1, d1'⟩ := d1
        obtain ⟨d2, d2'⟩ := d2
        go_enter Try.func22, Try.ntmps22
        go_upto_region 1 with fail
        have b0 : Below w.heap.size w ((w.alloc (.cells #[.float .f32 r.X, .float .f32 r.Y, .float .f32 r.H, .float .f32 r.DX, .float .f32 r.DY, .float .f32 r.DH, .float .f32 r.Mo] 29)).alloc (.cells #[.int .i64 c.x, .int .i64 c.y, .int .i64 (c.x2 - c.x), .int .i64 (c.y2 - c.y)] 23)) := (by repeat (first | with_reducible exact Below.refl _ _ | with_reducible apply Below.drew | with_reducible refine below_drewN ?_ _ | (with_reducible refine Below.setCell ?_ ?_ _; rotate_left; focus (first | omega | (simp <;> omega))) | (with_reducible refine Below.alloc ?_ ?_ _; rotate_left; focus (first | omega | (simp <;> omega)))))
        have R0 := (Blk.new w #[.float .f32 r.X, .float .f32 r.Y, .float .f32 r.H, .float .f32 r.DX, .float .f32 r.DY, .float .f32 r.DH, .float .f32 r.Mo] 29).alloc (.cells #[.int .i64 c.x, .int .i64 c.y, .int .i64 (c.x2 - c.x), .int .i64 (c.y2 - c.y)] 23)
        have C0 := Reg.new (w.alloc (.cells #[.float .f32 r.X, .float .f32 r.Y, .float .f32 r.H, .float .f32 r.DX, .float .f32 r.DY, .float .f32 r.DH, .float .f32 r.Mo] 29)) c.x c.y (c.x2 - c.x) (c.y2 - c.y)
        rw [show (w.alloc (.cells #[.float .f32 r.X, .float .f32 r.Y, .float .f32 r.H, .float .f32 r.DX, .float .f32 r.DY, .float .f32 r.DH, .float .f32 r.Mo] 29)).heap.size = w.heap.size + 1 from by simp] at C0
        generalize (w.alloc (.cells #[.float .f32 r.X, .float .f32 r.Y, .float .f32 r.H, .float .f32 r.DX, .float .f32 r.DY, .float .f32 r.DH, .float .f32 r.Mo] 29)).alloc (.cells #[.int .i64 c.x, .int .i64 c.y, .int .i64 (c.x2 - c.x), .int .i64 (c.y2 - c.y)] 23) = W0 at *
        have p0 : W0.cell? ⟨w.heap.size, 0, none⟩ = some (.float .f32 r.X) := R0.cell 0
        have p1 : W0.cell? ⟨w.heap.size, 1, none⟩ = some (.float .f32 r.Y) := R0.cell 1
        have p2 : W0.cell? ⟨w.heap.size, 2, none⟩ = some (.float .f32 r.H) := R0.cell 2
        have p3 : W0.cell? ⟨w.heap.size, 3, none⟩ = some (.float .f32 r.DX) := R0.cell 3
        have p4 : W0.cell? ⟨w.heap.size, 4, none⟩ = some (.float .f32 r.DY) := R0.cell 4
        have p5 : W0.cell? ⟨w.heap.size, 5, none⟩ = some (.float .f32 r.DH) := R0.cell 5
        have p6 : W0.cell? ⟨w.heap.size, 6, none⟩ = some (.float .f32 r.Mo) := R0.cell 6
        have lr := R0.lt
        obtain ⟨s0, s1, s2, s3⟩ := C0.cells
        have ls := C0.lt
        go_wp2_with fail
        refine (KC.out _).mono ?_
        rintro e w1 ⟨rfl, b1⟩
        have HB1 := Lib.hid (b0.trans (b1.mono b0.size))
        have HR1 := Lib.hid (R0.below b1 R0.lt)
        clear b0 b1 R0 C0 p0 p1 p2 p3 p4 p5 p6 lr s0 s1 s2 s3 ls KC
        have p0 : w1.cell? ⟨w.heap.size, 0, none⟩ = some (.float .f32 r.X) := HR1.out.cell 0
        have p1 : w1.cell? ⟨w.heap.size, 1, none⟩ = some (.float .f32 r.Y) := HR1.out.cell 1
        have p2 : w1.cell? ⟨w.heap.size, 2, none⟩ = some (.float .f32 r.H) := HR1.out.cell 2
        have p3 : w1.cell? ⟨w.heap.size, 3, none⟩ = some (.float .f32 r.DX) := HR1.out.cell 3
        have p4 : w1.cell? ⟨w.heap.size, 4, none⟩ = some (.float .f32 r.DY) := HR1.out.cell 4
        have p5 : w1.cell? ⟨w.heap.size, 5, none⟩ = some (.float .f32 r.DH) := HR1.out.cell 5
        have p6 : w1.cell? ⟨w.heap.size, 6, none⟩ = some (.float .f32 r.Mo) := HR1.out.cell 6
        have lr := HR1.out.lt
        go_wp2_with fail
        refine (KI.out _).mono ?_
        rintro e w2 ⟨rfl, b2⟩
        have HB2 := Lib.hid (HB1.out.trans (b2.mono HB1.out.size))
        have HR2 := Lib.hid (HR1.out.below b2 HR1.out.lt)
        clear p0 p1 p2 p3 p4 p5 p6 lr
        clear b2 KI HB1 HR1
        have p0 : w2.cell? ⟨w.heap.size, 0, none⟩ = some (.float .f32 r.X) := HR2.out.cell 0
        have p1 : w2.cell? ⟨w.heap.size, 1, none⟩ = some (.float .f32 r.Y) := HR2.out.cell 1
        have p2 : w2.cell? ⟨w.heap.size, 2, none⟩ = some (.float .f32 r.H) := HR2.out.cell 2
        have p3 : w2.cell? ⟨w.heap.size, 3, none⟩ = some (.float .f32 r.DX) := HR2.out.cell 3
        have p4 : w2.cell? ⟨w.heap.size, 4, none⟩ = some (.float .f32 r.DY) := HR2.out.cell 4
        have p5 : w2.cell? ⟨w.heap.size, 5, none⟩ = some (.float .f32 r.DH) := HR2.out.cell 5
        have p6 : w2.cell? ⟨w.heap.size, 6, none⟩ = some (.float .f32 r.Mo) := HR2.out.cell 6
        have lr := HR2.out.lt
        go_wp2_with fail
        refine (KO.out _).mono ?_
        rintro e w3 ⟨rfl, b2⟩
        have HB3 := Lib.hid (HB2.out.trans (b2.mono HB2.out.size))
        have HR3 := Lib.hid (HR2.out.below b2 HR2.out.lt)
        clear p0 p1 p2 p3 p4 p5 p6 lr
        clear b2 KO HB2 HR2
        have p0 : w3.cell? ⟨w.heap.size, 0, none⟩ = some (.float .f32 r.X) := HR3.out.cell 0
        have p1 : w3.cell? ⟨w.heap.size, 1, none⟩ = some (.float .f32 r.Y) := HR3.out.cell 1
        have p2 : w3.cell? ⟨w.heap.size, 2, none⟩ = some (.float .f32 r.H) := HR3.out.cell 2
        have p3 : w3.cell? ⟨w.heap.size, 3, none⟩ = some (.float .f32 r.DX) := HR3.out.cell 3
        have p4 : w3.cell? ⟨w.heap.size, 4, none⟩ = some (.float .f32 r.DY) := HR3.out.cell 4
        have p5 : w3.cell? ⟨w.heap.size, 5, none⟩ = some (.float .f32 r.DH) := HR3.out.cell 5
        have p6 : w3.cell? ⟨w.heap.size, 6, none⟩ = some (.float .f32 r.Mo) := HR3.out.cell 6
        have lr := HR3.out.lt
        go_wp2_with fail
        exact bodyPost_ret (v := .tuple #[.float .f32 (0), .bool false]) (by simp [results, Try.results22, go_sem, *]) rfl ⟨rfl, by have hb := HB3.out; exact (by have hszz := hb.size; repeat (first | with_reducible exact hb | with_reducible apply Below.drew | with_reducible refine below_drewN ?_ _ | (with_reducible refine Below.setCell ?_ ?_ _; rotate_left; focus (first | omega | (simp <;> omega))) | (with_reducible refine Below.alloc ?_ ?_ _; rotate_left; focus (first | omega | (simp <;> omega)))))⟩
  · have e : stF r c v = none := by unfold stF; rw [if_pos hb]
    rw [decide_eq_false hb] at KC
    rw [e]
    clear e hb hv hr hc
    unfold stA
    generalize crI r c = I at *
    generalize crO r c = O at *
    go_enter Try.func22, Try.ntmps22
    go_upto_region 1 with fail
    have b0 : Below w.heap.size w ((w.alloc (.cells #[.float .f32 r.X, .float .f32 r.Y, .float .f32 r.H, .float .f32 r.DX, .float .f32 r.DY, .float .f32 r.DH, .float .f32 r.Mo] 29)).alloc (.cells #[.int .i64 c.x, .int .i64 c.y, .int .i64 (c.x2 - c.x), .int .i64 (c.y2 - c.y)] 23)) := (by repeat (first | with_reducible exact Below.refl _ _ | with_reducible apply Below.drew | with_reducible refine below_drewN ?_ _ | (with_reducible refine Below.setCell ?_ ?_ _; rotate_left; focus (first | omega | (simp <;> omega))) | (with_reducible refine Below.alloc ?_ ?_ _; rotate_left; focus (first | omega | (simp <;> omega)))))
    have R0 := (Blk.new w #[.float .f32 r.X, .float .f32 r.Y, .float .f32 r.H, .float .f32 r.DX, .float .f32 r.DY, .float .f32 r.DH, .float .f32 r.Mo] 29).alloc (.cells #[.int .i64 c.x, .int .i64 c.y, .int .i64 (c.x2 - c.x), .int .i64 (c.y2 - c.y)] 23)
    have C0 := Reg.new (w.alloc (.cells #[.float .f32 r.X, .float .f32 r.Y, .float .f32 r.H, .float .f32 r.DX, .float .f32 r.DY, .float .f32 r.DH, .float .f32 r.Mo] 29)) c.x c.y (c.x2 - c.x) (c.y2 - c.y)
    rw [show (w.alloc (.cells #[.float .f32 r.X, .float .f32 r.Y, .float .f32 r.H, .float .f32 r.DX, .float .f32 r.DY, .float .f32 r.DH, .float .f32 r.Mo] 29)).heap.size = w.heap.size + 1 from by simp] at C0
    generalize (w.alloc (.cells #[.float .f32 r.X, .float .f32 r.Y, .float .f32 r.H, .float .f32 r.DX, .float .f32 r.DY, .float .f32 r.DH, .float .f32 r.Mo] 29)).alloc (.cells #[.int .i64 c.x, .int .i64 c.y, .int .i64 (c.x2 - c.x), .int .i64 (c.y2 - c.y)] 23) = W0 at *
    have p0 : W0.cell? ⟨w.heap.size, 0, none⟩ = some (.float .f32 r.X) := R0.cell 0
    have p1 : W0.cell? ⟨w.heap.size, 1, none⟩ = some (.float .f32 r.Y) := R0.cell 1
    have p2 : W0.cell? ⟨w.heap.size, 2, none⟩ = some (.float .f32 r.H) := R0.cell 2
    have p3 : W0.cell? ⟨w.heap.size, 3, none⟩ = some (.float .f32 r.DX) := R0.cell 3
    have p4 : W0.cell? ⟨w.heap.size, 4, none⟩ = some (.float .f32 r.DY) := R0.cell 4
    have p5 : W0.cell? ⟨w.heap.size, 5, none⟩ = some (.float .f32 r.DH) := R0.cell 5
    have p6 : W0.cell? ⟨w.heap.size, 6, none⟩ = some (.float .f32 r.Mo) := R0.cell 6
    have lr := R0.lt
    obtain ⟨s0, s1, s2, s3⟩ := C0.cells
    have ls := C0.lt
    go_wp2_with fail
    refine (KC.out _).mono ?_
    rintro e w1 ⟨rfl, b1⟩
    have HB1 := Lib.hid (b0.trans (b1.mono b0.size))
    have HR1 := Lib.hid (R0.below b1 R0.lt)
    clear b0 b1 R0 C0 p0 p1 p2 p3 p4 p5 p6 lr s0 s1 s2 s3 ls KC
    have p0 : w1.cell? ⟨w.heap.size, 0, none⟩ = some (.float .f32 r.X) := HR1.out.cell 0
    have p1 : w1.cell? ⟨w.heap.size, 1, none⟩ = some (.float .f32 r.Y) := HR1.out.cell 1
    have p2 : w1.cell? ⟨w.heap.size, 2, none⟩ = some (.float .f32 r.H) := HR1.out.cell 2
    have p3 : w1.cell? ⟨w.heap.size, 3, none⟩ = some (.float .f32 r.DX) := HR1.out.cell 3
    have p4 : w1.cell? ⟨w.heap.size, 4, none⟩ = some (.float .f32 r.DY) := HR1.out.cell 4
    have p5 : w1.cell? ⟨w.heap.size, 5, none⟩ = some (.float .f32 r.DH) := HR1.out.cell 5
    have p6 : w1.cell? ⟨w.heap.size, 6, none⟩ = some (.float .f32 r.Mo) := HR1.out.cell 6
    have lr := HR1.out.lt
    go_wp2_with fail
    exact bodyPost_ret (v := .tuple #[.float .f32 (0), .bool false]) (by simp [results, Try.results22, go_sem, *]) rfl ⟨rfl, by have hb := HB1.out; exact (by have hszz := hb.size; repeat (first | with_reducible exact hb | with_reducible apply Below.drew | with_reducible refine below_drewN ?_ _ | (with_reducible refine Below.setCell ?_ ?_ _; rotate_left; focus (first | omega | (simp <;> omega))) | (with_reducible refine Below.alloc ?_ ?_ _; rotate_left; focus (first | omega | (simp <;> omega)))))⟩
end Go.Proofs.Ytiiogjjjgoeghaa
