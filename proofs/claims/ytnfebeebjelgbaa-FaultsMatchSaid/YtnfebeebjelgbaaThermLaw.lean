import Derived.Test.YtnfebeebjelgbaaThermOp
import Derived.Deep.RegionHeld3
namespace Go.Proofs.Ytnfebeebjelgbaa
open Go.ChangeShapes Go.WideShapes Go.ChangeAt Go.RowKit
open Ieee.Format (fin finE htE allFin allHt all_true all_false mulF subF addF Ht Bd divF rootF floorF easeF mixF)
set_option linter.unusedVariables false

theorem one_same (a : Nat) (c : Int) (h : c ≠ 0 → a = 0) (w : World) : Calls Try.prog 41 #[.float .f32 a, .int .i64 c, .float .f32 a, .int .i64 c] w fun e w' => e = .returned (.bool true) ∧ w = w' := by
  by_cases hc : c = 0
  · subst hc
    have := one_ok a a w
    rw [decide_eq_true rfl] at this
    exact this
  · have := one_err a a c hc w
    rw [decide_eq_true (h hc)] at this
    exact this

theorem therm_world (w : World) (T R : Nat) (n X Y A B : Int) (v : Value) : ∀ W0, W0 = (w.alloc (.cells #[.float .f32 T, .float .f32 R, .int .i64 n] 59)).alloc (.cells #[.int .i64 X, .int .i64 Y, .int .i64 A, .int .i64 B, v] 36) →
    WearAt W0 w.heap.size T R n ∧ Fld W0 (w.heap.size + 1) X Y A B v ∧ Below w.heap.size w W0 := by
  rintro _ rfl
  refine ⟨(Blk.new w _ _).alloc _, ?_, (by repeat (first | with_reducible exact Below.refl _ _ | with_reducible apply Below.drew | with_reducible refine below_drewN ?_ _ | (with_reducible refine Below.setCell ?_ ?_ _; rotate_left; focus (first | omega | (simp <;> omega))) | (with_reducible refine Below.alloc ?_ ?_ _; rotate_left; focus (first | omega | (simp <;> omega)))))⟩
  have := Fld.new (w.alloc (.cells #[.float .f32 T, .float .f32 R, .int .i64 n] 59)) X Y A B v
  simpa using this

set_option maxRecDepth 100000 in
set_option maxHeartbeats 400000 in
theorem therm_law (T R : Nat) (n : Int) (X Y A B : Int) (a : Option Addr) (l : List Nat) (cap : Nat) (s t : Nat) (w : World) (hl : Row63 w a l) (hT : T < 4294967296) (hR : R < 4294967296) (hs : s < 4294967296) (ht : t < 4294967296) :
    Calls Try.prog 6 #[wearV T R n, fldV X Y A B a l.length cap, .float .f32 s, .float .f32 t] w fun e w' => e = .returned (.bool true) ∧ Below w.heap.size w w' := by
  have HL := Lib.hid hl
  have HTR : Hid (T < 4294967296 ∧ R < 4294967296) := ⟨hT, hR⟩
  have KM1 := Lib.hid (fun w => Moved_any T R n s t w hT hR hs ht)
  have KM2 := Lib.hid (fun w => refMoved_any T R n s t w hT hR hs ht)
  have KW1 := Lib.hid (fun w => check_wear T R n w hT hR)
  have KW2 := Lib.hid (fun w => refcheck_wear T R n w hT hR)
  have KO := Lib.hid (fun w => one_same (movedV T R n s t) (movedE T R n s t) (fun h => by unfold movedV; rw [if_neg h]) w)
  clear hl hT hR hs ht
  generalize movedV T R n s t = mv at *
  generalize movedE T R n s t = me at *
  generalize hwe : wearE T R n = we at *
  clear hwe
  go_enter Try.func6, Try.ntmps6
  go_wp2_with fail
  generalize hW0 : (w.alloc (.cells #[.float .f32 T, .float .f32 R, .int .i64 n] 59)).alloc (.cells #[.int .i64 X, .int .i64 Y, .int .i64 A, .int .i64 B, .slice a l.length cap] 36) = W0 at *
  obtain ⟨G0, F0, B0⟩ := therm_world w T R n X Y A B (.slice a l.length cap) W0 hW0.symm
  clear hW0
  refine (landed_bel _).mono ?_
  rintro e w1 ⟨rfl, b1⟩
  have F1 := F0.below b1 F0.lt
  have G1 := G0.below b1 G0.lt
  have B1 := Lib.hid (B0.trans (b1.mono B0.size))
  clear b1 F0 G0 B0
  obtain ⟨c0, c1, c2, c3, c4⟩ := F1.cells
  have HF1 := Lib.hid F1
  have HG1 := Lib.hid G1
  clear F1 G1
  go_wp2_with fail
  refine (fit_any X Y A B a cap l w1 (HL.out.below B1.out)).mono ?_
  rintro e w2 ⟨X', Y', Wn, Hn, g, cap', l', rfl, hr, hsm, ho, b2⟩
  have F2 := HF1.out.below b2 HF1.out.lt
  have G2 := HG1.out.below b2 HG1.out.lt
  have B2 := Lib.hid (B1.out.trans (b2.mono B1.out.size))
  have hgk : g ≠ w.heap.size + 1 := by have := ho.lt.1; have := HF1.out.lt; omega
  have HG := Lib.hid hgk
  have HO := Lib.hid ho
  have hml : Hid (l'.length ≤ 1099511627776) := by
    have h1 := Nat.mul_le_mul hr.h2 hr.w2
    rw [← hr.len] at h1
    unfold Hid; omega
  obtain ⟨C, X1, Y1, W1, H1, S, hS, hp1, hp2⟩ := therm_pair T R n X' Y' Wn Hn g 0 cap' l' hr (by omega) (by omega) HTR.out.1 HTR.out.2
  have P1 := Lib.hid hp1
  have P2 := Lib.hid hp2
  have HS := Lib.hid hS
  clear b2 hr ho hgk c0 c1 c2 c3 c4 hsm hp1 hp2 hS HTR
  obtain ⟨c0, c1, c2, c3, c4⟩ := F2.cells
  have qf0 := F2.frozen 0
  have qf1 := F2.frozen 1
  have qf2 := F2.frozen 2
  have qf3 := F2.frozen 3
  have qf4 := F2.frozen 4
  obtain ⟨d0, d1, d2⟩ := WearAt.cells G2
  have HF2 := Lib.hid F2
  have HG2 := Lib.hid G2
  clear F2 G2
  go_wp2_with fail
  generalize hW3 : ((((w2.setCell ⟨w.heap.size + 1, 0, none⟩ (.int .i64 X')).setCell ⟨w.heap.size + 1, 1, none⟩ (.int .i64 Y')).setCell ⟨w.heap.size + 1, 2, none⟩ (.int .i64 (Wn : Int))).setCell ⟨w.heap.size + 1, 3, none⟩ (.int .i64 (Hn : Int))).setCell ⟨w.heap.size + 1, 4, none⟩ (.slice (some ⟨g, 0, none⟩) l'.length cap') = W3 at *
  obtain ⟨f3, bb3, oo3, _, z3⟩ := fld_store w2 (w.heap.size + 1) X Y A B _ X' Y' Wn Hn (.slice (some ⟨g, 0, none⟩) l'.length cap') HF2.out W3 hW3.symm
  have G3 := HG2.out.below bb3 (Nat.lt_succ_self _)
  have HF3 := Lib.hid f3
  have HG3 := Lib.hid G3
  have HB3 := Lib.hid (B2.out.trans (bb3.mono (by omega)))
  have HO3 := Lib.hid (oo3 _ _ _ _ HO.out HG.out)
  have HQ3 := Lib.hid (HO3.out.row hml.out)
  clear hW3 f3 bb3 oo3 z3 G3 HO HF2 HF1 B1 B2 c0 c1 c2 c3 c4 qf0 qf1 qf2 qf3 qf4 HL d0 d1 d2 HG1 HG2
  refine (KM1.out _).mono ?_
  rintro e w4 ⟨rfl, b4⟩
  have F4 := HF3.out.below b4 HF3.out.lt
  have G4 := HG3.out.below b4 HG3.out.lt
  have HQ4 := Lib.hid (HQ3.out.below b4)
  have HB4 := Lib.hid (HB3.out.trans (b4.mono HB3.out.size))
  clear b4 HQ3 HF3 HG3 HB3
  obtain ⟨d0, d1, d2⟩ := WearAt.cells G4
  have HF4 := Lib.hid F4
  have HG4 := Lib.hid G4
  clear F4 G4
  go_wp2_with fail
  refine (KM2.out _).mono ?_
  rintro e w5 ⟨rfl, b5⟩
  have F5 := HF4.out.below b5 HF4.out.lt
  have G5 := HG4.out.below b5 HG4.out.lt
  have HQ5 := Lib.hid (HQ4.out.below b5)
  have HB5 := Lib.hid (HB4.out.trans (b5.mono HB4.out.size))
  clear b5 HQ4 HF4 HG4 HB4 d0 d1 d2
  obtain ⟨d0, d1, d2⟩ := WearAt.cells G5
  have hk5 : w.heap.size < w5.heap.size := G5.lt
  have HF5 := Lib.hid F5
  have HG5 := Lib.hid G5
  clear F5 G5
  go_wp2_with fail
  go_region_held3 (fun w' => w'.cell? ⟨w.heap.size, 0, none⟩ = some (.float .f32 T) ∧ w'.cell? ⟨w.heap.size, 1, none⟩ = some (.float .f32 R) ∧ w'.cell? ⟨w.heap.size, 2, none⟩ = some (.int .i64 n) ∧ w.heap.size < w'.heap.size ∧ Below w5.heap.size w5 w')
    (first
      | exact ⟨d0, d1, d2, hk5, (Below.refl _ _).drew⟩
      | (go_split_ands
         have hs := hb.size
         have hs2 := (show Below w5.heap.size w5 _ by assumption).size
         refine ⟨?_, ?_, ?_, ?_, ?_⟩
         all_goals first
           | (rw [hb.cell (by simp; omega)]; assumption)
           | exact Below.trans (by assumption) (hb.mono (by omega))
           | omega)
      | (go_split_ands; refine ⟨?_, ?_, ?_, ?_, ?_⟩ <;> assumption))
    (first
      | (go_at_call 41; go_split_ands; refine (KO.out _).mono ?_; rintro e2 w2 ⟨rfl, rfl⟩)
      | (go_at_call 42; go_split_ands; refine (KW1.out _).mono ?_; rintro e2 w2 ⟨rfl, hb⟩)
      | (go_at_call 43; go_split_ands; refine (KW2.out _).mono ?_; rintro e2 w2 ⟨rfl, hb⟩))
  rename_i w6 hHeld
  obtain ⟨_, _, _, _, b6⟩ := hHeld
  have F6 := HF5.out.below b6 HF5.out.lt
  have G6 := HG5.out.below b6 HG5.out.lt
  have HQ6 := Lib.hid (HQ5.out.below b6)
  have HB6 := Lib.hid (HB5.out.trans (b6.mono HB5.out.size))
  clear b6 HQ5 HF5 HG5 HB5 d0 d1 d2
  obtain ⟨d0, d1, d2⟩ := WearAt.cells G6
  obtain ⟨c0, c1, c2, c3, c4⟩ := F6.cells
  have HF6 := Lib.hid F6
  have HG6 := Lib.hid G6
  clear F6 G6 KM1 KM2 KW1 KW2 KO hk5
  go_wp2_with fail
  refine (P1.out _ HQ6.out).mono ?_
  rintro e w7 ⟨⟨x, y, p, q, aa, n1, k, rfl, o7⟩, b7⟩
  have F7 := HF6.out.below b7 HF6.out.lt
  have G7 := HG6.out.below b7 HG6.out.lt
  have HB7 := Lib.hid (HB6.out.trans (b7.mono HB6.out.size))
  have HQ7 := Lib.hid (HQ6.out.below b7)
  have HV7 := Lib.hid o7
  clear b7 o7 c0 c1 c2 c3 c4 d0 d1 d2
  obtain ⟨c0, c1, c2, c3, c4⟩ := F7.cells
  obtain ⟨d0, d1, d2⟩ := WearAt.cells G7
  have HF7 := Lib.hid F7
  have hk0 : w.heap.size + 1 < w7.heap.size := F7.lt
  have hk1 : w.heap.size < w7.heap.size := by omega
  clear F7 G7
  go_wp2_with fail
  generalize hW8 : w7.alloc (.cells #[.int .i64 x, .int .i64 y, .int .i64 p, .int .i64 q, .slice aa n1 k] 36) = W8 at *
  have P8 : Fld W8 w7.heap.size x y p q (.slice aa n1 k) := by subst hW8; exact Fld.new _ _ _ _ _ _
  have B8 : Below w7.heap.size w7 W8 := by subst hW8; exact (by repeat (first | with_reducible exact Below.refl _ _ | with_reducible apply Below.drew | with_reducible refine below_drewN ?_ _ | (with_reducible refine Below.setCell ?_ ?_ _; rotate_left; focus (first | omega | (simp <;> omega))) | (with_reducible refine Below.alloc ?_ ?_ _; rotate_left; focus (first | omega | (simp <;> omega)))))
  have HB8 := Lib.hid (HB7.out.trans (B8.mono HB7.out.size))
  have HQ8 := Lib.hid (HQ7.out.below B8)
  have HV8 := Lib.hid (HV7.out.below B8)
  have HP8 := Lib.hid P8
  clear hW8 P8 B8 HB7 HQ7 HV7 HF7 HF6 HG6 HB6 HQ6 c0 c1 c2 c3 c4 d0 d1 d2 HG hml
  have HK := Lib.hid hk0
  have HKK := Lib.hid hk1
  generalize w7.heap.size = k7 at *
  refine (P2.out W8 HQ8.out).mono ?_
  rintro e w9 ⟨⟨x2, y2, p2, q2, aa2, n2, k2, rfl, o9⟩, b9⟩
  have P9 := HP8.out.below b9 HP8.out.lt
  have HB9 := Lib.hid (HB8.out.trans (b9.mono HB8.out.size))
  have HV9 := Lib.hid (HV8.out.below b9)
  have HU9 := Lib.hid o9
  clear b9 o9
  obtain ⟨e0, e1, e2, e3, e4⟩ := P9.cells
  have HP9 := Lib.hid P9
  have lz1 : k7 < w9.heap.size := P9.lt
  clear P9 HV8 HP8 HQ8 HB8 hk0 hk1
  have hk1 : Hid (w.heap.size ≤ w9.heap.size) := HB9.out.size
  go_wp2_with fail
  generalize hW10 : w9.alloc (.cells #[.int .i64 x2, .int .i64 y2, .int .i64 p2, .int .i64 q2, .slice aa2 n2 k2] 36) = W10 at *
  have B10 : Below w9.heap.size w9 W10 := by subst hW10; exact (by repeat (first | with_reducible exact Below.refl _ _ | with_reducible apply Below.drew | with_reducible refine below_drewN ?_ _ | (with_reducible refine Below.setCell ?_ ?_ _; rotate_left; focus (first | omega | (simp <;> omega))) | (with_reducible refine Below.alloc ?_ ?_ _; rotate_left; focus (first | omega | (simp <;> omega)))))
  have HB10 := Lib.hid (HB9.out.trans (B10.mono HB9.out.size))
  have HV10 := Lib.hid (HV9.out.below B10)
  have HU10 := Lib.hid (HU9.out.below B10)
  clear hW10 B10 HB9 HV9 HU9 HP9 e0 e1 e2 e3 e4
  refine (same_out HV10.out HU10.out HS.out).mono ?_
  rintro e w11 ⟨rfl, b11⟩
  have B11 := HB10.out.trans (b11.mono HB10.out.size)
  clear b11
  go_wp2_with fail
  go_ret
  exact ⟨rfl, B11⟩
end Go.Proofs.Ytnfebeebjelgbaa
