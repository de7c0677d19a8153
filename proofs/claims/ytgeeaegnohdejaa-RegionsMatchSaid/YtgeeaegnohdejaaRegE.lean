import Derived.Test.YtgeeaegnohdejaaRegD
import Derived.Deep.Cut
import Derived.Laws.StructEq
import Derived.Deep.RegionHeld3
namespace Go.Proofs.Ytgeeaegnohdejaa
open Go.ChangeShapes Go.WideShapes Go.ChangeAt Go.RowKit
set_option linter.unusedVariables false

theorem eqReg (a b c d a' b' c' d' : Int) (w : World) : (Op.equalIn 10000 30 (reg a b c d) (reg a' b' c' d')).run Try.prog w = .ok (a == a' && b == b' && c == c' && d == d') w := by
  have u3 := Try.underlying3
  have a3 := Try.isAgg3
  have z3 := Try.sizeOf3
  have hS : Try.prog.underlying 30 = some (.struct (Try.prog.fieldsOf 30)) := by kernel_rfl
  have hp : Try.prog.stoodInHeld 30 = false := by kernel_rfl
  rw [show (10000 : Nat) = 9999 + 1 from rfl, run_equalIn_agg w 9999 30 _ _ hS hp]
  simp only [Program.fieldsOf, Try.underlying30]
  go_simp
  by_cases h1 : a = a' <;> by_cases h2 : b = b' <;> by_cases h3 : c = c' <;> by_cases h4 : d = d' <;> simp [h1, h2, h3, h4]
theorem guard30 : Try.prog.eqGuardType Try.prog.depth 30 = false := by kernel_rfl
theorem eqGuardReg (op : BinOp) (x y : Operand) (a b c d a' b' c' d' : Int) (w : World) : (eqGuard op 30 x y (reg a b c d) (reg a' b' c' d')).run Try.prog w = .ok () w := run_eqGuard_agg w op 30 x y _ _ guard30
theorem eqlReg (a b c d a' b' c' d' : Int) (w : World) : (binOp .eql 30 (reg a b c d) (reg a' b' c' d')).run Try.prog w = .ok (.bool (a == a' && b == b' && c == c' && d == d')) w := by
  rw [run_eql_struct, eqReg]; rfl
theorem neqReg (a b c d a' b' c' d' : Int) (w : World) : (binOp .neq 30 (reg a b c d) (reg a' b' c' d')).run Try.prog w = .ok (.bool (!(a == a' && b == b' && c == c' && d == d'))) w := by
  rw [run_neq_struct, eqReg]; rfl

/-- a region lies in block 'k' -/
def Has4 (w : World) (k : Nat) (X Y W H : Int) : Prop :=
  w.cell? ⟨k, 0, none⟩ = some (.int .i64 X) ∧ w.cell? ⟨k, 1, none⟩ = some (.int .i64 Y) ∧ w.cell? ⟨k, 2, none⟩ = some (.int .i64 W) ∧ w.cell? ⟨k, 3, none⟩ = some (.int .i64 H)
theorem Has4.mono {w w' : World} {k B : Nat} {X Y W H : Int} (h : Has4 w k X Y W H) (hb : Below B w w') (hk : k < B) : Has4 w' k X Y W H := by
  unfold Has4
  rw [hb.cell (p := ⟨k, 0, none⟩) hk, hb.cell (p := ⟨k, 1, none⟩) hk, hb.cell (p := ⟨k, 2, none⟩) hk, hb.cell (p := ⟨k, 3, none⟩) hk]
  exact h

theorem growR_form (X Y W H n : Int) : ∃ a b c d, growR X Y W H n = reg a b c d := by
  unfold growR; split
  · exact ⟨_, _, _, _, rfl⟩
  · exact ⟨_, _, _, _, rfl⟩
theorem cmR_form (a b c d e f g h : Int) : ∃ p q r s, cmR a b c d e f g h = reg p q r s := by
  unfold cmR; split
  · exact ⟨_, _, _, _, rfl⟩
  · exact ⟨_, _, _, _, rfl⟩

set_option maxHeartbeats 2000000 in
theorem regions (a b c d e f g h n : Int) (w : World) : Calls Try.prog 4 #[reg a b c d, reg e f g h, .int .i64 n] w fun e' w' => e' = .returned (.bool true) ∧ Below w.heap.size w w' := by
  obtain ⟨r1, r2, r3, r4, hR⟩ := growR_form a b c d n
  obtain ⟨q1, q2, q3, q4, hQ⟩ := cmR_form a b c d e f g h
  have hG1 := fun w => grow1 a b c d n w
  have hG2 := fun w => grow2 a b c d n w
  rw [hR] at hG1 hG2
  have HQ := Lib.hid hQ
  clear hR hQ
  generalize growE a b c d n = ge at *
  have K1 := Lib.hid hG1
  have K2 := Lib.hid hG2
  clear hG1 hG2
  go_enter Try.func4, Try.ntmps4
  go_wp2_with fail
  generalize hW : (w.alloc (Obj.cells #[.int .i64 a, .int .i64 b, .int .i64 c, .int .i64 d] 30)).alloc (Obj.cells #[.int .i64 e, .int .i64 f, .int .i64 g, .int .i64 h] 30) = W0
  have hA : Has4 W0 w.heap.size a b c d := by subst hW; unfold Has4; simp
  have hE : Has4 W0 (w.heap.size + 1) e f g h := by subst hW; unfold Has4; simp
  have hS0 : W0.heap.size = w.heap.size + 2 := by subst hW; simp
  have hB0 : Below w.heap.size w W0 := by subst hW; exact (by repeat (first | with_reducible exact Below.refl _ _ | with_reducible apply Below.drew | with_reducible refine below_drewN ?_ _ | (with_reducible refine Below.setCell ?_ ?_ _; rotate_left; focus (simp <;> omega)) | (with_reducible refine Below.alloc ?_ ?_ _; rotate_left; focus (simp <;> omega))))
  clear hW
  refine (landed_bel _).mono ?_
  rintro e' w1 ⟨rfl, hg⟩
  have hB1 : Below (w.heap.size + 2) W0 w1 := hg.mono (by omega)
  have hz1 : w.heap.size + 2 ≤ w1.heap.size := by have := hg.size; omega
  have A1 := hA.mono hB1 (by omega)
  obtain ⟨c0, c1, c2, c3⟩ := A1
  clear hg
  go_wp2_with fail
  go_region_held3 (fun w' => w'.cell? ⟨w.heap.size, 0, none⟩ = some (.int .i64 a) ∧ w'.cell? ⟨w.heap.size, 1, none⟩ = some (.int .i64 b) ∧ w'.cell? ⟨w.heap.size, 2, none⟩ = some (.int .i64 c) ∧ w'.cell? ⟨w.heap.size, 3, none⟩ = some (.int .i64 d) ∧ Below (w.heap.size + 2) W0 w' ∧ w.heap.size + 2 ≤ w'.heap.size)
    (first
      | exact ⟨c0, c1, c2, c3, hB1.drew, hz1⟩
      | (go_split_ands
         have hs := hb.size
         refine ⟨?_, ?_, ?_, ?_, ?_, ?_⟩
         · (rw [hb.cell (by simp; omega)]; assumption)
         · (rw [hb.cell (by simp; omega)]; assumption)
         · (rw [hb.cell (by simp; omega)]; assumption)
         · (rw [hb.cell (by simp; omega)]; assumption)
         · exact Below.trans (by assumption) (hb.mono (by omega))
         · omega))
    (first
      | (go_at_call 23; refine (check1 _ _ _ _ _).mono ?_; rintro e2 w2 ⟨rfl, hb⟩)
      | (go_at_call 24; refine (check2 _ _ _ _ _).mono ?_; rintro e2 w2 ⟨rfl, hb⟩))
  rename_i hHeld
  obtain ⟨d0, d1, d2, d3, hB3, hz3⟩ := hHeld
  clear hb c0 c1 c2 c3 hB1 hz1
  go_wp2_with fail
  refine (K1.out _).mono ?_
  rintro e' w4 ⟨rfl, hb⟩
  have hB4 : Below (w.heap.size + 2) W0 w4 := hB3.trans (hb.mono (by omega))
  have hz4 : w.heap.size + 2 ≤ w4.heap.size := by have := hb.size; omega
  have A4 := hA.mono hB4 (by omega)
  obtain ⟨c0, c1, c2, c3⟩ := A4
  clear hb d0 d1 d2 d3 hB3 hz3
  have y1 : w.heap.size < w4.heap.size := by omega
  have y2 : ¬ w.heap.size = w4.heap.size := by omega
  go_wp2_with fail
  refine (K2.out _).mono ?_
  rintro e' w5 ⟨rfl, hb⟩
  have hB5 : Below (w.heap.size + 2) W0 w5 := (hB4.alloc (by omega) _).trans (hb.mono (by simp; omega))
  have hz5 : w4.heap.size + 1 ≤ w5.heap.size := by have := hb.size; simp at this; omega
  have G5 : Has4 w5 w4.heap.size r1 r2 r3 r4 := Has4.mono (w := w4.alloc (Obj.cells #[.int .i64 r1, .int .i64 r2, .int .i64 r3, .int .i64 r4] 30)) (by unfold Has4; simp) hb (by simp)
  obtain ⟨g0, g1, g2, g3⟩ := G5
  have A5 := hA.mono hB5 (by omega)
  obtain ⟨d0, d1, d2, d3⟩ := A5
  have E5 := hE.mono hB5 (by omega)
  obtain ⟨e0, e1, e2, e3⟩ := E5
  clear hb c0 c1 c2 c3 hB4
  have y3 : ¬ w4.heap.size = w5.heap.size := by omega
  have y4 : ¬ w.heap.size = w5.heap.size := by omega
  have y5 : ¬ w.heap.size + 1 = w5.heap.size := by omega
  have y6 : w4.heap.size < w5.heap.size := by omega
  have y7 : w.heap.size < w5.heap.size := by omega
  have y8 : w.heap.size + 1 < w5.heap.size := by omega
  have kn := fun w => neqReg r1 r2 r3 r4 r1 r2 r3 r4 w
  have kg := fun x y w => eqGuardReg .neq x y r1 r2 r3 r4 r1 r2 r3 r4 w
  go_wp2_with fail
  clear kn kg
  refine (small_any _ _ _ _ _).mono ?_
  rintro e' w6 ⟨rfl, hb⟩
  have hB6 : Below (w.heap.size + 2) W0 w6 := (hB5.alloc (by omega) _).trans (hb.mono (by simp; omega))
  have hz6 : w5.heap.size + 1 ≤ w6.heap.size := by have := hb.size; simp at this; omega
  have A6 := hA.mono hB6 (by omega)
  have E6 := hE.mono hB6 (by omega)
  have hBw6 : Below w.heap.size w w6 := hB0.trans (hB6.mono (by omega))
  clear hb hB5 g0 g1 g2 g3 d0 d1 d2 d3 e0 e1 e2 e3
  cases hsa : smallB a b c d with
  | false =>
    have Hs := Lib.hid hsa; clear hsa
    clear A6 E6
    go_wp2
    go_ret
    exact ⟨rfl, hBw6⟩
  | true =>
    have Hs := Lib.hid hsa; clear hsa
    obtain ⟨d0, d1, d2, d3⟩ := A6
    obtain ⟨e0, e1, e2, e3⟩ := E6
    go_wp2_with fail
    refine (small_any _ _ _ _ _).mono ?_
    rintro e' w7 ⟨rfl, hb⟩
    have hB7 : Below (w.heap.size + 2) W0 w7 := hB6.trans (hb.mono (by omega))
    have hz7 : w6.heap.size ≤ w7.heap.size := hb.size
    have A7 := hA.mono hB7 (by omega)
    have E7 := hE.mono hB7 (by omega)
    have hBw7 : Below w.heap.size w w7 := hB0.trans (hB7.mono (by omega))
    clear hb hB6 d0 d1 d2 d3 e0 e1 e2 e3 hBw6
    cases hsb : smallB e f g h with
    | false =>
      have Ht := Lib.hid hsb; clear hsb
      clear A7 E7
      go_wp2
      go_ret
      exact ⟨rfl, hBw7⟩
    | true =>
      have Ht := Lib.hid hsb; clear hsb
      obtain ⟨d0, d1, d2, d3⟩ := A7
      obtain ⟨e0, e1, e2, e3⟩ := E7
      obtain ⟨s1, s2, s3, s4, s5, s6, s7, s8⟩ := of_decide_eq_true Hs.out
      obtain ⟨t1, t2, t3, t4, t5, t6, t7, t8⟩ := of_decide_eq_true Ht.out
      clear Hs Ht
      have C1 := Lib.hid (fun w => common1 a b c d e f g h w s5 s7 s6 s8 s1 s2 s3 s4 t5 t7 t6 t8 t1 t2 t3 t4)
      have C2 := Lib.hid (fun w => common2 a b c d e f g h w s5 s7 s6 s8 s1 s2 s3 s4 t5 t7 t6 t8 t1 t2 t3 t4)
      have I1 := Lib.hid (fun w => inside1 a b c d e f g h w s5 s7 s6 s8 s1 s2 s3 s4 t5 t7 t6 t8 t1 t2 t3 t4)
      have I2 := Lib.hid (fun w => inside2 a b c d e f g h w s5 s7 s6 s8 s1 s2 s3 s4 t5 t7 t6 t8 t1 t2 t3 t4)
      clear s1 s2 s3 s4 s5 s6 s7 s8 t1 t2 t3 t4 t5 t6 t7 t8
      rw [HQ.out] at C1 C2
      generalize cmOk a b c d e f g h = ok at *
      go_wp2_with fail
      refine (C1.out _).mono ?_
      rintro e' w8 ⟨rfl, hb⟩
      have hB8 : Below (w.heap.size + 2) W0 w8 := hB7.trans (hb.mono (by omega))
      have hz8 : w7.heap.size ≤ w8.heap.size := hb.size
      have A8 := hA.mono hB8 (by omega)
      have E8 := hE.mono hB8 (by omega)
      clear hb hB7 d0 d1 d2 d3 e0 e1 e2 e3 hBw7
      obtain ⟨d0, d1, d2, d3⟩ := A8
      obtain ⟨e0, e1, e2, e3⟩ := E8
      have z1 : w.heap.size < w8.heap.size := by omega
      have z2 : w.heap.size + 1 < w8.heap.size := by omega
      go_wp2_with fail
      refine (C2.out _).mono ?_
      rintro e' w9 ⟨rfl, hb⟩
      have hB9 : Below (w.heap.size + 2) W0 w9 := (hB8.alloc (by omega) _).trans (hb.mono (by simp; omega))
      have hz9 : w8.heap.size + 1 ≤ w9.heap.size := by have := hb.size; simp at this; omega
      have G9 : Has4 w9 w8.heap.size q1 q2 q3 q4 := Has4.mono (w := w8.alloc (Obj.cells #[.int .i64 q1, .int .i64 q2, .int .i64 q3, .int .i64 q4] 30)) (by unfold Has4; simp) hb (by simp)
      have A9 := hA.mono hB9 (by omega)
      have E9 := hE.mono hB9 (by omega)
      clear hb hB8 d0 d1 d2 d3 e0 e1 e2 e3
      go_upto_region 14 with (fail)
      generalize hX : w9.alloc (Obj.cells #[.int .i64 q1, .int .i64 q2, .int .i64 q3, .int .i64 q4] 30) = X
      have hBX : Below (w.heap.size + 2) W0 X := by subst hX; exact hB9.alloc (by omega) _
      have GX : Has4 X w8.heap.size q1 q2 q3 q4 := by subst hX; exact G9.mono ((Below.refl w9.heap.size w9).alloc (Nat.le_refl _) _) (by omega)
      have NX : Has4 X w9.heap.size q1 q2 q3 q4 := by subst hX; unfold Has4; simp
      have AX : Has4 X w.heap.size a b c d := hA.mono hBX (by omega)
      have EX : Has4 X (w.heap.size + 1) e f g h := hE.mono hBX (by omega)
      have hzX : w9.heap.size + 1 ≤ X.heap.size := by subst hX; simp
      have hBwX : Below w.heap.size w X := hB0.trans (hBX.mono (by omega))
      clear hX G9 A9 E9 hB9
      obtain ⟨m0, m1, m2, m3⟩ := GX
      obtain ⟨n0, n1, n2, n3⟩ := NX
      obtain ⟨d0, d1, d2, d3⟩ := AX
      obtain ⟨e0, e1, e2, e3⟩ := EX
      have kn := fun w => eqlReg q1 q2 q3 q4 q1 q2 q3 q4 w
      have kg := fun x y w => eqGuardReg .eql x y q1 q2 q3 q4 q1 q2 q3 q4 w
      go_region_held3 (fun w' => w'.cell? ⟨w8.heap.size, 0, none⟩ = some (.int .i64 q1) ∧ w'.cell? ⟨w8.heap.size, 1, none⟩ = some (.int .i64 q2) ∧ w'.cell? ⟨w8.heap.size, 2, none⟩ = some (.int .i64 q3) ∧ w'.cell? ⟨w8.heap.size, 3, none⟩ = some (.int .i64 q4)
          ∧ w'.cell? ⟨w9.heap.size, 0, none⟩ = some (.int .i64 q1) ∧ w'.cell? ⟨w9.heap.size, 1, none⟩ = some (.int .i64 q2) ∧ w'.cell? ⟨w9.heap.size, 2, none⟩ = some (.int .i64 q3) ∧ w'.cell? ⟨w9.heap.size, 3, none⟩ = some (.int .i64 q4)
          ∧ w'.cell? ⟨w.heap.size, 0, none⟩ = some (.int .i64 a) ∧ w'.cell? ⟨w.heap.size, 1, none⟩ = some (.int .i64 b) ∧ w'.cell? ⟨w.heap.size, 2, none⟩ = some (.int .i64 c) ∧ w'.cell? ⟨w.heap.size, 3, none⟩ = some (.int .i64 d)
          ∧ w'.cell? ⟨w.heap.size + 1, 0, none⟩ = some (.int .i64 e) ∧ w'.cell? ⟨w.heap.size + 1, 1, none⟩ = some (.int .i64 f) ∧ w'.cell? ⟨w.heap.size + 1, 2, none⟩ = some (.int .i64 g) ∧ w'.cell? ⟨w.heap.size + 1, 3, none⟩ = some (.int .i64 h)
          ∧ Below w.heap.size w w' ∧ w9.heap.size + 1 ≤ w'.heap.size)
        (first
          | exact ⟨m0, m1, m2, m3, n0, n1, n2, n3, d0, d1, d2, d3, e0, e1, e2, e3, hBwX.drew, hzX⟩
          | (go_split_ands
             have hs := hb.size
             refine ⟨?_, ?_, ?_, ?_, ?_, ?_, ?_, ?_, ?_, ?_, ?_, ?_, ?_, ?_, ?_, ?_, ?_, ?_⟩
             all_goals first
               | (rw [hb.cell (by simp; omega)]; assumption)
               | exact Below.trans (by assumption) (hb.mono (by omega))
               | omega))
        (first
          | (go_at_call 30; refine (I1.out _).mono ?_; rintro e2 w2 ⟨rfl, hb⟩)
          | (go_at_call 31; refine (I2.out _).mono ?_; rintro e2 w2 ⟨rfl, hb⟩))
      rename_i hHeld
      have hfin := hHeld.2.2.2.2.2.2.2.2.2.2.2.2.2.2.2.2.1
      clear hHeld
      go_wp2
      go_ret
      exact ⟨by simp, hfin⟩
end Go.Proofs.Ytgeeaegnohdejaa
