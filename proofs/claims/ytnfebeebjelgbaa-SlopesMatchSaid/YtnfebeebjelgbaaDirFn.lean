import Derived.Test.YtnfebeebjelgbaaDir
namespace Go.Proofs.Ytnfebeebjelgbaa
open Go.ChangeShapes Go.WideShapes Go.ChangeAt Go.RowKit
open Ieee.Format (fin finE htE allFin allHt all_true all_false mulF subF addF Ht Bd divF rootF floorF easeF mixF)
set_option linter.unusedVariables false
set_option linter.unusedSimpArgs false

theorem pick_any (b : Bool) (x y : Int) (w : World) : Calls Try.prog 219 #[.bool b, .int .i64 x, .int .i64 y] w fun e w' => e = .returned (.int .i64 (if b = true then x else y)) ∧ w = w' := by
  cases b
  · go_enter Try.func219, Try.ntmps219
    go_wp2
    go_ret
    exact ⟨rfl, rfl⟩
  · go_enter Try.func219, Try.ntmps219
    go_wp2
    go_ret
    exact ⟨rfl, rfl⟩

/-- what the choice reads: the seven answers -/
def dirB (e1 e2 g1 g2 ga gb : Bool) : Int :=
  if (e1 && e2) = true then -1 else if g1 = true then (if ga = true then 0 else 4) else if g2 = true then (if gb = true then 2 else 6)
  else if gb = true then (if ga = true then 1 else 3) else (if ga = true then 7 else 5)
theorem dirF_B (a b : Nat) : dirF a b = dirB (eqF a 0) (eqF b 0) (bigF b a) (bigF a b) (gtr a 0) (gtr b 0) := by
  unfold dirF dirB
  simp only [Bool.and_eq_true]

set_option maxRecDepth 100000 in
set_option maxHeartbeats 2000000 in
theorem direction_any (a b : Nat) (w : World) (ha : Bd 20 a) (hb : Bd 20 b) : Calls Try.prog 190 #[.float .f32 a, .float .f32 b] w fun e w' => e = .returned (.int .i64 (dirF a b)) ∧ w = w' := by
  have KA := Lib.hid (fun w => magnitude_any a ha.1 w)
  have KB := Lib.hid (fun w => magnitude_any b hb.1 w)
  have k1 := fun w' => run_float_arith (P := Try.prog) w' .mul 37 .f32 (mag b) 1075838976 (mulF (mag b) 1075838976) (Ieee.Format.bits_mul (mag_fin hb.1) const_25.1)
  have k2 := fun w' => run_float_arith (P := Try.prog) w' .mul 37 .f32 (mag a) 1075838976 (mulF (mag a) 1075838976) (Ieee.Format.bits_mul (mag_fin ha.1) const_25.1)
  have hz := fun h => not_zero ha hb h
  rw [dirF_B]
  generalize g1 : bigF b a = q1
  generalize g2 : bigF a b = q2
  rw [g2] at hz
  generalize e1 : eqF a 0 = r1
  generalize e2 : eqF b 0 = r2
  generalize ga : gtr a 0 = s1 at *
  generalize gb : gtr b 0 = s2 at *
  generalize la : lss a 0 = s3 at *
  unfold bigF leF at g1 g2
  unfold eqF at e1 e2
  unfold gtr at ga gb
  unfold lss at la
  clear ha hb
  generalize mulF (mag b) 1075838976 = zb at *
  generalize mulF (mag a) 1075838976 = za at *
  generalize mag a = ma at *
  generalize mag b = mb at *
  have HZ := Lib.hid hz
  clear hz
  cases q1
  · cases q2
    · have hzz := HZ.out rfl
      clear HZ
      subst hzz
      cases s1
      · cases s2
        · cases r1
          · simp only [dirB, Bool.and_true, Bool.true_and, Bool.and_false, Bool.false_and, if_true, if_false, Bool.false_eq_true, Bool.not_true, Bool.not_false, ite_self, reduceIte] at *
            go_enter Try.func190, Try.ntmps190
            go_wp2_with fail
            refine (KA.out _).mono ?_
            rintro e w' ⟨rfl, rfl⟩
            go_wp2_with fail
            refine (KB.out _).mono ?_
            rintro e w' ⟨rfl, rfl⟩
            go_wp2_with fail
            go_ret
            exact ⟨rfl, rfl⟩
          · cases r2
            · simp only [dirB, Bool.and_true, Bool.true_and, Bool.and_false, Bool.false_and, if_true, if_false, Bool.false_eq_true, Bool.not_true, Bool.not_false, ite_self, reduceIte] at *
              go_enter Try.func190, Try.ntmps190
              go_wp2_with fail
              refine (KA.out _).mono ?_
              rintro e w' ⟨rfl, rfl⟩
              go_wp2_with fail
              refine (KB.out _).mono ?_
              rintro e w' ⟨rfl, rfl⟩
              go_wp2_with fail
              go_ret
              exact ⟨rfl, rfl⟩
            · simp only [dirB, Bool.and_true, Bool.true_and, Bool.and_false, Bool.false_and, if_true, if_false, Bool.false_eq_true, Bool.not_true, Bool.not_false, ite_self, reduceIte] at *
              go_enter Try.func190, Try.ntmps190
              go_wp2_with fail
              refine (KA.out _).mono ?_
              rintro e w' ⟨rfl, rfl⟩
              go_wp2_with fail
              refine (KB.out _).mono ?_
              rintro e w' ⟨rfl, rfl⟩
              go_wp2_with fail
              go_ret
              exact ⟨rfl, rfl⟩
        · cases r1
          · simp only [dirB, Bool.and_true, Bool.true_and, Bool.and_false, Bool.false_and, if_true, if_false, Bool.false_eq_true, Bool.not_true, Bool.not_false, ite_self, reduceIte] at *
            go_enter Try.func190, Try.ntmps190
            go_wp2_with fail
            refine (KA.out _).mono ?_
            rintro e w' ⟨rfl, rfl⟩
            go_wp2_with fail
            refine (KB.out _).mono ?_
            rintro e w' ⟨rfl, rfl⟩
            go_wp2_with fail
            go_ret
            exact ⟨rfl, rfl⟩
          · cases r2
            · simp only [dirB, Bool.and_true, Bool.true_and, Bool.and_false, Bool.false_and, if_true, if_false, Bool.false_eq_true, Bool.not_true, Bool.not_false, ite_self, reduceIte] at *
              go_enter Try.func190, Try.ntmps190
              go_wp2_with fail
              refine (KA.out _).mono ?_
              rintro e w' ⟨rfl, rfl⟩
              go_wp2_with fail
              refine (KB.out _).mono ?_
              rintro e w' ⟨rfl, rfl⟩
              go_wp2_with fail
              go_ret
              exact ⟨rfl, rfl⟩
            · simp only [dirB, Bool.and_true, Bool.true_and, Bool.and_false, Bool.false_and, if_true, if_false, Bool.false_eq_true, Bool.not_true, Bool.not_false, ite_self, reduceIte] at *
              go_enter Try.func190, Try.ntmps190
              go_wp2_with fail
              refine (KA.out _).mono ?_
              rintro e w' ⟨rfl, rfl⟩
              go_wp2_with fail
              refine (KB.out _).mono ?_
              rintro e w' ⟨rfl, rfl⟩
              go_wp2_with fail
              go_ret
              exact ⟨rfl, rfl⟩
      · cases s2
        · cases r1
          · simp only [dirB, Bool.and_true, Bool.true_and, Bool.and_false, Bool.false_and, if_true, if_false, Bool.false_eq_true, Bool.not_true, Bool.not_false, ite_self, reduceIte] at *
            go_enter Try.func190, Try.ntmps190
            go_wp2_with fail
            refine (KA.out _).mono ?_
            rintro e w' ⟨rfl, rfl⟩
            go_wp2_with fail
            refine (KB.out _).mono ?_
            rintro e w' ⟨rfl, rfl⟩
            go_wp2_with fail
            go_ret
            exact ⟨rfl, rfl⟩
          · cases r2
            · simp only [dirB, Bool.and_true, Bool.true_and, Bool.and_false, Bool.false_and, if_true, if_false, Bool.false_eq_true, Bool.not_true, Bool.not_false, ite_self, reduceIte] at *
              go_enter Try.func190, Try.ntmps190
              go_wp2_with fail
              refine (KA.out _).mono ?_
              rintro e w' ⟨rfl, rfl⟩
              go_wp2_with fail
              refine (KB.out _).mono ?_
              rintro e w' ⟨rfl, rfl⟩
              go_wp2_with fail
              go_ret
              exact ⟨rfl, rfl⟩
            · simp only [dirB, Bool.and_true, Bool.true_and, Bool.and_false, Bool.false_and, if_true, if_false, Bool.false_eq_true, Bool.not_true, Bool.not_false, ite_self, reduceIte] at *
              go_enter Try.func190, Try.ntmps190
              go_wp2_with fail
              refine (KA.out _).mono ?_
              rintro e w' ⟨rfl, rfl⟩
              go_wp2_with fail
              refine (KB.out _).mono ?_
              rintro e w' ⟨rfl, rfl⟩
              go_wp2_with fail
              go_ret
              exact ⟨rfl, rfl⟩
        · cases r1
          · simp only [dirB, Bool.and_true, Bool.true_and, Bool.and_false, Bool.false_and, if_true, if_false, Bool.false_eq_true, Bool.not_true, Bool.not_false, ite_self, reduceIte] at *
            go_enter Try.func190, Try.ntmps190
            go_wp2_with fail
            refine (KA.out _).mono ?_
            rintro e w' ⟨rfl, rfl⟩
            go_wp2_with fail
            refine (KB.out _).mono ?_
            rintro e w' ⟨rfl, rfl⟩
            go_wp2_with fail
            go_ret
            exact ⟨rfl, rfl⟩
          · cases r2
            · simp only [dirB, Bool.and_true, Bool.true_and, Bool.and_false, Bool.false_and, if_true, if_false, Bool.false_eq_true, Bool.not_true, Bool.not_false, ite_self, reduceIte] at *
              go_enter Try.func190, Try.ntmps190
              go_wp2_with fail
              refine (KA.out _).mono ?_
              rintro e w' ⟨rfl, rfl⟩
              go_wp2_with fail
              refine (KB.out _).mono ?_
              rintro e w' ⟨rfl, rfl⟩
              go_wp2_with fail
              go_ret
              exact ⟨rfl, rfl⟩
            · simp only [dirB, Bool.and_true, Bool.true_and, Bool.and_false, Bool.false_and, if_true, if_false, Bool.false_eq_true, Bool.not_true, Bool.not_false, ite_self, reduceIte] at *
              go_enter Try.func190, Try.ntmps190
              go_wp2_with fail
              refine (KA.out _).mono ?_
              rintro e w' ⟨rfl, rfl⟩
              go_wp2_with fail
              refine (KB.out _).mono ?_
              rintro e w' ⟨rfl, rfl⟩
              go_wp2_with fail
              go_ret
              exact ⟨rfl, rfl⟩
    · clear HZ
      cases s2
      · cases r1
        · simp only [dirB, Bool.and_true, Bool.true_and, Bool.and_false, Bool.false_and, if_true, if_false, Bool.false_eq_true, Bool.not_true, Bool.not_false, ite_self, reduceIte] at *
          go_enter Try.func190, Try.ntmps190
          go_wp2_with fail
          refine (KA.out _).mono ?_
          rintro e w' ⟨rfl, rfl⟩
          go_wp2_with fail
          refine (KB.out _).mono ?_
          rintro e w' ⟨rfl, rfl⟩
          go_wp2_with fail
          go_ret
          exact ⟨rfl, rfl⟩
        · cases r2
          · simp only [dirB, Bool.and_true, Bool.true_and, Bool.and_false, Bool.false_and, if_true, if_false, Bool.false_eq_true, Bool.not_true, Bool.not_false, ite_self, reduceIte] at *
            go_enter Try.func190, Try.ntmps190
            go_wp2_with fail
            refine (KA.out _).mono ?_
            rintro e w' ⟨rfl, rfl⟩
            go_wp2_with fail
            refine (KB.out _).mono ?_
            rintro e w' ⟨rfl, rfl⟩
            go_wp2_with fail
            go_ret
            exact ⟨rfl, rfl⟩
          · simp only [dirB, Bool.and_true, Bool.true_and, Bool.and_false, Bool.false_and, if_true, if_false, Bool.false_eq_true, Bool.not_true, Bool.not_false, ite_self, reduceIte] at *
            go_enter Try.func190, Try.ntmps190
            go_wp2_with fail
            refine (KA.out _).mono ?_
            rintro e w' ⟨rfl, rfl⟩
            go_wp2_with fail
            refine (KB.out _).mono ?_
            rintro e w' ⟨rfl, rfl⟩
            go_wp2_with fail
            go_ret
            exact ⟨rfl, rfl⟩
      · cases r1
        · simp only [dirB, Bool.and_true, Bool.true_and, Bool.and_false, Bool.false_and, if_true, if_false, Bool.false_eq_true, Bool.not_true, Bool.not_false, ite_self, reduceIte] at *
          go_enter Try.func190, Try.ntmps190
          go_wp2_with fail
          refine (KA.out _).mono ?_
          rintro e w' ⟨rfl, rfl⟩
          go_wp2_with fail
          refine (KB.out _).mono ?_
          rintro e w' ⟨rfl, rfl⟩
          go_wp2_with fail
          go_ret
          exact ⟨rfl, rfl⟩
        · cases r2
          · simp only [dirB, Bool.and_true, Bool.true_and, Bool.and_false, Bool.false_and, if_true, if_false, Bool.false_eq_true, Bool.not_true, Bool.not_false, ite_self, reduceIte] at *
            go_enter Try.func190, Try.ntmps190
            go_wp2_with fail
            refine (KA.out _).mono ?_
            rintro e w' ⟨rfl, rfl⟩
            go_wp2_with fail
            refine (KB.out _).mono ?_
            rintro e w' ⟨rfl, rfl⟩
            go_wp2_with fail
            go_ret
            exact ⟨rfl, rfl⟩
          · simp only [dirB, Bool.and_true, Bool.true_and, Bool.and_false, Bool.false_and, if_true, if_false, Bool.false_eq_true, Bool.not_true, Bool.not_false, ite_self, reduceIte] at *
            go_enter Try.func190, Try.ntmps190
            go_wp2_with fail
            refine (KA.out _).mono ?_
            rintro e w' ⟨rfl, rfl⟩
            go_wp2_with fail
            refine (KB.out _).mono ?_
            rintro e w' ⟨rfl, rfl⟩
            go_wp2_with fail
            go_ret
            exact ⟨rfl, rfl⟩
  · clear HZ
    cases s1
    · cases r1
      · simp only [dirB, Bool.and_true, Bool.true_and, Bool.and_false, Bool.false_and, if_true, if_false, Bool.false_eq_true, Bool.not_true, Bool.not_false, ite_self, reduceIte] at *
        go_enter Try.func190, Try.ntmps190
        go_wp2_with fail
        refine (KA.out _).mono ?_
        rintro e w' ⟨rfl, rfl⟩
        go_wp2_with fail
        refine (KB.out _).mono ?_
        rintro e w' ⟨rfl, rfl⟩
        go_wp2_with fail
        go_ret
        exact ⟨rfl, rfl⟩
      · cases r2
        · simp only [dirB, Bool.and_true, Bool.true_and, Bool.and_false, Bool.false_and, if_true, if_false, Bool.false_eq_true, Bool.not_true, Bool.not_false, ite_self, reduceIte] at *
          go_enter Try.func190, Try.ntmps190
          go_wp2_with fail
          refine (KA.out _).mono ?_
          rintro e w' ⟨rfl, rfl⟩
          go_wp2_with fail
          refine (KB.out _).mono ?_
          rintro e w' ⟨rfl, rfl⟩
          go_wp2_with fail
          go_ret
          exact ⟨rfl, rfl⟩
        · simp only [dirB, Bool.and_true, Bool.true_and, Bool.and_false, Bool.false_and, if_true, if_false, Bool.false_eq_true, Bool.not_true, Bool.not_false, ite_self, reduceIte] at *
          go_enter Try.func190, Try.ntmps190
          go_wp2_with fail
          refine (KA.out _).mono ?_
          rintro e w' ⟨rfl, rfl⟩
          go_wp2_with fail
          refine (KB.out _).mono ?_
          rintro e w' ⟨rfl, rfl⟩
          go_wp2_with fail
          go_ret
          exact ⟨rfl, rfl⟩
    · cases r1
      · simp only [dirB, Bool.and_true, Bool.true_and, Bool.and_false, Bool.false_and, if_true, if_false, Bool.false_eq_true, Bool.not_true, Bool.not_false, ite_self, reduceIte] at *
        go_enter Try.func190, Try.ntmps190
        go_wp2_with fail
        refine (KA.out _).mono ?_
        rintro e w' ⟨rfl, rfl⟩
        go_wp2_with fail
        refine (KB.out _).mono ?_
        rintro e w' ⟨rfl, rfl⟩
        go_wp2_with fail
        go_ret
        exact ⟨rfl, rfl⟩
      · cases r2
        · simp only [dirB, Bool.and_true, Bool.true_and, Bool.and_false, Bool.false_and, if_true, if_false, Bool.false_eq_true, Bool.not_true, Bool.not_false, ite_self, reduceIte] at *
          go_enter Try.func190, Try.ntmps190
          go_wp2_with fail
          refine (KA.out _).mono ?_
          rintro e w' ⟨rfl, rfl⟩
          go_wp2_with fail
          refine (KB.out _).mono ?_
          rintro e w' ⟨rfl, rfl⟩
          go_wp2_with fail
          go_ret
          exact ⟨rfl, rfl⟩
        · simp only [dirB, Bool.and_true, Bool.true_and, Bool.and_false, Bool.false_and, if_true, if_false, Bool.false_eq_true, Bool.not_true, Bool.not_false, ite_self, reduceIte] at *
          go_enter Try.func190, Try.ntmps190
          go_wp2_with fail
          refine (KA.out _).mono ?_
          rintro e w' ⟨rfl, rfl⟩
          go_wp2_with fail
          refine (KB.out _).mono ?_
          rintro e w' ⟨rfl, rfl⟩
          go_wp2_with fail
          go_ret
          exact ⟨rfl, rfl⟩

set_option maxRecDepth 100000 in
set_option maxHeartbeats 2000000 in
theorem refdirection_any (a b : Nat) (w : World) (ha : Bd 20 a) (hb : Bd 20 b) (la : a < 4294967296) (lb : b < 4294967296) : Calls Try.prog 191 #[.float .f32 a, .float .f32 b] w fun e w' => e = .returned (.int .i64 (dirF a b)) ∧ w = w' := by
  have RA := Lib.hid (fun w => refabs_any a la w)
  have RB := Lib.hid (fun w => refabs_any b lb w)
  have RM1 := Lib.hid (fun w => ref_mul_ok (mag b) 1075838976 w (mag_fin hb.1) const_25.1 (big_bd hb).1)
  have RM2 := Lib.hid (fun w => ref_mul_ok (mag a) 1075838976 w (mag_fin ha.1) const_25.1 (big_bd ha).1)
  change Hid (∀ w, Calls Try.prog 97 #[.float .f32 a] w fun e w' => e = .returned (.float .f32 (mag a)) ∧ w = w') at RA
  change Hid (∀ w, Calls Try.prog 97 #[.float .f32 b] w fun e w' => e = .returned (.float .f32 (mag b)) ∧ w = w') at RB
  rw [dirF_B]
  generalize g1 : bigF b a = q1
  generalize g2 : bigF a b = q2
  generalize e1 : eqF a 0 = r1
  generalize e2 : eqF b 0 = r2
  generalize ga : gtr a 0 = s1 at *
  generalize gb : gtr b 0 = s2 at *
  unfold bigF leF at g1 g2
  unfold eqF at e1 e2
  unfold gtr at ga gb
  clear ha hb la lb
  generalize mulF (mag b) 1075838976 = zb at *
  generalize mulF (mag a) 1075838976 = za at *
  generalize mag a = ma at *
  generalize mag b = mb at *
  have KP := Lib.hid (fun b x y w => pick_any b x y w)
  cases q1
  · cases q2
    · cases s1
      · cases s2
        · cases r1
          · simp only [dirB, Bool.and_true, Bool.true_and, Bool.and_false, Bool.false_and, if_true, if_false, Bool.false_eq_true, Bool.not_true, Bool.not_false, ite_self, reduceIte] at *
            go_enter Try.func191, Try.ntmps191
            go_wp2_with fail
            refine (RB.out _).mono ?_
            rintro e w' ⟨rfl, rfl⟩
            go_wp2_with fail
            refine (RM1.out _).mono ?_
            rintro e w' ⟨rfl, rfl⟩
            go_wp2_with fail
            refine (RA.out _).mono ?_
            rintro e w' ⟨rfl, rfl⟩
            go_wp2_with fail
            refine (RA.out _).mono ?_
            rintro e w' ⟨rfl, rfl⟩
            go_wp2_with fail
            refine (RM2.out _).mono ?_
            rintro e w' ⟨rfl, rfl⟩
            go_wp2_with fail
            refine (RB.out _).mono ?_
            rintro e w' ⟨rfl, rfl⟩
            go_wp2_with fail
            refine (KP.out _ _ _ _).mono ?_
            rintro e w' ⟨rfl, rfl⟩
            go_wp2_with fail
            go_ret
            first | exact ⟨rfl, rfl⟩ | exact ⟨by simp [ga, gb], rfl⟩
          · cases r2
            · simp only [dirB, Bool.and_true, Bool.true_and, Bool.and_false, Bool.false_and, if_true, if_false, Bool.false_eq_true, Bool.not_true, Bool.not_false, ite_self, reduceIte] at *
              go_enter Try.func191, Try.ntmps191
              go_wp2_with fail
              refine (RB.out _).mono ?_
              rintro e w' ⟨rfl, rfl⟩
              go_wp2_with fail
              refine (RM1.out _).mono ?_
              rintro e w' ⟨rfl, rfl⟩
              go_wp2_with fail
              refine (RA.out _).mono ?_
              rintro e w' ⟨rfl, rfl⟩
              go_wp2_with fail
              refine (RA.out _).mono ?_
              rintro e w' ⟨rfl, rfl⟩
              go_wp2_with fail
              refine (RM2.out _).mono ?_
              rintro e w' ⟨rfl, rfl⟩
              go_wp2_with fail
              refine (RB.out _).mono ?_
              rintro e w' ⟨rfl, rfl⟩
              go_wp2_with fail
              refine (KP.out _ _ _ _).mono ?_
              rintro e w' ⟨rfl, rfl⟩
              go_wp2_with fail
              go_ret
              first | exact ⟨rfl, rfl⟩ | exact ⟨by simp [ga, gb], rfl⟩
            · simp only [dirB, Bool.and_true, Bool.true_and, Bool.and_false, Bool.false_and, if_true, if_false, Bool.false_eq_true, Bool.not_true, Bool.not_false, ite_self, reduceIte] at *
              go_enter Try.func191, Try.ntmps191
              go_wp2_with fail
              go_ret
              exact ⟨rfl, rfl⟩
        · cases r1
          · simp only [dirB, Bool.and_true, Bool.true_and, Bool.and_false, Bool.false_and, if_true, if_false, Bool.false_eq_true, Bool.not_true, Bool.not_false, ite_self, reduceIte] at *
            go_enter Try.func191, Try.ntmps191
            go_wp2_with fail
            refine (RB.out _).mono ?_
            rintro e w' ⟨rfl, rfl⟩
            go_wp2_with fail
            refine (RM1.out _).mono ?_
            rintro e w' ⟨rfl, rfl⟩
            go_wp2_with fail
            refine (RA.out _).mono ?_
            rintro e w' ⟨rfl, rfl⟩
            go_wp2_with fail
            refine (RA.out _).mono ?_
            rintro e w' ⟨rfl, rfl⟩
            go_wp2_with fail
            refine (RM2.out _).mono ?_
            rintro e w' ⟨rfl, rfl⟩
            go_wp2_with fail
            refine (RB.out _).mono ?_
            rintro e w' ⟨rfl, rfl⟩
            go_wp2_with fail
            refine (KP.out _ _ _ _).mono ?_
            rintro e w' ⟨rfl, rfl⟩
            go_wp2_with fail
            go_ret
            first | exact ⟨rfl, rfl⟩ | exact ⟨by simp [ga, gb], rfl⟩
          · cases r2
            · simp only [dirB, Bool.and_true, Bool.true_and, Bool.and_false, Bool.false_and, if_true, if_false, Bool.false_eq_true, Bool.not_true, Bool.not_false, ite_self, reduceIte] at *
              go_enter Try.func191, Try.ntmps191
              go_wp2_with fail
              refine (RB.out _).mono ?_
              rintro e w' ⟨rfl, rfl⟩
              go_wp2_with fail
              refine (RM1.out _).mono ?_
              rintro e w' ⟨rfl, rfl⟩
              go_wp2_with fail
              refine (RA.out _).mono ?_
              rintro e w' ⟨rfl, rfl⟩
              go_wp2_with fail
              refine (RA.out _).mono ?_
              rintro e w' ⟨rfl, rfl⟩
              go_wp2_with fail
              refine (RM2.out _).mono ?_
              rintro e w' ⟨rfl, rfl⟩
              go_wp2_with fail
              refine (RB.out _).mono ?_
              rintro e w' ⟨rfl, rfl⟩
              go_wp2_with fail
              refine (KP.out _ _ _ _).mono ?_
              rintro e w' ⟨rfl, rfl⟩
              go_wp2_with fail
              go_ret
              first | exact ⟨rfl, rfl⟩ | exact ⟨by simp [ga, gb], rfl⟩
            · simp only [dirB, Bool.and_true, Bool.true_and, Bool.and_false, Bool.false_and, if_true, if_false, Bool.false_eq_true, Bool.not_true, Bool.not_false, ite_self, reduceIte] at *
              go_enter Try.func191, Try.ntmps191
              go_wp2_with fail
              go_ret
              exact ⟨rfl, rfl⟩
      · cases s2
        · cases r1
          · simp only [dirB, Bool.and_true, Bool.true_and, Bool.and_false, Bool.false_and, if_true, if_false, Bool.false_eq_true, Bool.not_true, Bool.not_false, ite_self, reduceIte] at *
            go_enter Try.func191, Try.ntmps191
            go_wp2_with fail
            refine (RB.out _).mono ?_
            rintro e w' ⟨rfl, rfl⟩
            go_wp2_with fail
            refine (RM1.out _).mono ?_
            rintro e w' ⟨rfl, rfl⟩
            go_wp2_with fail
            refine (RA.out _).mono ?_
            rintro e w' ⟨rfl, rfl⟩
            go_wp2_with fail
            refine (RA.out _).mono ?_
            rintro e w' ⟨rfl, rfl⟩
            go_wp2_with fail
            refine (RM2.out _).mono ?_
            rintro e w' ⟨rfl, rfl⟩
            go_wp2_with fail
            refine (RB.out _).mono ?_
            rintro e w' ⟨rfl, rfl⟩
            go_wp2_with fail
            refine (KP.out _ _ _ _).mono ?_
            rintro e w' ⟨rfl, rfl⟩
            go_wp2_with fail
            go_ret
            first | exact ⟨rfl, rfl⟩ | exact ⟨by simp [ga, gb], rfl⟩
          · cases r2
            · simp only [dirB, Bool.and_true, Bool.true_and, Bool.and_false, Bool.false_and, if_true, if_false, Bool.false_eq_true, Bool.not_true, Bool.not_false, ite_self, reduceIte] at *
              go_enter Try.func191, Try.ntmps191
              go_wp2_with fail
              refine (RB.out _).mono ?_
              rintro e w' ⟨rfl, rfl⟩
              go_wp2_with fail
              refine (RM1.out _).mono ?_
              rintro e w' ⟨rfl, rfl⟩
              go_wp2_with fail
              refine (RA.out _).mono ?_
              rintro e w' ⟨rfl, rfl⟩
              go_wp2_with fail
              refine (RA.out _).mono ?_
              rintro e w' ⟨rfl, rfl⟩
              go_wp2_with fail
              refine (RM2.out _).mono ?_
              rintro e w' ⟨rfl, rfl⟩
              go_wp2_with fail
              refine (RB.out _).mono ?_
              rintro e w' ⟨rfl, rfl⟩
              go_wp2_with fail
              refine (KP.out _ _ _ _).mono ?_
              rintro e w' ⟨rfl, rfl⟩
              go_wp2_with fail
              go_ret
              first | exact ⟨rfl, rfl⟩ | exact ⟨by simp [ga, gb], rfl⟩
            · simp only [dirB, Bool.and_true, Bool.true_and, Bool.and_false, Bool.false_and, if_true, if_false, Bool.false_eq_true, Bool.not_true, Bool.not_false, ite_self, reduceIte] at *
              go_enter Try.func191, Try.ntmps191
              go_wp2_with fail
              go_ret
              exact ⟨rfl, rfl⟩
        · cases r1
          · simp only [dirB, Bool.and_true, Bool.true_and, Bool.and_false, Bool.false_and, if_true, if_false, Bool.false_eq_true, Bool.not_true, Bool.not_false, ite_self, reduceIte] at *
            go_enter Try.func191, Try.ntmps191
            go_wp2_with fail
            refine (RB.out _).mono ?_
            rintro e w' ⟨rfl, rfl⟩
            go_wp2_with fail
            refine (RM1.out _).mono ?_
            rintro e w' ⟨rfl, rfl⟩
            go_wp2_with fail
            refine (RA.out _).mono ?_
            rintro e w' ⟨rfl, rfl⟩
            go_wp2_with fail
            refine (RA.out _).mono ?_
            rintro e w' ⟨rfl, rfl⟩
            go_wp2_with fail
            refine (RM2.out _).mono ?_
            rintro e w' ⟨rfl, rfl⟩
            go_wp2_with fail
            refine (RB.out _).mono ?_
            rintro e w' ⟨rfl, rfl⟩
            go_wp2_with fail
            refine (KP.out _ _ _ _).mono ?_
            rintro e w' ⟨rfl, rfl⟩
            go_wp2_with fail
            go_ret
            first | exact ⟨rfl, rfl⟩ | exact ⟨by simp [ga, gb], rfl⟩
          · cases r2
            · simp only [dirB, Bool.and_true, Bool.true_and, Bool.and_false, Bool.false_and, if_true, if_false, Bool.false_eq_true, Bool.not_true, Bool.not_false, ite_self, reduceIte] at *
              go_enter Try.func191, Try.ntmps191
              go_wp2_with fail
              refine (RB.out _).mono ?_
              rintro e w' ⟨rfl, rfl⟩
              go_wp2_with fail
              refine (RM1.out _).mono ?_
              rintro e w' ⟨rfl, rfl⟩
              go_wp2_with fail
              refine (RA.out _).mono ?_
              rintro e w' ⟨rfl, rfl⟩
              go_wp2_with fail
              refine (RA.out _).mono ?_
              rintro e w' ⟨rfl, rfl⟩
              go_wp2_with fail
              refine (RM2.out _).mono ?_
              rintro e w' ⟨rfl, rfl⟩
              go_wp2_with fail
              refine (RB.out _).mono ?_
              rintro e w' ⟨rfl, rfl⟩
              go_wp2_with fail
              refine (KP.out _ _ _ _).mono ?_
              rintro e w' ⟨rfl, rfl⟩
              go_wp2_with fail
              go_ret
              first | exact ⟨rfl, rfl⟩ | exact ⟨by simp [ga, gb], rfl⟩
            · simp only [dirB, Bool.and_true, Bool.true_and, Bool.and_false, Bool.false_and, if_true, if_false, Bool.false_eq_true, Bool.not_true, Bool.not_false, ite_self, reduceIte] at *
              go_enter Try.func191, Try.ntmps191
              go_wp2_with fail
              go_ret
              exact ⟨rfl, rfl⟩
    · cases s2
      · cases r1
        · simp only [dirB, Bool.and_true, Bool.true_and, Bool.and_false, Bool.false_and, if_true, if_false, Bool.false_eq_true, Bool.not_true, Bool.not_false, ite_self, reduceIte] at *
          go_enter Try.func191, Try.ntmps191
          go_wp2_with fail
          refine (RB.out _).mono ?_
          rintro e w' ⟨rfl, rfl⟩
          go_wp2_with fail
          refine (RM1.out _).mono ?_
          rintro e w' ⟨rfl, rfl⟩
          go_wp2_with fail
          refine (RA.out _).mono ?_
          rintro e w' ⟨rfl, rfl⟩
          go_wp2_with fail
          refine (RA.out _).mono ?_
          rintro e w' ⟨rfl, rfl⟩
          go_wp2_with fail
          refine (RM2.out _).mono ?_
          rintro e w' ⟨rfl, rfl⟩
          go_wp2_with fail
          refine (RB.out _).mono ?_
          rintro e w' ⟨rfl, rfl⟩
          go_wp2_with fail
          refine (KP.out _ _ _ _).mono ?_
          rintro e w' ⟨rfl, rfl⟩
          go_wp2_with fail
          go_ret
          first | exact ⟨rfl, rfl⟩ | exact ⟨by simp [ga, gb], rfl⟩
        · cases r2
          · simp only [dirB, Bool.and_true, Bool.true_and, Bool.and_false, Bool.false_and, if_true, if_false, Bool.false_eq_true, Bool.not_true, Bool.not_false, ite_self, reduceIte] at *
            go_enter Try.func191, Try.ntmps191
            go_wp2_with fail
            refine (RB.out _).mono ?_
            rintro e w' ⟨rfl, rfl⟩
            go_wp2_with fail
            refine (RM1.out _).mono ?_
            rintro e w' ⟨rfl, rfl⟩
            go_wp2_with fail
            refine (RA.out _).mono ?_
            rintro e w' ⟨rfl, rfl⟩
            go_wp2_with fail
            refine (RA.out _).mono ?_
            rintro e w' ⟨rfl, rfl⟩
            go_wp2_with fail
            refine (RM2.out _).mono ?_
            rintro e w' ⟨rfl, rfl⟩
            go_wp2_with fail
            refine (RB.out _).mono ?_
            rintro e w' ⟨rfl, rfl⟩
            go_wp2_with fail
            refine (KP.out _ _ _ _).mono ?_
            rintro e w' ⟨rfl, rfl⟩
            go_wp2_with fail
            go_ret
            first | exact ⟨rfl, rfl⟩ | exact ⟨by simp [ga, gb], rfl⟩
          · simp only [dirB, Bool.and_true, Bool.true_and, Bool.and_false, Bool.false_and, if_true, if_false, Bool.false_eq_true, Bool.not_true, Bool.not_false, ite_self, reduceIte] at *
            go_enter Try.func191, Try.ntmps191
            go_wp2_with fail
            go_ret
            exact ⟨rfl, rfl⟩
      · cases r1
        · simp only [dirB, Bool.and_true, Bool.true_and, Bool.and_false, Bool.false_and, if_true, if_false, Bool.false_eq_true, Bool.not_true, Bool.not_false, ite_self, reduceIte] at *
          go_enter Try.func191, Try.ntmps191
          go_wp2_with fail
          refine (RB.out _).mono ?_
          rintro e w' ⟨rfl, rfl⟩
          go_wp2_with fail
          refine (RM1.out _).mono ?_
          rintro e w' ⟨rfl, rfl⟩
          go_wp2_with fail
          refine (RA.out _).mono ?_
          rintro e w' ⟨rfl, rfl⟩
          go_wp2_with fail
          refine (RA.out _).mono ?_
          rintro e w' ⟨rfl, rfl⟩
          go_wp2_with fail
          refine (RM2.out _).mono ?_
          rintro e w' ⟨rfl, rfl⟩
          go_wp2_with fail
          refine (RB.out _).mono ?_
          rintro e w' ⟨rfl, rfl⟩
          go_wp2_with fail
          refine (KP.out _ _ _ _).mono ?_
          rintro e w' ⟨rfl, rfl⟩
          go_wp2_with fail
          go_ret
          first | exact ⟨rfl, rfl⟩ | exact ⟨by simp [ga, gb], rfl⟩
        · cases r2
          · simp only [dirB, Bool.and_true, Bool.true_and, Bool.and_false, Bool.false_and, if_true, if_false, Bool.false_eq_true, Bool.not_true, Bool.not_false, ite_self, reduceIte] at *
            go_enter Try.func191, Try.ntmps191
            go_wp2_with fail
            refine (RB.out _).mono ?_
            rintro e w' ⟨rfl, rfl⟩
            go_wp2_with fail
            refine (RM1.out _).mono ?_
            rintro e w' ⟨rfl, rfl⟩
            go_wp2_with fail
            refine (RA.out _).mono ?_
            rintro e w' ⟨rfl, rfl⟩
            go_wp2_with fail
            refine (RA.out _).mono ?_
            rintro e w' ⟨rfl, rfl⟩
            go_wp2_with fail
            refine (RM2.out _).mono ?_
            rintro e w' ⟨rfl, rfl⟩
            go_wp2_with fail
            refine (RB.out _).mono ?_
            rintro e w' ⟨rfl, rfl⟩
            go_wp2_with fail
            refine (KP.out _ _ _ _).mono ?_
            rintro e w' ⟨rfl, rfl⟩
            go_wp2_with fail
            go_ret
            first | exact ⟨rfl, rfl⟩ | exact ⟨by simp [ga, gb], rfl⟩
          · simp only [dirB, Bool.and_true, Bool.true_and, Bool.and_false, Bool.false_and, if_true, if_false, Bool.false_eq_true, Bool.not_true, Bool.not_false, ite_self, reduceIte] at *
            go_enter Try.func191, Try.ntmps191
            go_wp2_with fail
            go_ret
            exact ⟨rfl, rfl⟩
  · cases s1
    · cases r1
      · simp only [dirB, Bool.and_true, Bool.true_and, Bool.and_false, Bool.false_and, if_true, if_false, Bool.false_eq_true, Bool.not_true, Bool.not_false, ite_self, reduceIte] at *
        go_enter Try.func191, Try.ntmps191
        go_wp2_with fail
        refine (RB.out _).mono ?_
        rintro e w' ⟨rfl, rfl⟩
        go_wp2_with fail
        refine (RM1.out _).mono ?_
        rintro e w' ⟨rfl, rfl⟩
        go_wp2_with fail
        refine (RA.out _).mono ?_
        rintro e w' ⟨rfl, rfl⟩
        go_wp2_with fail
        refine (KP.out _ _ _ _).mono ?_
        rintro e w' ⟨rfl, rfl⟩
        go_wp2_with fail
        go_ret
        first | exact ⟨rfl, rfl⟩ | exact ⟨by simp [ga, gb], rfl⟩
      · cases r2
        · simp only [dirB, Bool.and_true, Bool.true_and, Bool.and_false, Bool.false_and, if_true, if_false, Bool.false_eq_true, Bool.not_true, Bool.not_false, ite_self, reduceIte] at *
          go_enter Try.func191, Try.ntmps191
          go_wp2_with fail
          refine (RB.out _).mono ?_
          rintro e w' ⟨rfl, rfl⟩
          go_wp2_with fail
          refine (RM1.out _).mono ?_
          rintro e w' ⟨rfl, rfl⟩
          go_wp2_with fail
          refine (RA.out _).mono ?_
          rintro e w' ⟨rfl, rfl⟩
          go_wp2_with fail
          refine (KP.out _ _ _ _).mono ?_
          rintro e w' ⟨rfl, rfl⟩
          go_wp2_with fail
          go_ret
          first | exact ⟨rfl, rfl⟩ | exact ⟨by simp [ga, gb], rfl⟩
        · simp only [dirB, Bool.and_true, Bool.true_and, Bool.and_false, Bool.false_and, if_true, if_false, Bool.false_eq_true, Bool.not_true, Bool.not_false, ite_self, reduceIte] at *
          go_enter Try.func191, Try.ntmps191
          go_wp2_with fail
          go_ret
          exact ⟨rfl, rfl⟩
    · cases r1
      · simp only [dirB, Bool.and_true, Bool.true_and, Bool.and_false, Bool.false_and, if_true, if_false, Bool.false_eq_true, Bool.not_true, Bool.not_false, ite_self, reduceIte] at *
        go_enter Try.func191, Try.ntmps191
        go_wp2_with fail
        refine (RB.out _).mono ?_
        rintro e w' ⟨rfl, rfl⟩
        go_wp2_with fail
        refine (RM1.out _).mono ?_
        rintro e w' ⟨rfl, rfl⟩
        go_wp2_with fail
        refine (RA.out _).mono ?_
        rintro e w' ⟨rfl, rfl⟩
        go_wp2_with fail
        refine (KP.out _ _ _ _).mono ?_
        rintro e w' ⟨rfl, rfl⟩
        go_wp2_with fail
        go_ret
        first | exact ⟨rfl, rfl⟩ | exact ⟨by simp [ga, gb], rfl⟩
      · cases r2
        · simp only [dirB, Bool.and_true, Bool.true_and, Bool.and_false, Bool.false_and, if_true, if_false, Bool.false_eq_true, Bool.not_true, Bool.not_false, ite_self, reduceIte] at *
          go_enter Try.func191, Try.ntmps191
          go_wp2_with fail
          refine (RB.out _).mono ?_
          rintro e w' ⟨rfl, rfl⟩
          go_wp2_with fail
          refine (RM1.out _).mono ?_
          rintro e w' ⟨rfl, rfl⟩
          go_wp2_with fail
          refine (RA.out _).mono ?_
          rintro e w' ⟨rfl, rfl⟩
          go_wp2_with fail
          refine (KP.out _ _ _ _).mono ?_
          rintro e w' ⟨rfl, rfl⟩
          go_wp2_with fail
          go_ret
          first | exact ⟨rfl, rfl⟩ | exact ⟨by simp [ga, gb], rfl⟩
        · simp only [dirB, Bool.and_true, Bool.true_and, Bool.and_false, Bool.false_and, if_true, if_false, Bool.false_eq_true, Bool.not_true, Bool.not_false, ite_self, reduceIte] at *
          go_enter Try.func191, Try.ntmps191
          go_wp2_with fail
          go_ret
          exact ⟨rfl, rfl⟩
end Go.Proofs.Ytnfebeebjelgbaa
