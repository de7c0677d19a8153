import Derived.Test.YtkmcinibaffpmaaWideFn5
import Derived.RegionTactic
import Derived.ChangeAlike
import Derived.Deep.QuietTactic
import Derived.BigQuiet
namespace Go.Proofs.Ytkmcinibaffpmaa
open Go.ChangeShapes Go.WideShapes Go.ChangeAt Go.RowKit
open Ieee.Format (fin finE htE allFin allHt all_true all_false mulF subF addF Ht Bd divF rootF floorF easeF mixF)
set_option linter.unusedVariables false
open Wide
open Ieee.Format (zi rung_lit sgn_lit single_binade single_least)

theorem zi_parts (x : Nat) (hx : x < 4294967296) :
    (x / 8388608 % 256 = 0 → zi x = (if x / 2147483648 = 1 then -1 else 1) * ((x % 8388608 * 2 ^ 11 : Nat) : Int)) ∧
    (0 < x / 8388608 % 256 → zi x = (if x / 2147483648 = 1 then -1 else 1) * (((x % 8388608 + 8388608) * 2 ^ (x / 8388608 % 256 - 1 + 11) : Nat) : Int)) := by
  have hs : (Ieee.single.sgn x = true) ↔ x / 2147483648 = 1 := by rw [sgn_lit]; simp; omega
  have hr := rung_lit x
  have hm : ∀ (P Q : Nat), (if Ieee.single.sgn x then (-1 : Int) else 1) * ((P * Q : Nat) : Int) = (if x / 2147483648 = 1 then -1 else 1) * ((P * Q : Nat) : Int) := fun P Q => by
    by_cases c : x / 2147483648 = 1
    · rw [if_pos c, if_pos (hs.2 c)]
    · rw [if_neg c, if_neg (fun h => c (hs.1 h))]
  constructor
  · intro h
    have h1 : x % 2147483648 < 8388608 := by omega
    unfold zi
    rw [hm]
    have e1 : Ieee.single.rmag (Ieee.single.rung x) = x % 8388608 := by
      unfold Ieee.Format.rmag; rw [single_binade, hr, if_pos h1]; omega
    have e2 : (Ieee.single.rplace (Ieee.single.rung x) + 160).toNat = 11 := by
      unfold Ieee.Format.rplace; rw [single_binade, single_least, hr, if_pos h1]; omega
    rw [e1, e2]
  · intro h
    have h1 : ¬ x % 2147483648 < 8388608 := by omega
    unfold zi
    rw [hm]
    have e1 : Ieee.single.rmag (Ieee.single.rung x) = x % 8388608 + 8388608 := by
      unfold Ieee.Format.rmag; rw [single_binade, hr, if_neg h1]; omega
    have e2 : (Ieee.single.rplace (Ieee.single.rung x) + 160).toNat = x / 8388608 % 256 - 1 + 11 := by
      unfold Ieee.Format.rplace; rw [single_binade, single_least, hr, if_neg h1]; omega
    rw [e1, e2]
theorem wideV_of {z : Int} {a b c d e : Int} (h0 : dig z 0 = a) (h1 : dig z 1 = b) (h2 : dig z 2 = c) (h3 : dig z 3 = d) (h4 : dig z 4 = e) : wideV z = .agg #[.int .u64 a, .int .u64 b, .int .u64 c, .int .u64 d, .int .u64 e] := by
  unfold wideV; rw [h0, h1, h2, h3, h4]
set_option maxRecDepth 100000 in
set_option maxHeartbeats 8000000 in
theorem of_norm (x m e j r : Nat) (w : World) (hx : x < 4294967296) (he : x / 8388608 % 256 = e) (hm : x % 8388608 = m) (h0 : 0 < e) (hj : (e - 1 + 11) / 64 = j) (hr : (e - 1 + 11) % 64 = r) (hj2 : j ≤ 2) (Z : Int) (hZ : Z = (((m + 8388608) * 2 ^ (64 * j + r) : Nat) : Int)) :
    (x / 2147483648 = 0 → Calls Try.prog 101 #[.float .f32 x] w fun e w' => e = .returned (wideV Z) ∧ Below w.heap.size w w') ∧
    (x / 2147483648 = 1 → Calls Try.prog 101 #[.float .f32 x] w fun e w' => e = .returned (wideV (-Z)) ∧ Below w.heap.size w w') := by
  have KF := run_f32bits x
  have ka : bits .and .u32 (x : Int) 8388607 = (m : Int) := by rw [and_23 _ (by omega) (by omega)]; omega
  have kb : bits .and .u32 ((x : Int) / 8388608) 255 = (e : Int) := by rw [and_8 _ (by omega) (by omega)]; omega
  have m2 : (m : Int) ≤ 8388607 := by omega
  have kc : bits .or .u64 (m : Int) 8388608 = ((m + 8388608 : Nat) : Int) := by rw [or_u64 m (by omega)]; omega
  obtain ⟨sd, sz⟩ := shift_dig (m + 8388608) j r (by omega) (by omega) (by omega)
  rw [← hZ] at sd
  have hA0 : ((e : Int) - 1 + 11) / 64 = (j : Int) := by omega
  have hA1 : ((e : Int) - 1 + 11) % 64 = (r : Int) := by omega
  have e0 : 1 ≤ (e : Int) := by omega
  have e1 : (e : Int) ≤ 255 := by omega
  have r0 : (r : Int) ≤ 63 := by omega
  have KM := Lib.hid (fun w => minus_any Z w)
  have HX : Hid (x < 4294967296) := hx
  clear hx he hm hj hr h0 hZ
  generalize m + 8388608 = M at *
  have D0 := sd 0 (by omega)
  have D1 := sd 1 (by omega)
  have D2 := sd 2 (by omega)
  have D3 := sd 3 (by omega)
  have D4 := sd 4 (by omega)
  clear sd
  by_cases hr4 : r ≤ 40
  · have s0 := sz hr4
    rw [s0] at D0 D1 D2 D3 D4
    have r1 : ¬ 40 < (r : Int) := by omega
    clear hr4 s0 sz
    rcases (show j = 0 ∨ j = 1 ∨ j = 2 by omega) with rfl | rfl | rfl
    all_goals
      simp at D0 D1 D2 D3 D4
      have HV := Lib.hid (wideV_of D0 D1 D2 D3 D4)
      clear D0 D1 D2 D3 D4 hj2
      constructor
      · intro hs
        have ks : (x : Int) / 2147483648 = 0 := by have := HX.out; omega
        clear hs KM HX
        generalize hVV : wideV Z = V at *
        clear hVV
        generalize hQ : ((M : Int) * 2 ^ r % 18446744073709551616) = Q0 at *
        generalize hR : ((M : Int) / 2 ^ (64 - r)) = R0 at *
        have KW : IntKind.u64.wrap ((M : Int) * 2 ^ r) = Q0 := by rw [wrap_u64, hQ]
        clear hQ
        go_enter Try.func101, Try.ntmps101
        go_wp2_with fail
        refine bodyPost_ret (v := V) (by rw [HV.out]; simp [results, Try.results101, go_sem, *]) rfl ⟨rfl, (by repeat (first | with_reducible exact Below.refl _ _ | with_reducible apply Below.drew | with_reducible refine below_drewN ?_ _ | (with_reducible refine Below.setCell ?_ ?_ _; rotate_left; focus (first | omega | (simp <;> omega))) | (with_reducible refine Below.alloc ?_ ?_ _; rotate_left; focus (first | omega | (simp <;> omega)))))⟩
      · intro hs
        have ks : (x : Int) / 2147483648 = 1 := by have := HX.out; omega
        clear hs HX
        generalize hQ : ((M : Int) * 2 ^ r % 18446744073709551616) = Q0 at *
        generalize hR : ((M : Int) / 2 ^ (64 - r)) = R0 at *
        have KW : IntKind.u64.wrap ((M : Int) * 2 ^ r) = Q0 := by rw [wrap_u64, hQ]
        clear hQ
        rw [HV.out] at KM
        unfold wideV at KM
        unfold wideV
        generalize dig (-Z) = s at *
        go_enter Try.func101, Try.ntmps101
        go_wp2_with fail
        generalize hW : w.alloc (.cells #[.int .u64 0, .int .u64 0, .int .u64 0, .int .u64 0, .int .u64 0] 144) = W0 at *
        refine (KM.out _).mono ?_
        rintro e w2 ⟨rfl, hb⟩
        have Z0 : Blk W0 w.heap.size #[.int .u64 0, .int .u64 0, .int .u64 0, .int .u64 0, .int .u64 0] 144 := by rw [← hW]; exact Blk.new _ _ _
        have B1 : Below w.heap.size w W0 := by rw [← hW]; exact (by repeat (first | with_reducible exact Below.refl _ _ | with_reducible apply Below.drew | with_reducible refine below_drewN ?_ _ | (with_reducible refine Below.setCell ?_ ?_ _; rotate_left; focus (first | omega | (simp <;> omega))) | (with_reducible refine Below.alloc ?_ ?_ _; rotate_left; focus (first | omega | (simp <;> omega)))))
        have Z1 := (Z0.alloc _).below hb (Z0.alloc _).lt
        have B2 := (B1.alloc (Nat.le_of_lt Z0.lt) _).trans (hb.mono (Nat.le_of_lt (Z0.alloc _).lt))
        have HB := Lib.hid B2
        clear hb hW Z0 B1 B2
        have zc0 := Z1.cell 0
        have zc1 := Z1.cell 1
        have zc2 := Z1.cell 2
        have zc3 := Z1.cell 3
        have zc4 := Z1.cell 4
        simp at zc0 zc1 zc2 zc3 zc4
        have zf0 := Z1.frozen 0
        have zf1 := Z1.frozen 1
        have zf2 := Z1.frozen 2
        have zf3 := Z1.frozen 3
        have zf4 := Z1.frozen 4
        have l1 := Z1.lt
        clear Z1
        go_wp2_with fail
        have B0 := HB.out
        refine bodyPost_ret (v := .agg #[.int .u64 (s 0), .int .u64 (s 1), .int .u64 (s 2), .int .u64 (s 3), .int .u64 (s 4)]) (by simp [results, Try.results101, go_sem, *]) rfl ⟨rfl, (by have hszz := B0.size; repeat (first | with_reducible exact B0 | with_reducible apply Below.drew | with_reducible refine below_drewN ?_ _ | (with_reducible refine Below.setCell ?_ ?_ _; rotate_left; focus (first | omega | (simp <;> omega))) | (with_reducible refine Below.alloc ?_ ?_ _; rotate_left; focus (first | omega | (simp <;> omega)))))⟩
  · have r1 : 40 < (r : Int) := by omega
    clear hr4 sz
    rcases (show j = 0 ∨ j = 1 ∨ j = 2 by omega) with rfl | rfl | rfl
    all_goals
      simp at D0 D1 D2 D3 D4
      have HV := Lib.hid (wideV_of D0 D1 D2 D3 D4)
      clear D0 D1 D2 D3 D4 hj2
      constructor
      · intro hs
        have ks : (x : Int) / 2147483648 = 0 := by have := HX.out; omega
        clear hs KM HX
        generalize hVV : wideV Z = V at *
        clear hVV
        generalize hQ : ((M : Int) * 2 ^ r % 18446744073709551616) = Q0 at *
        generalize hR : ((M : Int) / 2 ^ (64 - r)) = R0 at *
        have KW : IntKind.u64.wrap ((M : Int) * 2 ^ r) = Q0 := by rw [wrap_u64, hQ]
        clear hQ
        go_enter Try.func101, Try.ntmps101
        go_wp2_with fail
        refine bodyPost_ret (v := V) (by rw [HV.out]; simp [results, Try.results101, go_sem, *]) rfl ⟨rfl, (by repeat (first | with_reducible exact Below.refl _ _ | with_reducible apply Below.drew | with_reducible refine below_drewN ?_ _ | (with_reducible refine Below.setCell ?_ ?_ _; rotate_left; focus (first | omega | (simp <;> omega))) | (with_reducible refine Below.alloc ?_ ?_ _; rotate_left; focus (first | omega | (simp <;> omega)))))⟩
      · intro hs
        have ks : (x : Int) / 2147483648 = 1 := by have := HX.out; omega
        clear hs HX
        generalize hQ : ((M : Int) * 2 ^ r % 18446744073709551616) = Q0 at *
        generalize hR : ((M : Int) / 2 ^ (64 - r)) = R0 at *
        have KW : IntKind.u64.wrap ((M : Int) * 2 ^ r) = Q0 := by rw [wrap_u64, hQ]
        clear hQ
        rw [HV.out] at KM
        unfold wideV at KM
        unfold wideV
        generalize dig (-Z) = s at *
        go_enter Try.func101, Try.ntmps101
        go_wp2_with fail
        generalize hW : w.alloc (.cells #[.int .u64 0, .int .u64 0, .int .u64 0, .int .u64 0, .int .u64 0] 144) = W0 at *
        refine (KM.out _).mono ?_
        rintro e w2 ⟨rfl, hb⟩
        have Z0 : Blk W0 w.heap.size #[.int .u64 0, .int .u64 0, .int .u64 0, .int .u64 0, .int .u64 0] 144 := by rw [← hW]; exact Blk.new _ _ _
        have B1 : Below w.heap.size w W0 := by rw [← hW]; exact (by repeat (first | with_reducible exact Below.refl _ _ | with_reducible apply Below.drew | with_reducible refine below_drewN ?_ _ | (with_reducible refine Below.setCell ?_ ?_ _; rotate_left; focus (first | omega | (simp <;> omega))) | (with_reducible refine Below.alloc ?_ ?_ _; rotate_left; focus (first | omega | (simp <;> omega)))))
        have Z1 := (Z0.alloc _).below hb (Z0.alloc _).lt
        have B2 := (B1.alloc (Nat.le_of_lt Z0.lt) _).trans (hb.mono (Nat.le_of_lt (Z0.alloc _).lt))
        have HB := Lib.hid B2
        clear hb hW Z0 B1 B2
        have zc0 := Z1.cell 0
        have zc1 := Z1.cell 1
        have zc2 := Z1.cell 2
        have zc3 := Z1.cell 3
        have zc4 := Z1.cell 4
        simp at zc0 zc1 zc2 zc3 zc4
        have zf0 := Z1.frozen 0
        have zf1 := Z1.frozen 1
        have zf2 := Z1.frozen 2
        have zf3 := Z1.frozen 3
        have zf4 := Z1.frozen 4
        have l1 := Z1.lt
        clear Z1
        go_wp2_with fail
        have B0 := HB.out
        refine bodyPost_ret (v := .agg #[.int .u64 (s 0), .int .u64 (s 1), .int .u64 (s 2), .int .u64 (s 3), .int .u64 (s 4)]) (by simp [results, Try.results101, go_sem, *]) rfl ⟨rfl, (by have hszz := B0.size; repeat (first | with_reducible exact B0 | with_reducible apply Below.drew | with_reducible refine below_drewN ?_ _ | (with_reducible refine Below.setCell ?_ ?_ _; rotate_left; focus (first | omega | (simp <;> omega))) | (with_reducible refine Below.alloc ?_ ?_ _; rotate_left; focus (first | omega | (simp <;> omega)))))⟩
end Go.Proofs.Ytkmcinibaffpmaa
