import Derived.Test.YtimhpmccmafnpaaGreatG17
import Derived.BigQuiet
import Derived.Deep.QuietTactic
import Derived.Deep.DeepCutAuto
import Derived.Test.YtimhpmccmafnpaaGreatG09
import Derived.Test.YtimhpmccmafnpaaGreatG08
import Derived.Test.YtimhpmccmafnpaaGreatG01
import Derived.Test.YtimhpmccmafnpaaGreatG04
import Derived.Test.YtimhpmccmafnpaaGreatG02
import Derived.Deep.RegionHeld3

namespace Go.Proofs.YtimhpmccmafnpaaGreat
open Go.ChangeShapes Go.WideShapes Go.ChangeAt Go.RowKit
open Ieee.Format (fin finE htE allFin allHt all_true all_false mulF subF addF Ht Bd divF rootF floorF easeF mixF)
set_option linter.unusedVariables false

open Ieee.Format (bits_mul octA octS reachF const_1)

set_option maxRecDepth 100000 in
set_option maxHeartbeats 1000000 in
theorem refreach_any (kd seed cell : Int) (n g : Nat) (w : World) (hk1 : 1 ≤ kd) (hk4 : kd ≤ 4) (hn : n ≤ 10) (h1 : 1 ≤ n) (hg : Share g) :
    Calls Tryz.prog 68 #[frV kd seed cell n g] w fun e w' => e = .returned (.float .f32 (reachF g (bndF kd) n)) ∧ Below w.heap.size w w' := by
  obtain ⟨b1, b2, b3⟩ := bndF_ok kd
  have hz : ∀ k, 0 ≤ k → True := fun _ _ => trivial
  obtain ⟨_, ok⟩ := oct_ok (b := bndF kd) (fun _ => bndF kd) hg.1 hg.2.1 hg.2.2 b1 b2 b3 hn (fun k _ => ⟨b1, by have := (Ieee.P2_pos (-19)); grind, by have := (Ieee.P2_pos (-19)); grind⟩)
  obtain ⟨_, f2, _⟩ := Ieee.Format.reach_ok (fun _ => bndF kd) hg.1 hg.2.1 hg.2.2 b1 b2 b3 h1 hn (fun k _ => ⟨b1, by have := (Ieee.P2_pos (-19)); grind, by have := (Ieee.P2_pos (-19)); grind⟩)
  have KM3 := Lib.hid (fun w => ref_mul_ok (octS g (fun _ => bndF kd) n) 1065354055 w (ok.fs n (Nat.le_refl _)) Ieee.Format.const_reach.1 f2)
  change Hid (∀ w, Calls Tryz.prog 67 #[.float .f32 (octS g (fun _ => bndF kd) n), .float .f32 1065354055] w fun e w' => e = .returned (.float .f32 (reachF g (bndF kd) n)) ∧ w = w') at KM3
  have HK := Lib.hid ok
  clear ok b1 b2 b3 hg h1 f2 hz
  generalize reachF g (bndF kd) n = r at *
  unfold frV
  rcases (show kd = 1 ∨ kd = 2 ∨ kd = 3 ∨ kd = 4 by omega) with rfl | rfl | rfl | rfl
  · clear hk1 hk4
    change Hid (OctOk g (fun _ => 1065353216) n) at HK
    change Hid (∀ w, Calls Tryz.prog 67 #[.float .f32 (octS g (fun _ => 1065353216) n), .float .f32 1065354055] w fun e w' => e = .returned (.float .f32 r) ∧ w = w') at KM3
    go_enter Tryz.func68, Tryz.ntmps68
    go_upto_region 2 with fail
    generalize hW0 : (w.alloc (.cells #[.int .i64 1, .int .u32 seed, .int .i64 cell, .int .i64 (n : Int), .float .f32 g] 48)).alloc (.cells #[.float .f32 1065353216, .float .f32 1073741824, .float .f32 1077936128, .float .f32 1065353216] 46) = W0
    have A0 : Blk W0 w.heap.size #[.int .i64 1, .int .u32 seed, .int .i64 cell, .int .i64 (n : Int), .float .f32 g] 48 := by subst hW0; exact (Blk.new _ _ _).alloc _
    have b0 : Below w.heap.size w W0 := by subst hW0; exact (by repeat (first | with_reducible exact Below.refl _ _ | with_reducible apply Below.drew | with_reducible refine below_drewN ?_ _ | (with_reducible refine Below.setCell ?_ ?_ _; rotate_left; focus (first | omega | (simp <;> omega))) | (with_reducible refine Below.alloc ?_ ?_ _; rotate_left; focus (first | omega | (simp <;> omega)))))
    have p3 := A0.cell 3
    simp at p3
    have l0 := A0.lt
    clear hW0
    go_wp2_with fail
    go_loopw [4, 5, 14] (fun s a i wr => ∃ k : Nat, k ≤ n ∧ i = .int .i64 (k : Int) ∧ s = .float .f32 (octS g (fun _ => 1065353216) k) ∧ a = .float .f32 (octA g k) ∧ Below w.heap.size w wr ∧ Blk wr w.heap.size #[.int .i64 1, .int .u32 seed, .int .i64 cell, .int .i64 (n : Int), .float .f32 g] 48) (fun _ _ i _ => n - (intOf i).toNat)
    case atStart => exact ⟨0, by omega, rfl, rfl, rfl, b0, A0⟩
    case round =>
      obtain ⟨k, hk, rfl, rfl, rfl, B, A⟩ := hrel
      have HB := Lib.hid B
      have HA := Lib.hid A
      clear B A A0 b0 p3 l0
      by_cases hlt : k < n
      · have KM1 := Lib.hid (fun w => ref_mul_ok (octA g k) 1065353216 w (HK.out.fa k) (HK.out.fn k hlt) (HK.out.fp k hlt))
        have KA1 := Lib.hid (fun w => ref_add_ok (octS g (fun _ => 1065353216) k) (mulF (octA g k) 1065353216) w (HK.out.fs k hk) (HK.out.fp k hlt) (HK.out.fs (k + 1) hlt))
        have KM2 := Lib.hid (fun w => ref_mul_ok (octA g k) g w (HK.out.fa k) HK.out.fg (HK.out.fa (k + 1)))
        have e1 : octS g (fun _ => 1065353216) (k + 1) = addF (octS g (fun _ => 1065353216) k) (mulF (octA g k) 1065353216) := rfl
        have e2 : octA g (k + 1) = mulF (octA g k) g := rfl
        rw [← e1] at KA1
        rw [← e2] at KM2
        clear e1 e2
        generalize hz1 : octS g (fun _ => 1065353216) (k + 1) = z1 at *
        generalize hz2 : octA g (k + 1) = z2 at *
        have HZ1 := Lib.hid hz1
        have HZ2 := Lib.hid hz2
        clear hz1 hz2
        generalize octS g (fun _ => 1065353216) k = z3 at *
        generalize octA g k = z4 at *
        generalize mulF z4 1065353216 = z5 at *
        have kl : (k : Int) < (n : Int) := by omega
        have kw : IntKind.i64.wrap ((k : Int) + 1) = ((k + 1 : Nat) : Int) := IntWalk.i64_in _ (by omega)
        have p4 := HA.out.cell 4
        simp at p4
        have l4 := HA.out.lt
        go_wp2_with fail
        refine (KM1.out _).mono ?_
        rintro e w4 ⟨rfl, rfl⟩
        go_wp2_with fail
        refine (KA1.out _).mono ?_
        rintro e w4 ⟨rfl, rfl⟩
        go_wp2_with fail
        refine (KM2.out _).mono ?_
        rintro e w4 ⟨rfl, rfl⟩
        go_wp2_with fail
        go_round
        case rel => exact ⟨k + 1, hlt, by go_num, by rw [HZ1.out], by rw [HZ2.out], HB.out, HA.out⟩
        case measure => simp [intOf]; omega
      · obtain rfl : k = n := by omega
        have kl : ¬ (k : Int) < (k : Int) := by omega
        go_wp2_with fail
        refine (KM3.out _).mono ?_
        rintro e w4 ⟨rfl, rfl⟩
        go_wp2_with fail
        go_ret
        exact ⟨rfl, HB.out⟩
  · clear hk1 hk4
    change Hid (OctOk g (fun _ => 1073741824) n) at HK
    change Hid (∀ w, Calls Tryz.prog 67 #[.float .f32 (octS g (fun _ => 1073741824) n), .float .f32 1065354055] w fun e w' => e = .returned (.float .f32 r) ∧ w = w') at KM3
    go_enter Tryz.func68, Tryz.ntmps68
    go_upto_region 2 with fail
    generalize hW0 : (w.alloc (.cells #[.int .i64 2, .int .u32 seed, .int .i64 cell, .int .i64 (n : Int), .float .f32 g] 48)).alloc (.cells #[.float .f32 1065353216, .float .f32 1073741824, .float .f32 1077936128, .float .f32 1065353216] 46) = W0
    have A0 : Blk W0 w.heap.size #[.int .i64 2, .int .u32 seed, .int .i64 cell, .int .i64 (n : Int), .float .f32 g] 48 := by subst hW0; exact (Blk.new _ _ _).alloc _
    have b0 : Below w.heap.size w W0 := by subst hW0; exact (by repeat (first | with_reducible exact Below.refl _ _ | with_reducible apply Below.drew | with_reducible refine below_drewN ?_ _ | (with_reducible refine Below.setCell ?_ ?_ _; rotate_left; focus (first | omega | (simp <;> omega))) | (with_reducible refine Below.alloc ?_ ?_ _; rotate_left; focus (first | omega | (simp <;> omega)))))
    have p3 := A0.cell 3
    simp at p3
    have l0 := A0.lt
    clear hW0
    go_wp2_with fail
    go_loopw [4, 5, 14] (fun s a i wr => ∃ k : Nat, k ≤ n ∧ i = .int .i64 (k : Int) ∧ s = .float .f32 (octS g (fun _ => 1073741824) k) ∧ a = .float .f32 (octA g k) ∧ Below w.heap.size w wr ∧ Blk wr w.heap.size #[.int .i64 2, .int .u32 seed, .int .i64 cell, .int .i64 (n : Int), .float .f32 g] 48) (fun _ _ i _ => n - (intOf i).toNat)
    case atStart => exact ⟨0, by omega, rfl, rfl, rfl, b0, A0⟩
    case round =>
      obtain ⟨k, hk, rfl, rfl, rfl, B, A⟩ := hrel
      have HB := Lib.hid B
      have HA := Lib.hid A
      clear B A A0 b0 p3 l0
      by_cases hlt : k < n
      · have KM1 := Lib.hid (fun w => ref_mul_ok (octA g k) 1073741824 w (HK.out.fa k) (HK.out.fn k hlt) (HK.out.fp k hlt))
        have KA1 := Lib.hid (fun w => ref_add_ok (octS g (fun _ => 1073741824) k) (mulF (octA g k) 1073741824) w (HK.out.fs k hk) (HK.out.fp k hlt) (HK.out.fs (k + 1) hlt))
        have KM2 := Lib.hid (fun w => ref_mul_ok (octA g k) g w (HK.out.fa k) HK.out.fg (HK.out.fa (k + 1)))
        have e1 : octS g (fun _ => 1073741824) (k + 1) = addF (octS g (fun _ => 1073741824) k) (mulF (octA g k) 1073741824) := rfl
        have e2 : octA g (k + 1) = mulF (octA g k) g := rfl
        rw [← e1] at KA1
        rw [← e2] at KM2
        clear e1 e2
        generalize hz1 : octS g (fun _ => 1073741824) (k + 1) = z1 at *
        generalize hz2 : octA g (k + 1) = z2 at *
        have HZ1 := Lib.hid hz1
        have HZ2 := Lib.hid hz2
        clear hz1 hz2
        generalize octS g (fun _ => 1073741824) k = z3 at *
        generalize octA g k = z4 at *
        generalize mulF z4 1073741824 = z5 at *
        have kl : (k : Int) < (n : Int) := by omega
        have kw : IntKind.i64.wrap ((k : Int) + 1) = ((k + 1 : Nat) : Int) := IntWalk.i64_in _ (by omega)
        have p4 := HA.out.cell 4
        simp at p4
        have l4 := HA.out.lt
        go_wp2_with fail
        refine (KM1.out _).mono ?_
        rintro e w4 ⟨rfl, rfl⟩
        go_wp2_with fail
        refine (KA1.out _).mono ?_
        rintro e w4 ⟨rfl, rfl⟩
        go_wp2_with fail
        refine (KM2.out _).mono ?_
        rintro e w4 ⟨rfl, rfl⟩
        go_wp2_with fail
        go_round
        case rel => exact ⟨k + 1, hlt, by go_num, by rw [HZ1.out], by rw [HZ2.out], HB.out, HA.out⟩
        case measure => simp [intOf]; omega
      · obtain rfl : k = n := by omega
        have kl : ¬ (k : Int) < (k : Int) := by omega
        go_wp2_with fail
        refine (KM3.out _).mono ?_
        rintro e w4 ⟨rfl, rfl⟩
        go_wp2_with fail
        go_ret
        exact ⟨rfl, HB.out⟩
  · clear hk1 hk4
    change Hid (OctOk g (fun _ => 1077936128) n) at HK
    change Hid (∀ w, Calls Tryz.prog 67 #[.float .f32 (octS g (fun _ => 1077936128) n), .float .f32 1065354055] w fun e w' => e = .returned (.float .f32 r) ∧ w = w') at KM3
    go_enter Tryz.func68, Tryz.ntmps68
    go_upto_region 2 with fail
    generalize hW0 : (w.alloc (.cells #[.int .i64 3, .int .u32 seed, .int .i64 cell, .int .i64 (n : Int), .float .f32 g] 48)).alloc (.cells #[.float .f32 1065353216, .float .f32 1073741824, .float .f32 1077936128, .float .f32 1065353216] 46) = W0
    have A0 : Blk W0 w.heap.size #[.int .i64 3, .int .u32 seed, .int .i64 cell, .int .i64 (n : Int), .float .f32 g] 48 := by subst hW0; exact (Blk.new _ _ _).alloc _
    have b0 : Below w.heap.size w W0 := by subst hW0; exact (by repeat (first | with_reducible exact Below.refl _ _ | with_reducible apply Below.drew | with_reducible refine below_drewN ?_ _ | (with_reducible refine Below.setCell ?_ ?_ _; rotate_left; focus (first | omega | (simp <;> omega))) | (with_reducible refine Below.alloc ?_ ?_ _; rotate_left; focus (first | omega | (simp <;> omega)))))
    have p3 := A0.cell 3
    simp at p3
    have l0 := A0.lt
    clear hW0
    go_wp2_with fail
    go_loopw [4, 5, 14] (fun s a i wr => ∃ k : Nat, k ≤ n ∧ i = .int .i64 (k : Int) ∧ s = .float .f32 (octS g (fun _ => 1077936128) k) ∧ a = .float .f32 (octA g k) ∧ Below w.heap.size w wr ∧ Blk wr w.heap.size #[.int .i64 3, .int .u32 seed, .int .i64 cell, .int .i64 (n : Int), .float .f32 g] 48) (fun _ _ i _ => n - (intOf i).toNat)
    case atStart => exact ⟨0, by omega, rfl, rfl, rfl, b0, A0⟩
    case round =>
      obtain ⟨k, hk, rfl, rfl, rfl, B, A⟩ := hrel
      have HB := Lib.hid B
      have HA := Lib.hid A
      clear B A A0 b0 p3 l0
      by_cases hlt : k < n
      · have KM1 := Lib.hid (fun w => ref_mul_ok (octA g k) 1077936128 w (HK.out.fa k) (HK.out.fn k hlt) (HK.out.fp k hlt))
        have KA1 := Lib.hid (fun w => ref_add_ok (octS g (fun _ => 1077936128) k) (mulF (octA g k) 1077936128) w (HK.out.fs k hk) (HK.out.fp k hlt) (HK.out.fs (k + 1) hlt))
        have KM2 := Lib.hid (fun w => ref_mul_ok (octA g k) g w (HK.out.fa k) HK.out.fg (HK.out.fa (k + 1)))
        have e1 : octS g (fun _ => 1077936128) (k + 1) = addF (octS g (fun _ => 1077936128) k) (mulF (octA g k) 1077936128) := rfl
        have e2 : octA g (k + 1) = mulF (octA g k) g := rfl
        rw [← e1] at KA1
        rw [← e2] at KM2
        clear e1 e2
        generalize hz1 : octS g (fun _ => 1077936128) (k + 1) = z1 at *
        generalize hz2 : octA g (k + 1) = z2 at *
        have HZ1 := Lib.hid hz1
        have HZ2 := Lib.hid hz2
        clear hz1 hz2
        generalize octS g (fun _ => 1077936128) k = z3 at *
        generalize octA g k = z4 at *
        generalize mulF z4 1077936128 = z5 at *
        have kl : (k : Int) < (n : Int) := by omega
        have kw : IntKind.i64.wrap ((k : Int) + 1) = ((k + 1 : Nat) : Int) := IntWalk.i64_in _ (by omega)
        have p4 := HA.out.cell 4
        simp at p4
        have l4 := HA.out.lt
        go_wp2_with fail
        refine (KM1.out _).mono ?_
        rintro e w4 ⟨rfl, rfl⟩
        go_wp2_with fail
        refine (KA1.out _).mono ?_
        rintro e w4 ⟨rfl, rfl⟩
        go_wp2_with fail
        refine (KM2.out _).mono ?_
        rintro e w4 ⟨rfl, rfl⟩
        go_wp2_with fail
        go_round
        case rel => exact ⟨k + 1, hlt, by go_num, by rw [HZ1.out], by rw [HZ2.out], HB.out, HA.out⟩
        case measure => simp [intOf]; omega
      · obtain rfl : k = n := by omega
        have kl : ¬ (k : Int) < (k : Int) := by omega
        go_wp2_with fail
        refine (KM3.out _).mono ?_
        rintro e w4 ⟨rfl, rfl⟩
        go_wp2_with fail
        go_ret
        exact ⟨rfl, HB.out⟩
  · clear hk1 hk4
    change Hid (OctOk g (fun _ => 1065353216) n) at HK
    change Hid (∀ w, Calls Tryz.prog 67 #[.float .f32 (octS g (fun _ => 1065353216) n), .float .f32 1065354055] w fun e w' => e = .returned (.float .f32 r) ∧ w = w') at KM3
    go_enter Tryz.func68, Tryz.ntmps68
    go_upto_region 2 with fail
    generalize hW0 : (w.alloc (.cells #[.int .i64 4, .int .u32 seed, .int .i64 cell, .int .i64 (n : Int), .float .f32 g] 48)).alloc (.cells #[.float .f32 1065353216, .float .f32 1073741824, .float .f32 1077936128, .float .f32 1065353216] 46) = W0
    have A0 : Blk W0 w.heap.size #[.int .i64 4, .int .u32 seed, .int .i64 cell, .int .i64 (n : Int), .float .f32 g] 48 := by subst hW0; exact (Blk.new _ _ _).alloc _
    have b0 : Below w.heap.size w W0 := by subst hW0; exact (by repeat (first | with_reducible exact Below.refl _ _ | with_reducible apply Below.drew | with_reducible refine below_drewN ?_ _ | (with_reducible refine Below.setCell ?_ ?_ _; rotate_left; focus (first | omega | (simp <;> omega))) | (with_reducible refine Below.alloc ?_ ?_ _; rotate_left; focus (first | omega | (simp <;> omega)))))
    have p3 := A0.cell 3
    simp at p3
    have l0 := A0.lt
    clear hW0
    go_wp2_with fail
    go_loopw [4, 5, 14] (fun s a i wr => ∃ k : Nat, k ≤ n ∧ i = .int .i64 (k : Int) ∧ s = .float .f32 (octS g (fun _ => 1065353216) k) ∧ a = .float .f32 (octA g k) ∧ Below w.heap.size w wr ∧ Blk wr w.heap.size #[.int .i64 4, .int .u32 seed, .int .i64 cell, .int .i64 (n : Int), .float .f32 g] 48) (fun _ _ i _ => n - (intOf i).toNat)
    case atStart => exact ⟨0, by omega, rfl, rfl, rfl, b0, A0⟩
    case round =>
      obtain ⟨k, hk, rfl, rfl, rfl, B, A⟩ := hrel
      have HB := Lib.hid B
      have HA := Lib.hid A
      clear B A A0 b0 p3 l0
      by_cases hlt : k < n
      · have KM1 := Lib.hid (fun w => ref_mul_ok (octA g k) 1065353216 w (HK.out.fa k) (HK.out.fn k hlt) (HK.out.fp k hlt))
        have KA1 := Lib.hid (fun w => ref_add_ok (octS g (fun _ => 1065353216) k) (mulF (octA g k) 1065353216) w (HK.out.fs k hk) (HK.out.fp k hlt) (HK.out.fs (k + 1) hlt))
        have KM2 := Lib.hid (fun w => ref_mul_ok (octA g k) g w (HK.out.fa k) HK.out.fg (HK.out.fa (k + 1)))
        have e1 : octS g (fun _ => 1065353216) (k + 1) = addF (octS g (fun _ => 1065353216) k) (mulF (octA g k) 1065353216) := rfl
        have e2 : octA g (k + 1) = mulF (octA g k) g := rfl
        rw [← e1] at KA1
        rw [← e2] at KM2
        clear e1 e2
        generalize hz1 : octS g (fun _ => 1065353216) (k + 1) = z1 at *
        generalize hz2 : octA g (k + 1) = z2 at *
        have HZ1 := Lib.hid hz1
        have HZ2 := Lib.hid hz2
        clear hz1 hz2
        generalize octS g (fun _ => 1065353216) k = z3 at *
        generalize octA g k = z4 at *
        generalize mulF z4 1065353216 = z5 at *
        have kl : (k : Int) < (n : Int) := by omega
        have kw : IntKind.i64.wrap ((k : Int) + 1) = ((k + 1 : Nat) : Int) := IntWalk.i64_in _ (by omega)
        have p4 := HA.out.cell 4
        simp at p4
        have l4 := HA.out.lt
        go_wp2_with fail
        refine (KM1.out _).mono ?_
        rintro e w4 ⟨rfl, rfl⟩
        go_wp2_with fail
        refine (KA1.out _).mono ?_
        rintro e w4 ⟨rfl, rfl⟩
        go_wp2_with fail
        refine (KM2.out _).mono ?_
        rintro e w4 ⟨rfl, rfl⟩
        go_wp2_with fail
        go_round
        case rel => exact ⟨k + 1, hlt, by go_num, by rw [HZ1.out], by rw [HZ2.out], HB.out, HA.out⟩
        case measure => simp [intOf]; omega
      · obtain rfl : k = n := by omega
        have kl : ¬ (k : Int) < (k : Int) := by omega
        go_wp2_with fail
        refine (KM3.out _).mono ?_
        rintro e w4 ⟨rfl, rfl⟩
        go_wp2_with fail
        go_ret
        exact ⟨rfl, HB.out⟩
end Go.Proofs.YtimhpmccmafnpaaGreat



namespace Go.Proofs.YtimhpmccmafnpaaGreat
open Go.ChangeShapes Go.WideShapes Go.ChangeAt Go.RowKit
open Ieee.Format (fin finE htE allFin allHt all_true all_false mulF subF addF Ht Bd divF rootF floorF easeF mixF)
set_option linter.unusedVariables false

open Ieee.Format (octS reachF)

theorem frac_within (kd seed cell x y : Int) {n g : Nat} (h1 : 1 ≤ n) (hn : n ≤ 10) (hg : Share g) (c1 : 1 ≤ cell) (c2 : cell ≤ 4096) :
    fin Ieee.single (fracF kd seed cell n g x y) ∧ fin Ieee.single (reachF g (bndF kd) n) ∧ Ieee.single.V (fracF kd seed cell n g x y) ≤ Ieee.single.V (reachF g (bndF kd) n) ∧ -Ieee.single.V (fracF kd seed cell n g x y) ≤ Ieee.single.V (reachF g (bndF kd) n) ∧ Ieee.single.V (reachF g (bndF kd) n) ≤ 32 ∧ 0 ≤ Ieee.single.V (reachF g (bndF kd) n) := by
  obtain ⟨b1, b2, b3⟩ := bndF_ok kd
  obtain ⟨ok, _⟩ := oct_ok (octF kd seed cell x y) hg.1 hg.2.1 hg.2.2 b1 b2 b3 hn (fun k _ => octF_noisy kd seed cell x y k c1 c2)
  obtain ⟨_, f2, r1, r2, r3, r4⟩ := Ieee.Format.reach_ok (octF kd seed cell x y) hg.1 hg.2.1 hg.2.2 b1 b2 b3 h1 hn (fun k _ => octF_noisy kd seed cell x y k c1 c2)
  exact ⟨ok.fs n (Nat.le_refl _), f2, r1, r2, r3, r4⟩
end Go.Proofs.YtimhpmccmafnpaaGreat


namespace Go.Proofs.YtimhpmccmafnpaaGreat
open Go.ChangeShapes Go.WideShapes Go.ChangeAt Go.RowKit
open Ieee.Format (fin finE htE allFin allHt all_true all_false mulF subF addF Ht Bd divF rootF floorF easeF mixF)
set_option linter.unusedVariables false

open Ieee.Format (const_half MoveOk move_ok reachF bits_mul)

theorem wpE_zero {kd cell n : Int} {g a : Nat} (h : wpE kd cell n g a = 0) : frE kd cell n g = 0 ∧ wsE a = 0 := by
  unfold wpE at h
  by_cases hE : frE kd cell n g = 0
  · rw [if_pos hE] at h; exact ⟨hE, h⟩
  · rw [if_neg hE] at h; exact absurd h hE
theorem warp_marg {kd seed cell : Int} {n g a : Nat} (h1 : 1 ≤ n) (hn : n ≤ 10) (hg : Share g) (c1 : 1 ≤ cell) (c2 : cell ≤ 4096) (ha : fin Ieee.single a ∧ 0 ≤ Ieee.single.V a ∧ Ieee.single.V a ≤ 64) :
    fin Ieee.single (reachF g (bndF kd) n) ∧ MoveOk (fracF kd seed cell n g 0 0) a (reachF g (bndF kd) n) := by
  obtain ⟨f1, f2, r1, r2, r3, r4⟩ := frac_within kd seed cell 0 0 h1 hn hg c1 c2
  exact ⟨f2, move_ok f1 f2 ha.1 ha.2.1 ha.2.2 r1 r2 r3⟩
set_option maxRecDepth 100000 in
set_option maxHeartbeats 1000000 in
theorem marginop_any (kd seed cell n : Int) (g a : Nat) (hg : g < 4294967296) (ha : a < 4294967296) (w : World) :
    Calls Tryz.prog 32 #[wpV kd seed cell n g a] w fun e w' => e = .returned (.tuple #[.int .i64 (if wpE kd cell n g a = 0 then margZ (reachF g (bndF kd) n.toNat) a else 0), .int .i64 (wpE kd cell n g a)]) ∧ Below w.heap.size w w' := by
  have KC := Lib.hid (fun w => wpcheck_any kd seed cell n g a hg ha w)
  by_cases hE : wpE kd cell n g a = 0
  · rw [if_pos hE, hE]
    rw [hE] at KC
    obtain ⟨hF, hS⟩ := wpE_zero hE
    obtain ⟨m, rfl, m1, m2⟩ := frE_nat hF
    obtain ⟨_, ⟨c1, c2⟩, _, sg⟩ := frE_zero hF
    have sa := wsE_zero hS
    obtain ⟨fr, ok⟩ := warp_marg (kd := kd) (seed := seed) m1 m2 sg c1 c2 sa
    have KR := Lib.hid (fun w => reach_any kd seed cell m g w m2 m1 sg)
    have mi := move_in ok
    have KL := Lib.hid (fun w => floor_any (mulF (reachF g (bndF kd) m) a) ok.fr (Ieee.Format.mulF_lt _ _) w)
    have k1 := fun w' => run_float_arith (P := Tryz.prog) w' .mul 46 .f32 _ _ _ (bits_mul fr sa.1)
    have kc := fun w => run_convert_float_int (P := Tryz.prog) w 46 3 .f32 .i64 (floorF (mulF (reachF g (bndF kd) m) a)) (floorZ (mulF (reachF g (bndF kd) m) a)) (by kernel_rfl) Tryz.underlying3 mi.2.1
    have hM : margZ (reachF g (bndF kd) m) a = floorZ (mulF (reachF g (bndF kd) m) a) + 1 := rfl
    rw [Int.toNat_natCast]
    have wz : IntKind.i64.wrap (floorZ (mulF (reachF g (bndF kd) m) a) + 1) = margZ (reachF g (bndF kd) m) a := by rw [← hM]; exact IntWalk.i64_in _ (by omega)
    clear hE hF hS m1 m2 c1 c2 sg sa hg ha fr ok mi hM
    generalize margZ (reachF g (bndF kd) m) a = z at *
    generalize floorZ (mulF (reachF g (bndF kd) m) a) = z3 at *
    generalize floorF (mulF (reachF g (bndF kd) m) a) = f3 at *
    generalize mulF (reachF g (bndF kd) m) a = f2 at *
    generalize reachF g (bndF kd) m = f1 at *
    generalize (m : Int) = n at *
    unfold wpV frV at *
    go_enter Tryz.func32, Tryz.ntmps32
    go_upto_region 1 with fail
    generalize hW0 : w.alloc (.cells #[.int .i64 kd, .int .u32 seed, .int .i64 cell, .int .i64 n, .float .f32 g, .float .f32 a] 52) = W0 at *
    have A0 : Blk W0 w.heap.size #[.int .i64 kd, .int .u32 seed, .int .i64 cell, .int .i64 n, .float .f32 g, .float .f32 a] 52 := by subst hW0; exact Blk.new _ _ _
    have b0 : Below w.heap.size w W0 := by subst hW0; exact (by repeat (first | with_reducible exact Below.refl _ _ | with_reducible apply Below.drew | with_reducible refine below_drewN ?_ _ | (with_reducible refine Below.setCell ?_ ?_ _; rotate_left; focus (first | omega | (simp <;> omega))) | (with_reducible refine Below.alloc ?_ ?_ _; rotate_left; focus (first | omega | (simp <;> omega)))))
    have HA0 := Lib.hid A0
    have HB0 := Lib.hid b0
    clear A0 b0 hW0
    have p0 := HA0.out.cell 0
    have p1 := HA0.out.cell 1
    have p2 := HA0.out.cell 2
    have p3 := HA0.out.cell 3
    have p4 := HA0.out.cell 4
    have p5 := HA0.out.cell 5
    simp at p0 p1 p2 p3 p4 p5
    have l0 := HA0.out.lt
    go_wp2_with fail
    refine (KC.out _).mono ?_
    rintro e w1 ⟨rfl, b1⟩
    have HA1 := Lib.hid (HA0.out.below b1 HA0.out.lt)
    have HB1 := Lib.hid (HB0.out.trans (b1.mono HB0.out.size))
    clear b1 HA0 HB0 KC p0 p1 p2 p3 p4 p5 l0
    have p0 := HA1.out.cell 0
    have p1 := HA1.out.cell 1
    have p2 := HA1.out.cell 2
    have p3 := HA1.out.cell 3
    have p4 := HA1.out.cell 4
    have p5 := HA1.out.cell 5
    simp at p0 p1 p2 p3 p4 p5
    have l0 := HA1.out.lt
    go_wp2_with fail
    go_region_held3 (fun w' => w'.cell? ⟨w.heap.size, 0, none⟩ = some (.int .i64 kd) ∧ w'.cell? ⟨w.heap.size, 1, none⟩ = some (.int .u32 seed) ∧ w'.cell? ⟨w.heap.size, 2, none⟩ = some (.int .i64 cell) ∧ w'.cell? ⟨w.heap.size, 3, none⟩ = some (.int .i64 n) ∧ w'.cell? ⟨w.heap.size, 4, none⟩ = some (.float .f32 g) ∧ w'.cell? ⟨w.heap.size, 5, none⟩ = some (.float .f32 a) ∧ Below w1.heap.size w1 w')
      (first
        | exact ⟨p0, p1, p2, p3, p4, p5, (Below.refl _ _).drew⟩
        | (go_split_ands
           have hs := hb.size
           have hs2 := (show Below w1.heap.size w1 _ by assumption).size
           refine ⟨?_, ?_, ?_, ?_, ?_, ?_, ?_⟩
           all_goals first
             | (rw [hb.cell (by simp; omega)]; assumption)
             | exact Below.trans (by assumption) (hb.mono (by omega)))
        | (go_split_ands; refine ⟨?_, ?_, ?_, ?_, ?_, ?_, ?_⟩ <;> assumption))
      (first
        | (go_at_call 46; go_split_ands; refine (KR.out _).mono ?_; rintro e2 w2 ⟨rfl, hb⟩)
        | (go_at_call 45; go_split_ands; refine (KL.out _).mono ?_; rintro e2 w2 ⟨rfl, rfl⟩)
        | (go_at_call 68; go_split_ands; refine (KR.out _).mono ?_; rintro e2 w2 ⟨rfl, hb⟩)
        | (go_at_call 67; go_split_ands; refine (KM.out _).mono ?_; rintro e2 w2 ⟨rfl, rfl⟩)
        | (go_at_call 66; go_split_ands; refine (KL.out _).mono ?_; rintro e2 w2 ⟨rfl, rfl⟩))
    all_goals
      rename_i hHeld
      have HB3 := Lib.hid (HB1.out.trans (hHeld.2.2.2.2.2.2.mono HB1.out.size))
      clear hHeld
      go_wp2_with fail
      go_ret2
      exact ⟨rfl, HB3.out⟩
  · rw [if_neg hE]
    have hb : (wpE kd cell n g a != 0) = true := by simpa using hE
    clear hE hg ha
    generalize wpE kd cell n g a = z at *
    unfold wpV at *
    go_enter Tryz.func32, Tryz.ntmps32
    go_upto_region 1 with fail
    generalize hW0 : w.alloc (.cells #[.int .i64 kd, .int .u32 seed, .int .i64 cell, .int .i64 n, .float .f32 g, .float .f32 a] 52) = W0 at *
    have A0 : Blk W0 w.heap.size #[.int .i64 kd, .int .u32 seed, .int .i64 cell, .int .i64 n, .float .f32 g, .float .f32 a] 52 := by subst hW0; exact Blk.new _ _ _
    have b0 : Below w.heap.size w W0 := by subst hW0; exact (by repeat (first | with_reducible exact Below.refl _ _ | with_reducible apply Below.drew | with_reducible refine below_drewN ?_ _ | (with_reducible refine Below.setCell ?_ ?_ _; rotate_left; focus (first | omega | (simp <;> omega))) | (with_reducible refine Below.alloc ?_ ?_ _; rotate_left; focus (first | omega | (simp <;> omega)))))
    have HA0 := Lib.hid A0
    have HB0 := Lib.hid b0
    clear A0 b0 hW0
    have p0 := HA0.out.cell 0
    have p1 := HA0.out.cell 1
    have p2 := HA0.out.cell 2
    have p3 := HA0.out.cell 3
    have p4 := HA0.out.cell 4
    have p5 := HA0.out.cell 5
    simp at p0 p1 p2 p3 p4 p5
    have l0 := HA0.out.lt
    go_wp2_with fail
    refine (KC.out _).mono ?_
    rintro e w1 ⟨rfl, b1⟩
    have HA1 := Lib.hid (HA0.out.below b1 HA0.out.lt)
    have HB1 := Lib.hid (HB0.out.trans (b1.mono HB0.out.size))
    clear b1 HA0 HB0 KC p0 p1 p2 p3 p4 p5 l0
    have p0 := HA1.out.cell 0
    have p1 := HA1.out.cell 1
    have p2 := HA1.out.cell 2
    have p3 := HA1.out.cell 3
    have p4 := HA1.out.cell 4
    have p5 := HA1.out.cell 5
    simp at p0 p1 p2 p3 p4 p5
    have l0 := HA1.out.lt
    go_wp2_with fail
    go_ret2
    exact ⟨rfl, HB1.out⟩
set_option maxRecDepth 100000 in
set_option maxHeartbeats 1000000 in
theorem refmargin_any (kd seed cell : Int) (n g a : Nat) (w : World) (k1 : 1 ≤ kd) (k2 : kd ≤ 4) (h1 : 1 ≤ n) (hn : n ≤ 10) (hg : Share g) (c1 : 1 ≤ cell) (c2 : cell ≤ 4096) (sa : fin Ieee.single a ∧ 0 ≤ Ieee.single.V a ∧ Ieee.single.V a ≤ 64) :
    Calls Tryz.prog 35 #[wpV kd seed cell n g a] w fun e w' => e = .returned (.int .i64 (margZ (reachF g (bndF kd) n) a)) ∧ Below w.heap.size w w' := by
  obtain ⟨fr, ok⟩ := warp_marg (kd := kd) (seed := seed) h1 hn hg c1 c2 sa
  have KR := Lib.hid (fun w => refreach_any kd seed cell n g w k1 k2 hn h1 hg)
  have mi := move_in ok
  have KL := Lib.hid (fun w => reffloor_any (mulF (reachF g (bndF kd) n) a) ok.fr (Ieee.Format.mulF_lt _ _) w)
  have KM := Lib.hid (fun w => ref_mul_ok (reachF g (bndF kd) n) a w fr sa.1 ok.fr)
  have kc := fun w => run_convert_float_int (P := Tryz.prog) w 46 3 .f32 .i64 (floorF (mulF (reachF g (bndF kd) n) a)) (floorZ (mulF (reachF g (bndF kd) n) a)) (by kernel_rfl) Tryz.underlying3 mi.2.1
  have hM : margZ (reachF g (bndF kd) n) a = floorZ (mulF (reachF g (bndF kd) n) a) + 1 := rfl
  have wz : IntKind.i64.wrap (floorZ (mulF (reachF g (bndF kd) n) a) + 1) = margZ (reachF g (bndF kd) n) a := by rw [← hM]; exact IntWalk.i64_in _ (by omega)
  clear h1 hn c1 c2 hg sa fr ok mi hM k1 k2
  generalize margZ (reachF g (bndF kd) n) a = z at *
  generalize floorZ (mulF (reachF g (bndF kd) n) a) = z3 at *
  generalize floorF (mulF (reachF g (bndF kd) n) a) = f3 at *
  generalize mulF (reachF g (bndF kd) n) a = f2 at *
  generalize reachF g (bndF kd) n = f1 at *
  generalize (n : Int) = n at *
  unfold wpV frV at *
  go_enter Tryz.func35, Tryz.ntmps35
  go_upto_region 1 with fail
  generalize hW0 : w.alloc (.cells #[.int .i64 kd, .int .u32 seed, .int .i64 cell, .int .i64 n, .float .f32 g, .float .f32 a] 52) = W0 at *
  have A0 : Blk W0 w.heap.size #[.int .i64 kd, .int .u32 seed, .int .i64 cell, .int .i64 n, .float .f32 g, .float .f32 a] 52 := by subst hW0; exact Blk.new _ _ _
  have b0 : Below w.heap.size w W0 := by subst hW0; exact (by repeat (first | with_reducible exact Below.refl _ _ | with_reducible apply Below.drew | with_reducible refine below_drewN ?_ _ | (with_reducible refine Below.setCell ?_ ?_ _; rotate_left; focus (first | omega | (simp <;> omega))) | (with_reducible refine Below.alloc ?_ ?_ _; rotate_left; focus (first | omega | (simp <;> omega)))))
  have HA0 := Lib.hid A0
  have HB0 := Lib.hid b0
  clear A0 b0 hW0
  have p0 := HA0.out.cell 0
  have p1 := HA0.out.cell 1
  have p2 := HA0.out.cell 2
  have p3 := HA0.out.cell 3
  have p4 := HA0.out.cell 4
  have p5 := HA0.out.cell 5
  simp at p0 p1 p2 p3 p4 p5
  have l0 := HA0.out.lt
  go_wp2_with fail
  go_region_held3 (fun w' => w'.cell? ⟨w.heap.size, 0, none⟩ = some (.int .i64 kd) ∧ w'.cell? ⟨w.heap.size, 1, none⟩ = some (.int .u32 seed) ∧ w'.cell? ⟨w.heap.size, 2, none⟩ = some (.int .i64 cell) ∧ w'.cell? ⟨w.heap.size, 3, none⟩ = some (.int .i64 n) ∧ w'.cell? ⟨w.heap.size, 4, none⟩ = some (.float .f32 g) ∧ w'.cell? ⟨w.heap.size, 5, none⟩ = some (.float .f32 a) ∧ Below W0.heap.size W0 w')
    (first
      | exact ⟨p0, p1, p2, p3, p4, p5, (Below.refl _ _).drew⟩
      | (go_split_ands
         have hs := hb.size
         have hs2 := (show Below W0.heap.size W0 _ by assumption).size
         refine ⟨?_, ?_, ?_, ?_, ?_, ?_, ?_⟩
         all_goals first
           | (rw [hb.cell (by simp; omega)]; assumption)
           | exact Below.trans (by assumption) (hb.mono (by omega)))
      | (go_split_ands; refine ⟨?_, ?_, ?_, ?_, ?_, ?_, ?_⟩ <;> assumption))
    (first
      | (go_at_call 46; go_split_ands; refine (KR.out _).mono ?_; rintro e2 w2 ⟨rfl, hb⟩)
      | (go_at_call 45; go_split_ands; refine (KL.out _).mono ?_; rintro e2 w2 ⟨rfl, rfl⟩)
      | (go_at_call 68; go_split_ands; refine (KR.out _).mono ?_; rintro e2 w2 ⟨rfl, hb⟩)
      | (go_at_call 67; go_split_ands; refine (KM.out _).mono ?_; rintro e2 w2 ⟨rfl, rfl⟩)
      | (go_at_call 66; go_split_ands; refine (KL.out _).mono ?_; rintro e2 w2 ⟨rfl, rfl⟩))
  all_goals
    rename_i hHeld
    have HB3 := Lib.hid (HB0.out.trans (hHeld.2.2.2.2.2.2.mono HB0.out.size))
    clear hHeld
    go_wp2_with fail
    go_ret
    exact ⟨rfl, HB3.out⟩
end Go.Proofs.YtimhpmccmafnpaaGreat
