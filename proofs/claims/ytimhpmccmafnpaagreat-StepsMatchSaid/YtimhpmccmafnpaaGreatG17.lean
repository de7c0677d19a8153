import Derived.Test.YtimhpmccmafnpaaGreatG16
import Derived.Test.YtimhpmccmafnpaaGreatG09
import Derived.BigQuiet
import Derived.Deep.QuietTactic
import Derived.Deep.DeepCutAuto




namespace Go.Proofs.YtimhpmccmafnpaaGreat
open Go.ChangeShapes Go.WideShapes Go.ChangeAt Go.RowKit
open Ieee.Format (fin finE htE allFin allHt all_true all_false mulF subF addF Ht Bd divF rootF floorF easeF mixF)
set_option linter.unusedVariables false

open Ieee.Format (bits_sub)

/-- a fractal, as a value -/
def frV (kd seed cell n : Int) (g : Nat) : Value := .agg #[.int .i64 kd, .int .u32 seed, .int .i64 cell, .int .i64 n, .float .f32 g]
end Go.Proofs.YtimhpmccmafnpaaGreat


namespace Go.Proofs.YtimhpmccmafnpaaGreat
open Go.ChangeShapes Go.WideShapes Go.ChangeAt Go.RowKit
open Ieee.Format (fin finE htE allFin allHt all_true all_false mulF subF addF Ht Bd divF rootF floorF easeF mixF)
set_option linter.unusedVariables false

open Ieee.Format (bits_sub bits_mul bits_add octA octS amp_ok oct_all oct_step Noisy)

/-- all that octaves reckons is finite -/
structure OctOk (g : Nat) (ψ : Nat → Nat) (n : Nat) : Prop where
  fg : fin Ieee.single g
  fa : ∀ k, fin Ieee.single (octA g k)
  fn : ∀ k, k < n → fin Ieee.single (ψ k)
  fp : ∀ k, k < n → fin Ieee.single (mulF (octA g k) (ψ k))
  fs : ∀ k, k ≤ n → fin Ieee.single (octS g ψ k)
theorem oct_ok {g b n : Nat} (ψ : Nat → Nat) (hg : fin Ieee.single g) (g0 : 0 ≤ Ieee.single.V g) (g1 : Ieee.single.V g ≤ 1) (hb : fin Ieee.single b) (b1 : 1 ≤ Ieee.single.V b) (b3 : Ieee.single.V b ≤ 3) (hn : n ≤ 10) (h : ∀ j, j < n → Noisy b (ψ j)) : OctOk g ψ n ∧ OctOk g (fun _ => b) n := by
  have hall := fun k (hk : k ≤ n) => oct_all ψ hg g0 g1 hb b1 b3 k (by omega) (fun j hj => h j (by omega))
  have hamp := amp_ok hg g0 g1
  have hst := fun k (hk : k < n) => (by
    obtain ⟨a1, a2, a3, a4, a5, a6, a7⟩ := hall k (by omega)
    obtain ⟨f, p, q⟩ := hamp k
    exact oct_step (by omega) f p q hb b1 b3 (h k hk) a1 a2 a3 a4 a6 a7 : _)
  exact ⟨⟨hg, fun k => (hamp k).1, fun k hk => (h k hk).1, fun k hk => (hst k hk).1, fun k hk => (hall k hk).1⟩, ⟨hg, fun k => (hamp k).1, fun _ _ => hb, fun k hk => (hst k hk).2.1, fun k hk => (hall k hk).2.1⟩⟩
set_option maxRecDepth 100000 in
set_option maxHeartbeats 1000000 in
theorem octaves_any (gn : Nat) (caps : Array Value) (ψ : Nat → Nat) (kd seed cell : Int) (n g : Nat) (w : World) (hn : n ≤ 10) (ok : OctOk g ψ n)
    (eg : ∀ args w, (callFunc gn args).run Tryz.prog w = .ok (.enter gn args) w)
    (hf : ∀ k : Nat, k < n → ∀ W', Below w.heap.size w W' → Calls Tryz.prog gn (#[.int .i64 (k : Int)] ++ caps) W' fun e w' => e = .returned (.float .f32 (ψ k)) ∧ Below W'.heap.size W' w') :
    Calls Tryz.prog 86 #[frV kd seed cell n g, .func (.func gn) #[] caps] w fun e w' => e = .returned (.float .f32 (octS g ψ n)) ∧ Below w.heap.size w w' := by
  have HF := Lib.hid hf
  have HK := Lib.hid ok
  clear hf ok
  unfold frV
  go_enter Tryz.func86, Tryz.ntmps86
  go_wp2_with fail
  have A0 := Blk.new w #[.int .i64 kd, .int .u32 seed, .int .i64 cell, .int .i64 (n : Int), .float .f32 g] 48
  have B0 : Below w.heap.size w (w.alloc (.cells #[.int .i64 kd, .int .u32 seed, .int .i64 cell, .int .i64 (n : Int), .float .f32 g] 48)) := (by repeat (first | with_reducible exact Below.refl _ _ | with_reducible apply Below.drew | with_reducible refine below_drewN ?_ _ | (with_reducible refine Below.setCell ?_ ?_ _; rotate_left; focus (first | omega | (simp <;> omega))) | (with_reducible refine Below.alloc ?_ ?_ _; rotate_left; focus (first | omega | (simp <;> omega)))))
  generalize w.alloc (.cells #[.int .i64 kd, .int .u32 seed, .int .i64 cell, .int .i64 (n : Int), .float .f32 g] 48) = W0 at *
  go_loopw [5, 6, 7, 10] (fun s a _ i wr => ∃ k : Nat, k ≤ n ∧ i = .int .i64 (k : Int) ∧ s = .float .f32 (octS g ψ k) ∧ a = .float .f32 (octA g k) ∧ Below w.heap.size w wr ∧ Blk wr w.heap.size #[.int .i64 kd, .int .u32 seed, .int .i64 cell, .int .i64 (n : Int), .float .f32 g] 48) (fun _ _ _ i _ => n - (intOf i).toNat)
  case atStart => exact ⟨0, by omega, rfl, rfl, rfl, B0, A0⟩
  case round =>
    obtain ⟨k, hk, rfl, rfl, rfl, B, A⟩ := hrel
    have HB := Lib.hid B
    have HA := Lib.hid A
    clear B A A0 B0
    by_cases hlt : k < n
    · have HC := Lib.hid (HF.out k hlt wr HB.out)
      have k1 := fun w' => run_float_arith (P := Tryz.prog) w' .mul 46 .f32 _ _ _ (bits_mul (HK.out.fa k) (HK.out.fn k hlt))
      have k2 := fun w' => run_float_arith (P := Tryz.prog) w' .add 46 .f32 _ _ _ (bits_add (HK.out.fs k hk) (HK.out.fp k hlt))
      have k3 := fun w' => run_float_arith (P := Tryz.prog) w' .mul 46 .f32 _ _ _ (bits_mul (HK.out.fa k) HK.out.fg)
      have e1 : octS g ψ (k + 1) = addF (octS g ψ k) (mulF (octA g k) (ψ k)) := rfl
      have e2 : octA g (k + 1) = mulF (octA g k) g := rfl
      rw [← e1] at k2
      rw [← e2] at k3
      clear e1 e2
      generalize hz1 : octS g ψ (k + 1) = z1 at *
      generalize hz2 : octA g (k + 1) = z2 at *
      have HZ1 := Lib.hid hz1
      have HZ2 := Lib.hid hz2
      clear hz1 hz2
      generalize octS g ψ k = z3 at *
      generalize octA g k = z4 at *
      generalize mulF z4 (ψ k) = z5 at *
      generalize ψ k = z6 at *
      have kl : (k : Int) < (n : Int) := by omega
      have kw : IntKind.i64.wrap ((k : Int) + 1) = ((k + 1 : Nat) : Int) := IntWalk.i64_in _ (by omega)
      go_wp2_with fail
      refine HC.out.mono ?_
      rintro e w1 ⟨rfl, b1⟩
      have HB1 := Lib.hid (HB.out.trans (b1.mono HB.out.size))
      have HA1 := Lib.hid (HA.out.below b1 HA.out.lt)
      have p4 := HA1.out.cell 4
      simp at p4
      have l4 := HA1.out.lt
      clear b1 HB HA
      go_wp2_with fail
      go_round
      case rel => exact ⟨k + 1, hlt, by go_num, by rw [HZ1.out], by rw [HZ2.out], HB1.out, HA1.out⟩
      case measure => simp [intOf]; omega
    · obtain rfl : k = n := by omega
      have kl : ¬ (k : Int) < (k : Int) := by omega
      go_wp2_with fail
      go_ret
      exact ⟨rfl, HB.out⟩
end Go.Proofs.YtimhpmccmafnpaaGreat



namespace Go.Proofs.YtimhpmccmafnpaaGreat
open Go.ChangeShapes Go.WideShapes Go.ChangeAt Go.RowKit
open Ieee.Format (fin finE htE allFin allHt all_true all_false mulF subF addF Ht Bd divF rootF floorF easeF mixF)
set_option linter.unusedVariables false


theorem shareE_two (t : Nat) : shareE2 t 1065353216 = shareE t := by
  unfold shareE2 shareE
  by_cases hf : fin Ieee.single t
  · rw [if_pos hf]
    by_cases ht : htE [t] = 0
    · rw [if_neg (by omega)]
      cases lss t 0 <;> cases gtr t 1065353216 <;> rfl
    · rw [if_pos ht]
      have a1 : allFin [t] = true := by unfold allFin; simp [hf]
      have n1 : ¬ Ht t := fun hc => ht (Ieee.Format.htE_of_ht (Ieee.Format.allHt_iff.2 (by simpa using hc)))
      have h3 : htE [t] = 3 := Ieee.Format.htE_far a1 (by cases hh : allHt [t]; rfl; exact absurd (Ieee.Format.allHt_iff.1 hh t (by simp)) n1)
      rw [h3]
      cases h : (lss t 0 || gtr t 1065353216) with
      | true => rfl
      | false =>
        exfalso
        obtain ⟨_, b1, b2⟩ := share_of hf h
        have p := Ieee.P2_mono (show (0 : Int) ≤ 20 by omega)
        rw [Ieee.P2_zero] at p
        exact n1 (Ieee.Format.Ht.of ⟨by grind, by grind⟩)
  · rw [if_neg hf]
    have h0 : htE [t] = 2 := Ieee.Format.htE_bad (by unfold allFin; simp [hf])
    rw [h0]; rfl
theorem shareE_zero {t : Nat} (h : shareE t = 0) : Share t := by
  unfold shareE at h
  by_cases hf : fin Ieee.single t
  · rw [if_pos hf] at h
    cases hl : (lss t 0 || gtr t 1065353216) with
    | true => rw [hl] at h; simp at h
    | false => exact share_of hf hl
  · rw [if_neg hf] at h; omega
/-- the error of a fractal -/
def frE (kd cell n : Int) (g : Nat) : Int := if kd < 1 ∨ kd > 4 then 1 else if cell < 1 ∨ cell > 4096 ∨ n < 1 ∨ n > 10 then 3 else shareE g
theorem frE_zero {kd cell n : Int} {g : Nat} (h : frE kd cell n g = 0) : (1 ≤ kd ∧ kd ≤ 4) ∧ (1 ≤ cell ∧ cell ≤ 4096) ∧ (1 ≤ n ∧ n ≤ 10) ∧ Share g := by
  unfold frE at h
  split at h
  · omega
  · split at h
    · omega
    · exact ⟨by omega, by omega, by omega, shareE_zero h⟩
set_option maxRecDepth 100000 in
set_option maxHeartbeats 1000000 in
theorem frcheck_any (kd seed cell n : Int) (g : Nat) (hg : g < 4294967296) (w : World) :
    Calls Tryz.prog 19 #[frV kd seed cell n g] w fun e w' => e = .returned (.int .i64 (frE kd cell n g)) ∧ Below w.heap.size w w' := by
  have KS := Lib.hid (fun w => share_any g hg w)
  try rw [shareE_two] at KS
  unfold frE frV
  clear hg
  generalize shareE g = s at *
  by_cases a1 : kd < 1
  · simp only [a1, true_or, if_true]
    go_enter Tryz.func19, Tryz.ntmps19
    go_wp2_with fail
    go_ret
    exact ⟨rfl, (by repeat (first | with_reducible exact Below.refl _ _ | with_reducible apply Below.drew | with_reducible refine below_drewN ?_ _ | (with_reducible refine Below.setCell ?_ ?_ _; rotate_left; focus (first | omega | (simp <;> omega))) | (with_reducible refine Below.alloc ?_ ?_ _; rotate_left; focus (first | omega | (simp <;> omega)))))⟩
  · by_cases a2 : kd > 4
    · simp only [a1, a2, false_or, if_true]
      go_enter Tryz.func19, Tryz.ntmps19
      go_wp2_with fail
      go_ret
      exact ⟨rfl, (by repeat (first | with_reducible exact Below.refl _ _ | with_reducible apply Below.drew | with_reducible refine below_drewN ?_ _ | (with_reducible refine Below.setCell ?_ ?_ _; rotate_left; focus (first | omega | (simp <;> omega))) | (with_reducible refine Below.alloc ?_ ?_ _; rotate_left; focus (first | omega | (simp <;> omega)))))⟩
    · simp only [a1, a2, or_self, if_false]
      by_cases a3 : cell < 1
      · simp only [a3, true_or, if_true]
        go_enter Tryz.func19, Tryz.ntmps19
        go_wp2_with fail
        go_ret
        exact ⟨rfl, (by repeat (first | with_reducible exact Below.refl _ _ | with_reducible apply Below.drew | with_reducible refine below_drewN ?_ _ | (with_reducible refine Below.setCell ?_ ?_ _; rotate_left; focus (first | omega | (simp <;> omega))) | (with_reducible refine Below.alloc ?_ ?_ _; rotate_left; focus (first | omega | (simp <;> omega)))))⟩
      · by_cases a4 : cell > 4096
        · simp only [a3, a4, false_or, true_or, if_true]
          go_enter Tryz.func19, Tryz.ntmps19
          go_wp2_with fail
          go_ret
          exact ⟨rfl, (by repeat (first | with_reducible exact Below.refl _ _ | with_reducible apply Below.drew | with_reducible refine below_drewN ?_ _ | (with_reducible refine Below.setCell ?_ ?_ _; rotate_left; focus (first | omega | (simp <;> omega))) | (with_reducible refine Below.alloc ?_ ?_ _; rotate_left; focus (first | omega | (simp <;> omega)))))⟩
        · by_cases a5 : n < 1
          · simp only [a3, a4, a5, false_or, true_or, if_true]
            go_enter Tryz.func19, Tryz.ntmps19
            go_wp2_with fail
            go_ret
            exact ⟨rfl, (by repeat (first | with_reducible exact Below.refl _ _ | with_reducible apply Below.drew | with_reducible refine below_drewN ?_ _ | (with_reducible refine Below.setCell ?_ ?_ _; rotate_left; focus (first | omega | (simp <;> omega))) | (with_reducible refine Below.alloc ?_ ?_ _; rotate_left; focus (first | omega | (simp <;> omega)))))⟩
          · by_cases a6 : n > 10
            · simp only [a3, a4, a5, a6, false_or, if_true]
              go_enter Tryz.func19, Tryz.ntmps19
              go_wp2_with fail
              go_ret
              exact ⟨rfl, (by repeat (first | with_reducible exact Below.refl _ _ | with_reducible apply Below.drew | with_reducible refine below_drewN ?_ _ | (with_reducible refine Below.setCell ?_ ?_ _; rotate_left; focus (first | omega | (simp <;> omega))) | (with_reducible refine Below.alloc ?_ ?_ _; rotate_left; focus (first | omega | (simp <;> omega)))))⟩
            · simp only [a3, a4, a5, a6, or_self, if_false]
              go_enter Tryz.func19, Tryz.ntmps19
              go_wp2_with fail
              have b0 : Below w.heap.size w (w.alloc (.cells #[.int .i64 kd, .int .u32 seed, .int .i64 cell, .int .i64 n, .float .f32 g] 48)) := (by repeat (first | with_reducible exact Below.refl _ _ | with_reducible apply Below.drew | with_reducible refine below_drewN ?_ _ | (with_reducible refine Below.setCell ?_ ?_ _; rotate_left; focus (first | omega | (simp <;> omega))) | (with_reducible refine Below.alloc ?_ ?_ _; rotate_left; focus (first | omega | (simp <;> omega)))))
              refine (KS.out _).mono ?_
              rintro e w1 ⟨rfl, b1⟩
              have HB := Lib.hid (b0.trans (b1.mono b0.size))
              clear b0 b1
              go_wp2_with fail
              go_ret
              exact ⟨rfl, HB.out⟩
set_option maxRecDepth 100000 in
set_option maxHeartbeats 1000000 in
theorem refrcheck_any (kd seed cell n : Int) (g : Nat) (hg : g < 4294967296) (w : World) :
    Calls Tryz.prog 52 #[frV kd seed cell n g] w fun e w' => e = .returned (.int .i64 (frE kd cell n g)) ∧ Below w.heap.size w w' := by
  have KS := Lib.hid (fun w => refshare_any g 1065353216 hg w)
  try rw [shareE_two] at KS
  unfold frE frV
  clear hg
  generalize shareE g = s at *
  by_cases a1 : kd < 1
  · simp only [a1, true_or, if_true]
    go_enter Tryz.func52, Tryz.ntmps52
    go_wp2_with fail
    go_ret
    exact ⟨rfl, (by repeat (first | with_reducible exact Below.refl _ _ | with_reducible apply Below.drew | with_reducible refine below_drewN ?_ _ | (with_reducible refine Below.setCell ?_ ?_ _; rotate_left; focus (first | omega | (simp <;> omega))) | (with_reducible refine Below.alloc ?_ ?_ _; rotate_left; focus (first | omega | (simp <;> omega)))))⟩
  · by_cases a2 : kd > 4
    · simp only [a1, a2, false_or, if_true]
      go_enter Tryz.func52, Tryz.ntmps52
      go_wp2_with fail
      go_ret
      exact ⟨rfl, (by repeat (first | with_reducible exact Below.refl _ _ | with_reducible apply Below.drew | with_reducible refine below_drewN ?_ _ | (with_reducible refine Below.setCell ?_ ?_ _; rotate_left; focus (first | omega | (simp <;> omega))) | (with_reducible refine Below.alloc ?_ ?_ _; rotate_left; focus (first | omega | (simp <;> omega)))))⟩
    · simp only [a1, a2, or_self, if_false]
      by_cases a3 : cell < 1
      · simp only [a3, true_or, if_true]
        go_enter Tryz.func52, Tryz.ntmps52
        go_wp2_with fail
        go_ret
        exact ⟨rfl, (by repeat (first | with_reducible exact Below.refl _ _ | with_reducible apply Below.drew | with_reducible refine below_drewN ?_ _ | (with_reducible refine Below.setCell ?_ ?_ _; rotate_left; focus (first | omega | (simp <;> omega))) | (with_reducible refine Below.alloc ?_ ?_ _; rotate_left; focus (first | omega | (simp <;> omega)))))⟩
      · by_cases a4 : cell > 4096
        · simp only [a3, a4, false_or, true_or, if_true]
          go_enter Tryz.func52, Tryz.ntmps52
          go_wp2_with fail
          go_ret
          exact ⟨rfl, (by repeat (first | with_reducible exact Below.refl _ _ | with_reducible apply Below.drew | with_reducible refine below_drewN ?_ _ | (with_reducible refine Below.setCell ?_ ?_ _; rotate_left; focus (first | omega | (simp <;> omega))) | (with_reducible refine Below.alloc ?_ ?_ _; rotate_left; focus (first | omega | (simp <;> omega)))))⟩
        · by_cases a5 : n < 1
          · simp only [a3, a4, a5, false_or, true_or, if_true]
            go_enter Tryz.func52, Tryz.ntmps52
            go_wp2_with fail
            go_ret
            exact ⟨rfl, (by repeat (first | with_reducible exact Below.refl _ _ | with_reducible apply Below.drew | with_reducible refine below_drewN ?_ _ | (with_reducible refine Below.setCell ?_ ?_ _; rotate_left; focus (first | omega | (simp <;> omega))) | (with_reducible refine Below.alloc ?_ ?_ _; rotate_left; focus (first | omega | (simp <;> omega)))))⟩
          · by_cases a6 : n > 10
            · simp only [a3, a4, a5, a6, false_or, if_true]
              go_enter Tryz.func52, Tryz.ntmps52
              go_wp2_with fail
              go_ret
              exact ⟨rfl, (by repeat (first | with_reducible exact Below.refl _ _ | with_reducible apply Below.drew | with_reducible refine below_drewN ?_ _ | (with_reducible refine Below.setCell ?_ ?_ _; rotate_left; focus (first | omega | (simp <;> omega))) | (with_reducible refine Below.alloc ?_ ?_ _; rotate_left; focus (first | omega | (simp <;> omega)))))⟩
            · simp only [a3, a4, a5, a6, or_self, if_false]
              go_enter Tryz.func52, Tryz.ntmps52
              go_wp2_with fail
              have b0 : Below w.heap.size w (w.alloc (.cells #[.int .i64 kd, .int .u32 seed, .int .i64 cell, .int .i64 n, .float .f32 g] 48)) := (by repeat (first | with_reducible exact Below.refl _ _ | with_reducible apply Below.drew | with_reducible refine below_drewN ?_ _ | (with_reducible refine Below.setCell ?_ ?_ _; rotate_left; focus (first | omega | (simp <;> omega))) | (with_reducible refine Below.alloc ?_ ?_ _; rotate_left; focus (first | omega | (simp <;> omega)))))
              refine (KS.out _).mono ?_
              rintro e w1 ⟨rfl, b1⟩
              have HB := Lib.hid (b0.trans (b1.mono b0.size))
              clear b0 b1
              go_wp2_with fail
              go_ret
              exact ⟨rfl, HB.out⟩
end Go.Proofs.YtimhpmccmafnpaaGreat


namespace Go.Proofs.YtimhpmccmafnpaaGreat
open Go.ChangeShapes Go.WideShapes Go.ChangeAt Go.RowKit
open Ieee.Format (fin finE htE allFin allHt all_true all_false mulF subF addF Ht Bd divF rootF floorF easeF mixF)
set_option linter.unusedVariables false

open Ieee.Format (bits_mul octA octS reachF const_1)

theorem frE_nat {kd cell n : Int} {g : Nat} (h : frE kd cell n g = 0) : ∃ m : Nat, n = (m : Int) ∧ 1 ≤ m ∧ m ≤ 10 := by
  obtain ⟨_, _, h3, _⟩ := frE_zero h
  exact ⟨n.toNat, by omega, by omega, by omega⟩
set_option maxRecDepth 100000 in
theorem reachfn_any (b k : Nat) (p : Nat) (w : World) (hp : Blk w p #[.float .f32 b] 46) :
    Calls Tryz.prog 87 #[.int .i64 (k : Int), .pointer (some ⟨p, 0, none⟩)] w fun e w' => e = .returned (.float .f32 b) ∧ Below w.heap.size w w' := by
  have c0 := hp.cell 0
  simp at c0
  have l0 := hp.lt
  clear hp
  go_enter Tryz.func87, Tryz.ntmps87
  go_wp2_with fail
  go_ret
  exact ⟨rfl, (by repeat (first | with_reducible exact Below.refl _ _ | with_reducible apply Below.drew | with_reducible refine below_drewN ?_ _ | (with_reducible refine Below.setCell ?_ ?_ _; rotate_left; focus (first | omega | (simp <;> omega))) | (with_reducible refine Below.alloc ?_ ?_ _; rotate_left; focus (first | omega | (simp <;> omega)))))⟩
set_option maxRecDepth 100000 in
set_option maxHeartbeats 1000000 in
theorem reach_any (kd seed cell : Int) (n g : Nat) (w : World) (hn : n ≤ 10) (h1 : 1 ≤ n) (hg : Share g) :
    Calls Tryz.prog 46 #[frV kd seed cell n g] w fun e w' => e = .returned (.float .f32 (reachF g (bndF kd) n)) ∧ Below w.heap.size w w' := by
  obtain ⟨b1, b2, b3⟩ := bndF_ok kd
  obtain ⟨_, ok⟩ := oct_ok (b := bndF kd) (fun _ => bndF kd) hg.1 hg.2.1 hg.2.2 b1 b2 b3 hn (fun k _ => ⟨b1, by have := (Ieee.P2_pos (-19)); grind, by have := (Ieee.P2_pos (-19)); grind⟩)
  have k3 := fun w' => run_float_arith (P := Tryz.prog) w' .mul 46 .f32 _ _ _ (bits_mul (ok.fs n (Nat.le_refl _)) Ieee.Format.const_reach.1)
  have KF := Lib.hid (fun p w (A : Blk w p #[.float .f32 (bndF kd)] 46) =>
    octaves_any 87 #[.pointer (some ⟨p, 0, none⟩)] (fun _ => bndF kd) kd seed cell n g w hn ok (enters_of Tryz.func87 (by kernel_rfl) rfl)
      (fun k hk W' hb => (by have h := reachfn_any (bndF kd) k p W' (A.below hb A.lt); exact h)))
  unfold reachF
  clear ok b1 b2 b3 hg h1 hn
  generalize mulF (octS g (fun _ => bndF kd) n) 1065354055 = r at *
  generalize octS g (fun _ => bndF kd) n = s at *
  unfold bndF at KF
  unfold frV at *
  by_cases a1 : kd = 2
  · rw [if_pos a1] at KF
    subst a1
    go_enter Tryz.func46, Tryz.ntmps46
    go_upto_region 7 with fail
    generalize hW0 : (w.alloc (.cells #[.int .i64 2, .int .u32 seed, .int .i64 cell, .int .i64 (n : Int), .float .f32 g] 48)).alloc (.cells #[.float .f32 1073741824] 46) = W0
    have A0 : Blk W0 w.heap.size #[.int .i64 2, .int .u32 seed, .int .i64 cell, .int .i64 (n : Int), .float .f32 g] 48 := by subst hW0; exact (Blk.new _ _ _).alloc _
    have A1 : Blk W0 (w.heap.size + 1) #[.float .f32 1073741824] 46 := by
      subst hW0
      have := Blk.new (w.alloc (.cells #[.int .i64 2, .int .u32 seed, .int .i64 cell, .int .i64 (n : Int), .float .f32 g] 48)) #[.float .f32 1073741824] 46
      simpa using this
    have b0 : Below w.heap.size w W0 := by subst hW0; exact (by repeat (first | with_reducible exact Below.refl _ _ | with_reducible apply Below.drew | with_reducible refine below_drewN ?_ _ | (with_reducible refine Below.setCell ?_ ?_ _; rotate_left; focus (first | omega | (simp <;> omega))) | (with_reducible refine Below.alloc ?_ ?_ _; rotate_left; focus (first | omega | (simp <;> omega)))))
    have HB0 := Lib.hid b0
    have KF1 := Lib.hid (KF.out _ _ A1)
    have p0 := A0.cell 0
    have p1 := A0.cell 1
    have p2 := A0.cell 2
    have p3 := A0.cell 3
    have p4 := A0.cell 4
    simp at p0 p1 p2 p3 p4
    have l0 := A0.lt
    clear A0 A1 b0 hW0 KF
    go_wp2_with fail
    refine KF1.out.mono ?_
    rintro e w1 ⟨rfl, b1⟩
    have HB1 := Lib.hid (HB0.out.trans (b1.mono HB0.out.size))
    clear b1
    go_wp2_with fail
    go_ret
    exact ⟨rfl, HB1.out⟩
  · rw [if_neg a1] at KF
    by_cases a2 : kd = 3
    · rw [if_pos a2] at KF
      subst a2
      go_enter Tryz.func46, Tryz.ntmps46
      go_upto_region 7 with fail
      generalize hW0 : (w.alloc (.cells #[.int .i64 3, .int .u32 seed, .int .i64 cell, .int .i64 (n : Int), .float .f32 g] 48)).alloc (.cells #[.float .f32 1077936128] 46) = W0
      have A0 : Blk W0 w.heap.size #[.int .i64 3, .int .u32 seed, .int .i64 cell, .int .i64 (n : Int), .float .f32 g] 48 := by subst hW0; exact (Blk.new _ _ _).alloc _
      have A1 : Blk W0 (w.heap.size + 1) #[.float .f32 1077936128] 46 := by
        subst hW0
        have := Blk.new (w.alloc (.cells #[.int .i64 3, .int .u32 seed, .int .i64 cell, .int .i64 (n : Int), .float .f32 g] 48)) #[.float .f32 1077936128] 46
        simpa using this
      have b0 : Below w.heap.size w W0 := by subst hW0; exact (by repeat (first | with_reducible exact Below.refl _ _ | with_reducible apply Below.drew | with_reducible refine below_drewN ?_ _ | (with_reducible refine Below.setCell ?_ ?_ _; rotate_left; focus (first | omega | (simp <;> omega))) | (with_reducible refine Below.alloc ?_ ?_ _; rotate_left; focus (first | omega | (simp <;> omega)))))
      have HB0 := Lib.hid b0
      have KF1 := Lib.hid (KF.out _ _ A1)
      have p0 := A0.cell 0
      have p1 := A0.cell 1
      have p2 := A0.cell 2
      have p3 := A0.cell 3
      have p4 := A0.cell 4
      simp at p0 p1 p2 p3 p4
      have l0 := A0.lt
      clear A0 A1 b0 hW0 KF
      go_wp2_with fail
      refine KF1.out.mono ?_
      rintro e w1 ⟨rfl, b1⟩
      have HB1 := Lib.hid (HB0.out.trans (b1.mono HB0.out.size))
      clear b1
      go_wp2_with fail
      go_ret
      exact ⟨rfl, HB1.out⟩
    · rw [if_neg a2] at KF
      go_enter Tryz.func46, Tryz.ntmps46
      go_upto_region 7 with fail
      generalize hW0 : (w.alloc (.cells #[.int .i64 kd, .int .u32 seed, .int .i64 cell, .int .i64 (n : Int), .float .f32 g] 48)).alloc (.cells #[.float .f32 1065353216] 46) = W0
      have A0 : Blk W0 w.heap.size #[.int .i64 kd, .int .u32 seed, .int .i64 cell, .int .i64 (n : Int), .float .f32 g] 48 := by subst hW0; exact (Blk.new _ _ _).alloc _
      have A1 : Blk W0 (w.heap.size + 1) #[.float .f32 1065353216] 46 := by
        subst hW0
        have := Blk.new (w.alloc (.cells #[.int .i64 kd, .int .u32 seed, .int .i64 cell, .int .i64 (n : Int), .float .f32 g] 48)) #[.float .f32 1065353216] 46
        simpa using this
      have b0 : Below w.heap.size w W0 := by subst hW0; exact (by repeat (first | with_reducible exact Below.refl _ _ | with_reducible apply Below.drew | with_reducible refine below_drewN ?_ _ | (with_reducible refine Below.setCell ?_ ?_ _; rotate_left; focus (first | omega | (simp <;> omega))) | (with_reducible refine Below.alloc ?_ ?_ _; rotate_left; focus (first | omega | (simp <;> omega)))))
      have HB0 := Lib.hid b0
      have KF1 := Lib.hid (KF.out _ _ A1)
      have p0 := A0.cell 0
      have p1 := A0.cell 1
      have p2 := A0.cell 2
      have p3 := A0.cell 3
      have p4 := A0.cell 4
      simp at p0 p1 p2 p3 p4
      have l0 := A0.lt
      clear A0 A1 b0 hW0 KF
      go_wp2_with fail
      refine KF1.out.mono ?_
      rintro e w1 ⟨rfl, b1⟩
      have HB1 := Lib.hid (HB0.out.trans (b1.mono HB0.out.size))
      clear b1
      go_wp2_with fail
      go_ret
      exact ⟨rfl, HB1.out⟩
end Go.Proofs.YtimhpmccmafnpaaGreat




namespace Ieee
namespace Format
open Go

/-- what a rounded number weighs, its sign apart -/
theorem Rounds.abs_mono {x y : Rat} {s : Bool} {w v : Nat} (h : single.Rounds x s w) (h' : single.Rounds y false v) (fw : single.fin w) (fv : single.fin v) (h1 : x ≤ y) (h2 : -x ≤ y) : single.V w ≤ single.V v ∧ -single.V w ≤ single.V v := by
  obtain ⟨r, rfl, hr⟩ := h
  have l1 := (single.fin_word_iff s r).1 fw
  have p := single.rv_nonneg r
  have fw' : single.fin (single.word false (min r single.infRung)) := (single.fin_word_iff false r).2 l1
  have hm : single.Rounds (sg s * x) false (single.word false (min r single.infRung)) := ⟨r, rfl, by simpa [sg] using hr⟩
  have k := Rounds.mono hm h' fw' fv (by cases s <;> simp [sg] <;> grind)
  rw [single.V_word l1] at k ⊢
  cases s <;> simp [sg] at k ⊢ <;> constructor <;> grind
theorem const_64 : single.fin 1115684864 ∧ single.V 1115684864 = 64 ∧ single.sgn 1115684864 = false := by
  have := V_const false 132 8388608 (.inr (by decide)) (by decide) (by decide)
  rw [show single.word false (132 * 8388608 + 8388608) = 1115684864 from by decide] at this
  refine ⟨this.1, ?_, this.2.2⟩
  rw [this.2.1, show ((132 : Nat) : Int) - 149 = -17 from rfl, show ((8388608 : Nat) : Rat) = P2 23 from (P2_nat 23).symm, ← P2_add]
  simp [sg]
  exact P2_nat 6
theorem const_2048 : single.fin 1157627904 ∧ single.V 1157627904 = 2048 ∧ single.sgn 1157627904 = false := by
  have := V_const false 137 8388608 (.inr (by decide)) (by decide) (by decide)
  rw [show single.word false (137 * 8388608 + 8388608) = 1157627904 from by decide] at this
  refine ⟨this.1, ?_, this.2.2⟩
  rw [this.2.1, show ((137 : Nat) : Int) - 149 = -12 from rfl, show ((8388608 : Nat) : Rat) = P2 23 from (P2_nat 23).symm, ← P2_add]
  simp [sg]
  exact P2_nat 11
theorem const_4096 : single.fin 1166016512 ∧ single.V 1166016512 = 4096 ∧ single.sgn 1166016512 = false := by
  have := V_const false 138 8388608 (.inr (by decide)) (by decide) (by decide)
  rw [show single.word false (138 * 8388608 + 8388608) = 1166016512 from by decide] at this
  refine ⟨this.1, ?_, this.2.2⟩
  rw [this.2.1, show ((138 : Nat) : Int) - 149 = -11 from rfl, show ((8388608 : Nat) : Rat) = P2 23 from (P2_nat 23).symm, ← P2_add]
  simp [sg]
  exact P2_nat 12
theorem place_4096 : single.rplace 1166016511 = -12 := by
  rw [show (1166016511 : Nat) = (137 + 1) * 8388608 + 8388607 from by omega, place_at _ _ (by omega)]; rfl
theorem near_4096 : Near1 4096 (P2 (-13)) := near_of (-12) (-13) 1166016511 (by omega) const_4096 (by omega) place_4096
/-- how far a place is moved -/
structure MoveOk (v a r : Nat) : Prop where
  f1 : single.fin (mulF v a)
  f2 : single.fin (addF (mulF v a) 1056964608)
  p1 : single.V (mulF v a) ≤ single.V (mulF r a)
  p2 : -single.V (mulF v a) ≤ single.V (mulF r a)
  fr : single.fin (mulF r a)
  r0 : 0 ≤ single.V (mulF r a)
  r1 : single.V (mulF r a) ≤ 2048
  q1 : single.V (addF (mulF v a) 1056964608) ≤ single.V (mulF v a) + 1 / 2 + P2 (-13)
  q2 : single.V (mulF v a) + 1 / 2 ≤ single.V (addF (mulF v a) 1056964608) + P2 (-13)
theorem move_ok {v a r : Nat} (fv : single.fin v) (fr : single.fin r) (fa : single.fin a) (a0 : 0 ≤ single.V a) (a1 : single.V a ≤ 64) (h1 : single.V v ≤ single.V r) (h2 : -single.V v ≤ single.V r) (hr : single.V r ≤ 32) : MoveOk v a r := by
  have hr0 : 0 ≤ single.V r := by grind
  have m1 := Rat.mul_le_mul_of_nonneg_right h1 a0
  have m2 := Rat.mul_le_mul_of_nonneg_right h2 a0
  have m3 := Rat.mul_le_mul_of_nonneg_right hr a0
  have m4 := Rat.mul_nonneg hr0 a0
  have sv := (mulF_spec fv fa).2
  have sr := (mulF_spec fr fa).2
  have e1 : -single.V v * single.V a = -(single.V v * single.V a) := by grind
  rw [e1] at m2
  have bv := sv.bound const_2048.1 const_2048.2.2 (by rw [const_2048.2.1]; grind) (by rw [const_2048.2.1]; grind)
  have br := sr.bound const_2048.1 const_2048.2.2 (by rw [const_2048.2.1]; grind) (by rw [const_2048.2.1]; grind)
  rw [const_2048.2.1] at bv br
  have n0 := sr.nonneg br.1 m4
  have hp : single.V (mulF v a) ≤ single.V (mulF r a) ∧ -single.V (mulF v a) ≤ single.V (mulF r a) := by
    by_cases hz : single.V r * single.V a = 0
    · have bz := sv.bound const_0.1 (by decide) (by rw [const_0.2.1]; grind) (by rw [const_0.2.1]; grind)
      rw [const_0.2.1] at bz
      exact ⟨by grind, by grind⟩
    · have q1 : 0 < single.V r := by
        have : single.V r ≠ 0 := fun h => hz (by rw [h, Rat.zero_mul])
        grind
      have q2 : 0 < single.V a := by
        have : single.V a ≠ 0 := fun h => hz (by rw [h, Rat.mul_zero])
        grind
      rw [pos_sgn q1, pos_sgn q2] at sr
      exact Rounds.abs_mono sv sr bv.1 br.1 m1 m2
  have sa := (addF_spec bv.1 const_half.1).2
  rw [const_half.2.1] at sa
  obtain ⟨g1, g2, g3, _, _⟩ := near_4096 _ _ _ sa (by grind) (by grind)
  exact ⟨bv.1, g1, hp.1, hp.2, br.1, n0, br.2.1, g2, g3⟩
end Format
end Ieee
namespace Go.Proofs.YtimhpmccmafnpaaGreat
open Ieee.Format (fin mulF addF floorF move_ok MoveOk)
def moveF (v a : Nat) : Nat := floorF (addF (mulF v a) 1056964608)
def moveZ (v a : Nat) : Int := floorZ (addF (mulF v a) 1056964608)
def margZ (r a : Nat) : Int := floorZ (mulF r a) + 1
theorem int_lt {a b : Int} (h : (a : Rat) < (b : Rat)) : a < b := Rat.intCast_lt_intCast.1 h
theorem move_in {v a r : Nat} (h : MoveOk v a r) : floatToIntVal .f32 (moveF v a) .i64 = some (moveZ v a) ∧ floatToIntVal .f32 (floorF (mulF r a)) .i64 = some (floorZ (mulF r a)) ∧ moveZ v a ≤ margZ r a ∧ -moveZ v a ≤ margZ r a ∧ margZ r a ≤ 2049 ∧ 0 ≤ margZ r a := by
  obtain ⟨f1, f2, p1, p2, fr, r0, r1, q1, q2⟩ := h
  have p13 : 0 < Ieee.P2 (-13) := Ieee.P2_pos _
  have p13' : Ieee.P2 (-13) < 1 / 4 := by
    have := Ieee.P2_lt (show (-13 : Int) < -2 by omega)
    have d : Ieee.P2 (-1) = 2 * Ieee.P2 (-2) := Ieee.Format.P2_double (-1)
    have d2 : Ieee.P2 0 = 2 * Ieee.P2 (-1) := Ieee.Format.P2_double 0
    rw [Ieee.P2_zero] at d2
    grind
  have e40 : Ieee.P2 40 = ((1099511627776 : Int) : Rat) := Ieee.P2_nat 40
  have e40' : (4096 : Rat) ≤ Ieee.P2 40 := by rw [e40]; decide
  have l1 : addF (mulF v a) 1056964608 < 4294967296 := Ieee.Format.addF_lt _ _
  have l2 : mulF r a < 4294967296 := Ieee.Format.mulF_lt _ _
  obtain ⟨a1, _, a3, a4, _, _⟩ := floorZ_spec f2 l1 (by grind) (by grind)
  obtain ⟨b1, _, b3, b4, _, _⟩ := floorZ_spec fr l2 (by grind) (by grind)
  unfold moveF moveZ margZ
  generalize floorZ (addF (mulF v a) 1056964608) = d at *
  generalize floorZ (mulF r a) = m at *
  have c1 : ((1 : Int) : Rat) = 1 := rfl
  refine ⟨a1, b1, ?_, ?_, ?_, ?_⟩
  · have : (d : Rat) < ((m + 2 : Int) : Rat) := by
      rw [Rat.intCast_add, show ((2 : Int) : Rat) = 2 from rfl]; grind
    have := int_lt this
    omega
  · have : ((-(m + 2) : Int) : Rat) < (d : Rat) := by
      rw [Rat.intCast_neg, Rat.intCast_add, show ((2 : Int) : Rat) = 2 from rfl]; grind
    have := int_lt this
    omega
  · have : (m : Rat) < ((2049 : Int) : Rat) := by rw [show ((2049 : Int) : Rat) = 2049 from rfl]; grind
    have := int_lt this
    omega
  · have : ((-1 : Int) : Rat) < (m : Rat) := by rw [show ((-1 : Int) : Rat) = -1 from rfl]; grind
    have := int_lt this
    omega
end Go.Proofs.YtimhpmccmafnpaaGreat




namespace Go.Proofs.YtimhpmccmafnpaaGreat
open Go.ChangeShapes Go.WideShapes Go.ChangeAt Go.RowKit
open Ieee.Format (fin finE htE allFin allHt all_true all_false mulF subF addF Ht Bd divF rootF floorF easeF mixF)
set_option linter.unusedVariables false

open Ieee.Format (finE_ok finE_bad const_64 const_0)

/-! ### warps: the check -/
def wsE (t : Nat) : Int := if fin Ieee.single t then (if lss t 0 || gtr t 1115684864 then 3 else 0) else 2
theorem wsE_two (t : Nat) : shareE2 t 1115684864 = wsE t := by
  unfold shareE2 wsE
  by_cases hf : fin Ieee.single t
  · rw [if_pos hf]
    by_cases ht : htE [t] = 0
    · rw [if_neg (by omega)]
      cases lss t 0 <;> cases gtr t 1115684864 <;> rfl
    · rw [if_pos ht]
      have a1 : allFin [t] = true := by unfold allFin; simp [hf]
      have n1 : ¬ Ht t := fun hc => ht (Ieee.Format.htE_of_ht (Ieee.Format.allHt_iff.2 (by simpa using hc)))
      have h3 : htE [t] = 3 := Ieee.Format.htE_far a1 (by cases hh : allHt [t]; rfl; exact absurd (Ieee.Format.allHt_iff.1 hh t (by simp)) n1)
      rw [h3]
      cases h : (lss t 0 || gtr t 1115684864) with
      | true => rfl
      | false =>
        exfalso
        rw [Bool.or_eq_false_iff] at h
        obtain ⟨l1, l2⟩ := h
        rw [lss_V hf const_0.1, const_0.2.1] at l1
        rw [gtr_V hf const_64.1, const_64.2.1] at l2
        have l1 := of_decide_eq_false l1
        have l2 := of_decide_eq_false l2
        have p : (64 : Rat) ≤ Ieee.P2 20 := by rw [show Ieee.P2 20 = ((2 ^ 20 : Nat) : Rat) from Ieee.P2_nat 20]; decide
        exact n1 (Ieee.Format.Ht.of ⟨by grind, by grind⟩)
  · rw [if_neg hf]
    have h0 : htE [t] = 2 := Ieee.Format.htE_bad (by unfold allFin; simp [hf])
    rw [h0]; rfl
theorem wsE_zero {t : Nat} (h : wsE t = 0) : fin Ieee.single t ∧ 0 ≤ Ieee.single.V t ∧ Ieee.single.V t ≤ 64 := by
  unfold wsE at h
  by_cases hf : fin Ieee.single t
  · rw [if_pos hf] at h
    cases hl : (lss t 0 || gtr t 1115684864) with
    | true => rw [hl] at h; simp at h
    | false =>
      rw [Bool.or_eq_false_iff] at hl
      obtain ⟨l1, l2⟩ := hl
      rw [lss_V hf const_0.1, const_0.2.1] at l1
      rw [gtr_V hf const_64.1, const_64.2.1] at l2
      have l1 := of_decide_eq_false l1
      have l2 := of_decide_eq_false l2
      exact ⟨hf, by grind, by grind⟩
  · rw [if_neg hf] at h; omega
def wpE (kd cell n : Int) (g a : Nat) : Int := if frE kd cell n g = 0 then wsE a else frE kd cell n g
/-- a warp, as a value -/
def wpV (kd seed cell n : Int) (g a : Nat) : Value := .agg #[.int .i64 kd, .int .u32 seed, .int .i64 cell, .int .i64 n, .float .f32 g, .float .f32 a]
set_option maxRecDepth 100000 in
set_option maxHeartbeats 1000000 in
theorem wpcheck_any (kd seed cell n : Int) (g a : Nat) (hg : g < 4294967296) (ha : a < 4294967296) (w : World) :
    Calls Tryz.prog 21 #[wpV kd seed cell n g a] w fun e w' => e = .returned (.int .i64 (wpE kd cell n g a)) ∧ Below w.heap.size w w' := by
  have KC := Lib.hid (fun w => frcheck_any kd seed cell n g hg w)
  have KF := Lib.hid (fun w c => finites_any (some ⟨w.heap.size, 0, none⟩) c [a] (w.alloc (.cells #[.float .f32 a] 46)) (row_one w a ha _))
  unfold wpE wpV
  unfold frV at *
  by_cases hE : frE kd cell n g = 0
  · rw [if_pos hE]
    rw [hE] at KC
    unfold wsE
    by_cases hf : fin Ieee.single a
    · have e1 : finE [a] = 0 := finE_ok (by unfold allFin; simp [hf])
      rw [e1] at KF
      rw [if_pos hf]
      clear hf e1 hE hg ha
      cases h1 : lss a 0 with
      | true =>
        change (FloatKind.f32.format.order a 0 == some .lt) = true at h1
        simp only [Bool.true_or, if_true]
        go_enter Tryz.func21, Tryz.ntmps21
        go_upto_region 1 with fail
        generalize hW0 : w.alloc (.cells #[.int .i64 kd, .int .u32 seed, .int .i64 cell, .int .i64 n, .float .f32 g, .float .f32 a] 52) = W0
        have A0 : Blk W0 w.heap.size #[.int .i64 kd, .int .u32 seed, .int .i64 cell, .int .i64 n, .float .f32 g, .float .f32 a] 52 := by subst hW0; exact Blk.new _ _ _
        have b0 : Below w.heap.size w W0 := by subst hW0; exact (by repeat (first | with_reducible exact Below.refl _ _ | with_reducible apply Below.drew | with_reducible refine below_drewN ?_ _ | (with_reducible refine Below.setCell ?_ ?_ _; rotate_left; focus (first | omega | (simp <;> omega))) | (with_reducible refine Below.alloc ?_ ?_ _; rotate_left; focus (first | omega | (simp <;> omega)))))
        have HB0 := Lib.hid b0
        have HA0 := Lib.hid A0
        clear b0 hW0 A0
        have p0 := HA0.out.cell 0
        have p1 := HA0.out.cell 1
        have p2 := HA0.out.cell 2
        have p3 := HA0.out.cell 3
        have p4 := HA0.out.cell 4
        have p5 := HA0.out.cell 5
        simp at p0 p1 p2 p3 p4 p5
        have l0 := HA0.out.lt
        go_wp2_with fail
        refine (KC.out _).mono ?_
        rintro e w1 ⟨rfl, b1⟩
        have HB1 := Lib.hid (HB0.out.trans (b1.mono HB0.out.size))
        have HA1 := Lib.hid (HA0.out.below b1 HA0.out.lt)
        clear b1 HB0 HA0 p0 p1 p2 p3 p4 p5 l0
        have p0 := HA1.out.cell 0
        have p1 := HA1.out.cell 1
        have p2 := HA1.out.cell 2
        have p3 := HA1.out.cell 3
        have p4 := HA1.out.cell 4
        have p5 := HA1.out.cell 5
        simp at p0 p1 p2 p3 p4 p5
        have l0 := HA1.out.lt
        go_wp2_with fail
        refine (KF.out _ _).mono ?_
        rintro e w2 ⟨rfl, rfl⟩
        go_upto_region 5 with fail
        have b3 : Below w1.heap.size w1 (w1.alloc (.cells #[.float .f32 a] 46)) := (by repeat (first | with_reducible exact Below.refl _ _ | with_reducible apply Below.drew | with_reducible refine below_drewN ?_ _ | (with_reducible refine Below.setCell ?_ ?_ _; rotate_left; focus (first | omega | (simp <;> omega))) | (with_reducible refine Below.alloc ?_ ?_ _; rotate_left; focus (first | omega | (simp <;> omega)))))
        have HB3 := Lib.hid (HB1.out.trans (b3.mono HB1.out.size))
        have HA3 := Lib.hid (HA1.out.below b3 HA1.out.lt)
        clear b3 HB1 HA1 p0 p1 p2 p3 p4 p5 l0
        generalize w1.alloc (.cells #[.float .f32 a] 46) = w3 at *
        have p0 := HA3.out.cell 0
        have p1 := HA3.out.cell 1
        have p2 := HA3.out.cell 2
        have p3 := HA3.out.cell 3
        have p4 := HA3.out.cell 4
        have p5 := HA3.out.cell 5
        simp at p0 p1 p2 p3 p4 p5
        have l0 := HA3.out.lt
        go_wp2_with fail
        go_ret
        exact ⟨rfl, HB3.out⟩
      | false =>
        cases h2 : gtr a 1115684864 with
        | true =>
          change (FloatKind.f32.format.order a 0 == some .lt) = false at h1
          change (FloatKind.f32.format.order a 1115684864 == some .gt) = true at h2
          simp only [Bool.or_true, if_true]
          go_enter Tryz.func21, Tryz.ntmps21
          go_upto_region 1 with fail
          generalize hW0 : w.alloc (.cells #[.int .i64 kd, .int .u32 seed, .int .i64 cell, .int .i64 n, .float .f32 g, .float .f32 a] 52) = W0
          have A0 : Blk W0 w.heap.size #[.int .i64 kd, .int .u32 seed, .int .i64 cell, .int .i64 n, .float .f32 g, .float .f32 a] 52 := by subst hW0; exact Blk.new _ _ _
          have b0 : Below w.heap.size w W0 := by subst hW0; exact (by repeat (first | with_reducible exact Below.refl _ _ | with_reducible apply Below.drew | with_reducible refine below_drewN ?_ _ | (with_reducible refine Below.setCell ?_ ?_ _; rotate_left; focus (first | omega | (simp <;> omega))) | (with_reducible refine Below.alloc ?_ ?_ _; rotate_left; focus (first | omega | (simp <;> omega)))))
          have HB0 := Lib.hid b0
          have HA0 := Lib.hid A0
          clear b0 hW0 A0
          have p0 := HA0.out.cell 0
          have p1 := HA0.out.cell 1
          have p2 := HA0.out.cell 2
          have p3 := HA0.out.cell 3
          have p4 := HA0.out.cell 4
          have p5 := HA0.out.cell 5
          simp at p0 p1 p2 p3 p4 p5
          have l0 := HA0.out.lt
          go_wp2_with fail
          refine (KC.out _).mono ?_
          rintro e w1 ⟨rfl, b1⟩
          have HB1 := Lib.hid (HB0.out.trans (b1.mono HB0.out.size))
          have HA1 := Lib.hid (HA0.out.below b1 HA0.out.lt)
          clear b1 HB0 HA0 p0 p1 p2 p3 p4 p5 l0
          have p0 := HA1.out.cell 0
          have p1 := HA1.out.cell 1
          have p2 := HA1.out.cell 2
          have p3 := HA1.out.cell 3
          have p4 := HA1.out.cell 4
          have p5 := HA1.out.cell 5
          simp at p0 p1 p2 p3 p4 p5
          have l0 := HA1.out.lt
          go_wp2_with fail
          refine (KF.out _ _).mono ?_
          rintro e w2 ⟨rfl, rfl⟩
          go_upto_region 5 with fail
          have b3 : Below w1.heap.size w1 (w1.alloc (.cells #[.float .f32 a] 46)) := (by repeat (first | with_reducible exact Below.refl _ _ | with_reducible apply Below.drew | with_reducible refine below_drewN ?_ _ | (with_reducible refine Below.setCell ?_ ?_ _; rotate_left; focus (first | omega | (simp <;> omega))) | (with_reducible refine Below.alloc ?_ ?_ _; rotate_left; focus (first | omega | (simp <;> omega)))))
          have HB3 := Lib.hid (HB1.out.trans (b3.mono HB1.out.size))
          have HA3 := Lib.hid (HA1.out.below b3 HA1.out.lt)
          clear b3 HB1 HA1 p0 p1 p2 p3 p4 p5 l0
          generalize w1.alloc (.cells #[.float .f32 a] 46) = w3 at *
          have p0 := HA3.out.cell 0
          have p1 := HA3.out.cell 1
          have p2 := HA3.out.cell 2
          have p3 := HA3.out.cell 3
          have p4 := HA3.out.cell 4
          have p5 := HA3.out.cell 5
          simp at p0 p1 p2 p3 p4 p5
          have l0 := HA3.out.lt
          go_wp2_with fail
          go_ret
          exact ⟨rfl, HB3.out⟩
        | false =>
          change (FloatKind.f32.format.order a 0 == some .lt) = false at h1
          change (FloatKind.f32.format.order a 1115684864 == some .gt) = false at h2
          simp only [Bool.or_self, Bool.false_eq_true, if_false]
          go_enter Tryz.func21, Tryz.ntmps21
          go_upto_region 1 with fail
          generalize hW0 : w.alloc (.cells #[.int .i64 kd, .int .u32 seed, .int .i64 cell, .int .i64 n, .float .f32 g, .float .f32 a] 52) = W0
          have A0 : Blk W0 w.heap.size #[.int .i64 kd, .int .u32 seed, .int .i64 cell, .int .i64 n, .float .f32 g, .float .f32 a] 52 := by subst hW0; exact Blk.new _ _ _
          have b0 : Below w.heap.size w W0 := by subst hW0; exact (by repeat (first | with_reducible exact Below.refl _ _ | with_reducible apply Below.drew | with_reducible refine below_drewN ?_ _ | (with_reducible refine Below.setCell ?_ ?_ _; rotate_left; focus (first | omega | (simp <;> omega))) | (with_reducible refine Below.alloc ?_ ?_ _; rotate_left; focus (first | omega | (simp <;> omega)))))
          have HB0 := Lib.hid b0
          have HA0 := Lib.hid A0
          clear b0 hW0 A0
          have p0 := HA0.out.cell 0
          have p1 := HA0.out.cell 1
          have p2 := HA0.out.cell 2
          have p3 := HA0.out.cell 3
          have p4 := HA0.out.cell 4
          have p5 := HA0.out.cell 5
          simp at p0 p1 p2 p3 p4 p5
          have l0 := HA0.out.lt
          go_wp2_with fail
          refine (KC.out _).mono ?_
          rintro e w1 ⟨rfl, b1⟩
          have HB1 := Lib.hid (HB0.out.trans (b1.mono HB0.out.size))
          have HA1 := Lib.hid (HA0.out.below b1 HA0.out.lt)
          clear b1 HB0 HA0 p0 p1 p2 p3 p4 p5 l0
          have p0 := HA1.out.cell 0
          have p1 := HA1.out.cell 1
          have p2 := HA1.out.cell 2
          have p3 := HA1.out.cell 3
          have p4 := HA1.out.cell 4
          have p5 := HA1.out.cell 5
          simp at p0 p1 p2 p3 p4 p5
          have l0 := HA1.out.lt
          go_wp2_with fail
          refine (KF.out _ _).mono ?_
          rintro e w2 ⟨rfl, rfl⟩
          go_upto_region 5 with fail
          have b3 : Below w1.heap.size w1 (w1.alloc (.cells #[.float .f32 a] 46)) := (by repeat (first | with_reducible exact Below.refl _ _ | with_reducible apply Below.drew | with_reducible refine below_drewN ?_ _ | (with_reducible refine Below.setCell ?_ ?_ _; rotate_left; focus (first | omega | (simp <;> omega))) | (with_reducible refine Below.alloc ?_ ?_ _; rotate_left; focus (first | omega | (simp <;> omega)))))
          have HB3 := Lib.hid (HB1.out.trans (b3.mono HB1.out.size))
          have HA3 := Lib.hid (HA1.out.below b3 HA1.out.lt)
          clear b3 HB1 HA1 p0 p1 p2 p3 p4 p5 l0
          generalize w1.alloc (.cells #[.float .f32 a] 46) = w3 at *
          have p0 := HA3.out.cell 0
          have p1 := HA3.out.cell 1
          have p2 := HA3.out.cell 2
          have p3 := HA3.out.cell 3
          have p4 := HA3.out.cell 4
          have p5 := HA3.out.cell 5
          simp at p0 p1 p2 p3 p4 p5
          have l0 := HA3.out.lt
          go_wp2_with fail
          go_ret
          exact ⟨rfl, HB3.out⟩
    · have e1 : finE [a] = 2 := finE_bad (by unfold allFin; simp [hf])
      rw [e1] at KF
      rw [if_neg hf]
      clear hf e1 hE hg ha
      go_enter Tryz.func21, Tryz.ntmps21
      go_upto_region 1 with fail
      generalize hW0 : w.alloc (.cells #[.int .i64 kd, .int .u32 seed, .int .i64 cell, .int .i64 n, .float .f32 g, .float .f32 a] 52) = W0
      have A0 : Blk W0 w.heap.size #[.int .i64 kd, .int .u32 seed, .int .i64 cell, .int .i64 n, .float .f32 g, .float .f32 a] 52 := by subst hW0; exact Blk.new _ _ _
      have b0 : Below w.heap.size w W0 := by subst hW0; exact (by repeat (first | with_reducible exact Below.refl _ _ | with_reducible apply Below.drew | with_reducible refine below_drewN ?_ _ | (with_reducible refine Below.setCell ?_ ?_ _; rotate_left; focus (first | omega | (simp <;> omega))) | (with_reducible refine Below.alloc ?_ ?_ _; rotate_left; focus (first | omega | (simp <;> omega)))))
      have HB0 := Lib.hid b0
      have HA0 := Lib.hid A0
      clear b0 hW0 A0
      have p0 := HA0.out.cell 0
      have p1 := HA0.out.cell 1
      have p2 := HA0.out.cell 2
      have p3 := HA0.out.cell 3
      have p4 := HA0.out.cell 4
      have p5 := HA0.out.cell 5
      simp at p0 p1 p2 p3 p4 p5
      have l0 := HA0.out.lt
      go_wp2_with fail
      refine (KC.out _).mono ?_
      rintro e w1 ⟨rfl, b1⟩
      have HB1 := Lib.hid (HB0.out.trans (b1.mono HB0.out.size))
      have HA1 := Lib.hid (HA0.out.below b1 HA0.out.lt)
      clear b1 HB0 HA0 p0 p1 p2 p3 p4 p5 l0
      have p0 := HA1.out.cell 0
      have p1 := HA1.out.cell 1
      have p2 := HA1.out.cell 2
      have p3 := HA1.out.cell 3
      have p4 := HA1.out.cell 4
      have p5 := HA1.out.cell 5
      simp at p0 p1 p2 p3 p4 p5
      have l0 := HA1.out.lt
      go_wp2_with fail
      refine (KF.out _ _).mono ?_
      rintro e w2 ⟨rfl, rfl⟩
      go_upto_region 5 with fail
      have b3 : Below w1.heap.size w1 (w1.alloc (.cells #[.float .f32 a] 46)) := (by repeat (first | with_reducible exact Below.refl _ _ | with_reducible apply Below.drew | with_reducible refine below_drewN ?_ _ | (with_reducible refine Below.setCell ?_ ?_ _; rotate_left; focus (first | omega | (simp <;> omega))) | (with_reducible refine Below.alloc ?_ ?_ _; rotate_left; focus (first | omega | (simp <;> omega)))))
      have HB3 := Lib.hid (HB1.out.trans (b3.mono HB1.out.size))
      have HA3 := Lib.hid (HA1.out.below b3 HA1.out.lt)
      clear b3 HB1 HA1 p0 p1 p2 p3 p4 p5 l0
      generalize w1.alloc (.cells #[.float .f32 a] 46) = w3 at *
      have p0 := HA3.out.cell 0
      have p1 := HA3.out.cell 1
      have p2 := HA3.out.cell 2
      have p3 := HA3.out.cell 3
      have p4 := HA3.out.cell 4
      have p5 := HA3.out.cell 5
      simp at p0 p1 p2 p3 p4 p5
      have l0 := HA3.out.lt
      go_wp2_with fail
      go_ret
      exact ⟨rfl, HB3.out⟩
  · rw [if_neg hE]
    have hb : (frE kd cell n g != 0) = true := by simpa using hE
    clear hE hg ha KF
    generalize frE kd cell n g = z at *
    go_enter Tryz.func21, Tryz.ntmps21
    go_upto_region 1 with fail
    generalize hW0 : w.alloc (.cells #[.int .i64 kd, .int .u32 seed, .int .i64 cell, .int .i64 n, .float .f32 g, .float .f32 a] 52) = W0
    have A0 : Blk W0 w.heap.size #[.int .i64 kd, .int .u32 seed, .int .i64 cell, .int .i64 n, .float .f32 g, .float .f32 a] 52 := by subst hW0; exact Blk.new _ _ _
    have b0 : Below w.heap.size w W0 := by subst hW0; exact (by repeat (first | with_reducible exact Below.refl _ _ | with_reducible apply Below.drew | with_reducible refine below_drewN ?_ _ | (with_reducible refine Below.setCell ?_ ?_ _; rotate_left; focus (first | omega | (simp <;> omega))) | (with_reducible refine Below.alloc ?_ ?_ _; rotate_left; focus (first | omega | (simp <;> omega)))))
    have HB0 := Lib.hid b0
    have HA0 := Lib.hid A0
    clear b0 hW0 A0
    have p0 := HA0.out.cell 0
    have p1 := HA0.out.cell 1
    have p2 := HA0.out.cell 2
    have p3 := HA0.out.cell 3
    have p4 := HA0.out.cell 4
    have p5 := HA0.out.cell 5
    simp at p0 p1 p2 p3 p4 p5
    have l0 := HA0.out.lt
    go_wp2_with fail
    refine (KC.out _).mono ?_
    rintro e w1 ⟨rfl, b1⟩
    have HB1 := Lib.hid (HB0.out.trans (b1.mono HB0.out.size))
    have HA1 := Lib.hid (HA0.out.below b1 HA0.out.lt)
    clear b1 HB0 HA0 p0 p1 p2 p3 p4 p5 l0
    go_wp2_with fail
    go_ret
    exact ⟨rfl, HB1.out⟩
set_option maxRecDepth 100000 in
set_option maxHeartbeats 1000000 in
theorem refwpcheck_any (kd seed cell n : Int) (g a : Nat) (hg : g < 4294967296) (ha : a < 4294967296) (w : World) :
    Calls Tryz.prog 51 #[wpV kd seed cell n g a] w fun e w' => e = .returned (.int .i64 (wpE kd cell n g a)) ∧ Below w.heap.size w w' := by
  have KC := Lib.hid (fun w => refrcheck_any kd seed cell n g hg w)
  have KS := Lib.hid (fun w => refshare_any a 1115684864 ha w)
  rw [wsE_two] at KS
  unfold wpE wpV
  unfold frV at *
  by_cases hE : frE kd cell n g = 0
  · rw [if_pos hE]
    rw [hE] at KC
    clear hE hg ha
    generalize wsE a = z at *
    go_enter Tryz.func51, Tryz.ntmps51
    go_upto_region 1 with fail
    generalize hW0 : w.alloc (.cells #[.int .i64 kd, .int .u32 seed, .int .i64 cell, .int .i64 n, .float .f32 g, .float .f32 a] 52) = W0
    have A0 : Blk W0 w.heap.size #[.int .i64 kd, .int .u32 seed, .int .i64 cell, .int .i64 n, .float .f32 g, .float .f32 a] 52 := by subst hW0; exact Blk.new _ _ _
    have b0 : Below w.heap.size w W0 := by subst hW0; exact (by repeat (first | with_reducible exact Below.refl _ _ | with_reducible apply Below.drew | with_reducible refine below_drewN ?_ _ | (with_reducible refine Below.setCell ?_ ?_ _; rotate_left; focus (first | omega | (simp <;> omega))) | (with_reducible refine Below.alloc ?_ ?_ _; rotate_left; focus (first | omega | (simp <;> omega)))))
    have HB0 := Lib.hid b0
    have HA0 := Lib.hid A0
    clear b0 hW0 A0
    have p0 := HA0.out.cell 0
    have p1 := HA0.out.cell 1
    have p2 := HA0.out.cell 2
    have p3 := HA0.out.cell 3
    have p4 := HA0.out.cell 4
    have p5 := HA0.out.cell 5
    simp at p0 p1 p2 p3 p4 p5
    have l0 := HA0.out.lt
    go_wp2_with fail
    refine (KC.out _).mono ?_
    rintro e w1 ⟨rfl, b1⟩
    have HB1 := Lib.hid (HB0.out.trans (b1.mono HB0.out.size))
    have HA1 := Lib.hid (HA0.out.below b1 HA0.out.lt)
    clear b1 HB0 HA0 p0 p1 p2 p3 p4 p5 l0
    have p0 := HA1.out.cell 0
    have p1 := HA1.out.cell 1
    have p2 := HA1.out.cell 2
    have p3 := HA1.out.cell 3
    have p4 := HA1.out.cell 4
    have p5 := HA1.out.cell 5
    simp at p0 p1 p2 p3 p4 p5
    have l0 := HA1.out.lt
    go_wp2_with fail
    refine (KS.out _).mono ?_
    rintro e w2 ⟨rfl, b2⟩
    have HB2 := Lib.hid (HB1.out.trans (b2.mono HB1.out.size))
    clear b2
    go_wp2_with fail
    go_ret
    exact ⟨rfl, HB2.out⟩
  · rw [if_neg hE]
    have hb : (frE kd cell n g != 0) = true := by simpa using hE
    clear hE hg ha KS
    generalize frE kd cell n g = z at *
    go_enter Tryz.func51, Tryz.ntmps51
    go_upto_region 1 with fail
    generalize hW0 : w.alloc (.cells #[.int .i64 kd, .int .u32 seed, .int .i64 cell, .int .i64 n, .float .f32 g, .float .f32 a] 52) = W0
    have A0 : Blk W0 w.heap.size #[.int .i64 kd, .int .u32 seed, .int .i64 cell, .int .i64 n, .float .f32 g, .float .f32 a] 52 := by subst hW0; exact Blk.new _ _ _
    have b0 : Below w.heap.size w W0 := by subst hW0; exact (by repeat (first | with_reducible exact Below.refl _ _ | with_reducible apply Below.drew | with_reducible refine below_drewN ?_ _ | (with_reducible refine Below.setCell ?_ ?_ _; rotate_left; focus (first | omega | (simp <;> omega))) | (with_reducible refine Below.alloc ?_ ?_ _; rotate_left; focus (first | omega | (simp <;> omega)))))
    have HB0 := Lib.hid b0
    have HA0 := Lib.hid A0
    clear b0 hW0 A0
    have p0 := HA0.out.cell 0
    have p1 := HA0.out.cell 1
    have p2 := HA0.out.cell 2
    have p3 := HA0.out.cell 3
    have p4 := HA0.out.cell 4
    have p5 := HA0.out.cell 5
    simp at p0 p1 p2 p3 p4 p5
    have l0 := HA0.out.lt
    go_wp2_with fail
    refine (KC.out _).mono ?_
    rintro e w1 ⟨rfl, b1⟩
    have HB1 := Lib.hid (HB0.out.trans (b1.mono HB0.out.size))
    have HA1 := Lib.hid (HA0.out.below b1 HA0.out.lt)
    clear b1 HB0 HA0 p0 p1 p2 p3 p4 p5 l0
    go_wp2_with fail
    go_ret
    exact ⟨rfl, HB1.out⟩
end Go.Proofs.YtimhpmccmafnpaaGreat
