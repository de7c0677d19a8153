import Derived.Test.YtkmcinibaffpmaaWear
import Derived.Test.YtkmcinibaffpmaaM7
namespace Go.Proofs.Ytkmcinibaffpmaa
open Go.ChangeShapes Go.WideShapes Go.ChangeAt Go.RowKit
open Ieee.Format (fin finE htE allFin allHt all_true all_false mulF subF addF Ht Bd divF rootF floorF easeF mixF)
set_option linter.unusedVariables false

def movedF (T R a b : Nat) : Nat := if gtr (subF a b) T = true then mulF (subF (subF a b) T) R else 0
/-- a right wear -/
structure WearOk (T R : Nat) : Prop where
  t : Bd 20 T
  t0 : 0 ≤ Ieee.single.V T
  r : fin Ieee.single R
  r0 : 0 ≤ Ieee.single.V R
  r1 : Ieee.single.V R ≤ Ieee.P2 (-3)
theorem WearOk.of {T R : Nat} {n : Int} (h : wearE T R n = 0) : WearOk T R ∧ 0 ≤ n ∧ n ≤ 64 := by
  unfold wearE at h
  by_cases h1 : htE [T] = 0
  · rw [if_neg (by omega)] at h
    have ht := htE_one h1
    cases h2 : lss T 0 with
    | true => rw [h2, if_pos rfl] at h; omega
    | false =>
      rw [h2, if_neg (by decide)] at h
      by_cases h3 : finE [R] = 0
      · rw [if_neg (by omega)] at h
        have hr := finE_one h3
        cases h4 : lss R 0 with
        | true => rw [h4, if_pos rfl] at h; omega
        | false =>
          rw [h4, if_neg (by decide)] at h
          cases h5 : gtr R 1040187392 with
          | true => rw [h5, if_pos rfl] at h; omega
          | false =>
            rw [h5, if_neg (by decide)] at h
            rw [lss_V ht.fin Ieee.Format.const_0.1, Ieee.Format.const_0.2.1] at h2
            rw [lss_V hr Ieee.Format.const_0.1, Ieee.Format.const_0.2.1] at h4
            rw [gtr_V hr Ieee.Format.const_eighth.1, Ieee.Format.const_eighth.2.1] at h5
            have g2 := of_decide_eq_false h2
            have g4 := of_decide_eq_false h4
            have g5 := of_decide_eq_false h5
            refine ⟨⟨Ieee.Format.Ht.bd ht, by grind, hr, by grind, by grind⟩, ?_⟩
            by_cases h6 : n < 0
            · rw [if_pos h6] at h; omega
            · by_cases h7 : 64 < n
              · rw [if_neg h6, if_pos h7] at h; omega
              · omega
      · rw [if_pos h3] at h; omega
  · rw [if_pos h1] at h; omega
theorem moved_bd {k T R a b : Nat} (hw : WearOk T R) (ha : Bd k a) (hb : Bd k b) (hk : 20 ≤ k) (hk2 : k ≤ 80) :
    Bd (k + 1) (subF a b) ∧ Bd (k + 2) (subF (subF a b) T) ∧ fin Ieee.single (mulF (subF (subF a b) T) R) ∧ Bd k (movedF T R a b) := by
  have a1 := ha.sub hb (by omega)
  have a2 := a1.sub (hw.t.mono (show 20 ≤ k + 1 by omega)) (by omega)
  have p3 := Ieee.P2_pos (-3)
  have a3 : Bd (k - 1) (mulF (subF (subF a b) T) R) := Ieee.Format.Bd.less (j := 3) (by rw [show k - 1 + 3 = k + 2 by omega]; exact a2) hw.r ⟨by have := hw.r0; simp only [Int.cast_ofNat_Int]; grind, hw.r1⟩ (by omega)
  refine ⟨a1, a2, a3.1, ?_⟩
  unfold movedF
  split
  · exact a3.mono (by omega)
  · exact (Ieee.Format.Ht.bd (show Ht 0 by decide)).mono hk
theorem movedF_lt (T R a b : Nat) : movedF T R a b < 4294967296 := by
  unfold movedF; split
  · exact Ieee.Format.mulF_lt _ _
  · decide

theorem moved_any (k T R a b : Nat) (n : Int) (w : World) (hw : WearOk T R) (ha : Bd k a) (hb : Bd k b) (hk : 20 ≤ k) (hk2 : k ≤ 80) :
    Calls Try.prog 122 #[wearV T R n, .float .f32 a, .float .f32 b] w fun e w' => e = .returned (.float .f32 (movedF T R a b)) ∧ Below w.heap.size w w' := by
  obtain ⟨b1, b2, b3, b4⟩ := moved_bd hw ha hb hk hk2
  have k1 := fun w' => run_float_arith (P := Try.prog) w' .sub 29 .f32 a b (subF a b) (Ieee.Format.bits_sub ha.1 hb.1)
  have k2 := fun w' => run_float_arith (P := Try.prog) w' .sub 29 .f32 (subF a b) T (subF (subF a b) T) (Ieee.Format.bits_sub b1.1 hw.t.1)
  have k3 := fun w' => run_float_arith (P := Try.prog) w' .mul 29 .f32 (subF (subF a b) T) R (mulF (subF (subF a b) T) R) (Ieee.Format.bits_mul b2.1 hw.r)
  clear b1 b2 b3 b4 ha hb hw hk hk2
  unfold movedF
  generalize mulF (subF (subF a b) T) R = z3 at *
  generalize subF (subF a b) T = z2 at *
  generalize subF a b = z1 at *
  cases h : gtr z1 T with
  | true =>
    change (FloatKind.f32.format.order z1 T == some .gt) = true at h
    rw [if_pos rfl]
    go_enter Try.func122, Try.ntmps122
    go_wp2
    go_ret
    exact ⟨rfl, (by repeat (first | with_reducible exact Below.refl _ _ | with_reducible apply Below.drew | with_reducible refine below_drewN ?_ _ | (with_reducible refine Below.setCell ?_ ?_ _; rotate_left; focus (first | omega | (simp <;> omega))) | (with_reducible refine Below.alloc ?_ ?_ _; rotate_left; focus (first | omega | (simp <;> omega)))))⟩
  | false =>
    change (FloatKind.f32.format.order z1 T == some .gt) = false at h
    rw [if_neg (by decide)]
    go_enter Try.func122, Try.ntmps122
    go_wp2
    go_ret
    exact ⟨rfl, (by repeat (first | with_reducible exact Below.refl _ _ | with_reducible apply Below.drew | with_reducible refine below_drewN ?_ _ | (with_reducible refine Below.setCell ?_ ?_ _; rotate_left; focus (first | omega | (simp <;> omega))) | (with_reducible refine Below.alloc ?_ ?_ _; rotate_left; focus (first | omega | (simp <;> omega)))))⟩

/-- the cell's neighbours in the order in which they are taken -/
def pick4 (n w e s : Nat) : Nat → Nat
  | 0 => n
  | 1 => w
  | 2 => e
  | _ => s
def subT (T R v n w e s : Nat) : Nat → Nat
  | 0 => v
  | k + 1 => subF (subT T R v n w e s k) (movedF T R v (pick4 n w e s k))
def addT (T R v n w e s : Nat) : Nat → Nat
  | 0 => subT T R v n w e s 4
  | k + 1 => addF (addT T R v n w e s k) (movedF T R (pick4 n w e s k) v)
def thermalF (T R n s e w v : Nat) : Nat := addT T R v n w e s 4

theorem pick4_bd {K n w e s : Nat} (hn : Bd K n) (hw : Bd K w) (he : Bd K e) (hs : Bd K s) (k : Nat) : Bd K (pick4 n w e s k) := by
  match k with
  | 0 => exact hn
  | 1 => exact hw
  | 2 => exact he
  | _ + 3 => exact hs
theorem subT_bd {K T R v n w e s : Nat} (hW : WearOk T R) (hn : Bd K n) (hs : Bd K s) (he : Bd K e) (hw : Bd K w) (hv : Bd K v) (hk : 20 ≤ K) (hk2 : K ≤ 76) : ∀ k, k ≤ 4 → Bd (K + k) (subT T R v n w e s k)
  | 0, _ => hv
  | k + 1, h => by
    have a := subT_bd hW hn hs he hw hv hk hk2 k (by omega)
    have b := (moved_bd hW hv (pick4_bd hn hw he hs k) hk (by omega)).2.2.2
    exact a.sub (b.mono (by omega)) (by omega)
theorem addT_bd {K T R v n w e s : Nat} (hW : WearOk T R) (hn : Bd K n) (hs : Bd K s) (he : Bd K e) (hw : Bd K w) (hv : Bd K v) (hk : 20 ≤ K) (hk2 : K ≤ 76) : ∀ k, k ≤ 4 → Bd (K + 4 + k) (addT T R v n w e s k)
  | 0, _ => subT_bd hW hn hs he hw hv hk hk2 4 (by omega)
  | k + 1, h => by
    have a := addT_bd hW hn hs he hw hv hk hk2 k (by omega)
    have b := (moved_bd hW (pick4_bd hn hw he hs k) hv hk (by omega)).2.2.2
    exact a.add (b.mono (by omega)) (by omega)
theorem thermalF_lt (T R n s e w v : Nat) : thermalF T R n s e w v < 4294967296 := Ieee.Format.addF_lt _ _
end Go.Proofs.Ytkmcinibaffpmaa
