import Derived.Test.YtfmbekdfigbfiaaKWear
import Derived.Test.YtfmbekdfigbfiaaM7
import Derived.Test.YtfmbekdfigbfiaaJA
import Derived.BigQuiet
import Derived.Deep.QuietTactic
import Derived.WalkLawsBesides
namespace Go.Proofs.Ytfmbekdfigbfiaa
open Go.ChangeShapes Go.WideShapes Go.ChangeAt Go.RowKit
open Ieee.Format (fin finE htE allFin allHt all_true all_false mulF subF addF Ht Bd divF rootF floorF easeF mixF)
set_option linter.unusedVariables false

def movedF (T R a b : Nat) : Nat := if gtr (subF a b) T = true then mulF (subF (subF a b) T) R else 0
/-- a right wear -/
structure WearOk (T R : Nat) : Prop where
  t : Bd 20 T
  t0 : 0 ≤ Ieee.single.V T
  r : fin Ieee.single R
  r0 : 0 ≤ Ieee.single.V R
  r1 : Ieee.single.V R ≤ Ieee.P2 (-3)
theorem WearOk.of {T R : Nat} {n : Int} (h : wearE T R n = 0) : WearOk T R ∧ 0 ≤ n ∧ n ≤ 64 := by
  unfold wearE at h
  by_cases h1 : htE [T] = 0
  · rw [if_neg (by omega)] at h
    have ht := htE_one h1
    cases h2 : lss T 0 with
    | true => rw [h2, if_pos rfl] at h; omega
    | false =>
      rw [h2, if_neg (by decide)] at h
      by_cases h3 : finE [R] = 0
      · rw [if_neg (by omega)] at h
        have hr := finE_one h3
        cases h4 : lss R 0 with
        | true => rw [h4, if_pos rfl] at h; omega
        | false =>
          rw [h4, if_neg (by decide)] at h
          cases h5 : gtr R 1040187392 with
          | true => rw [h5, if_pos rfl] at h; omega
          | false =>
            rw [h5, if_neg (by decide)] at h
            rw [lss_V ht.fin Ieee.Format.const_0.1, Ieee.Format.const_0.2.1] at h2
            rw [lss_V hr Ieee.Format.const_0.1, Ieee.Format.const_0.2.1] at h4
            rw [gtr_V hr Ieee.Format.const_eighth.1, Ieee.Format.const_eighth.2.1] at h5
            have g2 := of_decide_eq_false h2
            have g4 := of_decide_eq_false h4
            have g5 := of_decide_eq_false h5
            refine ⟨⟨Ieee.Format.Ht.bd ht, by grind, hr, by grind, by grind⟩, ?_⟩
            by_cases h6 : n < 0
            · rw [if_pos h6] at h; omega
            · by_cases h7 : 64 < n
              · rw [if_neg h6, if_pos h7] at h; omega
              · omega
      · rw [if_pos h3] at h; omega
  · rw [if_pos h1] at h; omega
theorem moved_bd {k T R a b : Nat} (hw : WearOk T R) (ha : Bd k a) (hb : Bd k b) (hk : 20 ≤ k) (hk2 : k ≤ 80) :
    Bd (k + 1) (subF a b) ∧ Bd (k + 2) (subF (subF a b) T) ∧ fin Ieee.single (mulF (subF (subF a b) T) R) ∧ Bd k (movedF T R a b) := by
  have a1 := ha.sub hb (by omega)
  have a2 := a1.sub (hw.t.mono (show 20 ≤ k + 1 by omega)) (by omega)
  have p3 := Ieee.P2_pos (-3)
  have a3 : Bd (k - 1) (mulF (subF (subF a b) T) R) := Ieee.Format.Bd.less (j := 3) (by rw [show k - 1 + 3 = k + 2 by omega]; exact a2) hw.r ⟨by have := hw.r0; simp only [Int.cast_ofNat_Int]; grind, hw.r1⟩ (by omega)
  refine ⟨a1, a2, a3.1, ?_⟩
  unfold movedF
  split
  · exact a3.mono (by omega)
  · exact (Ieee.Format.Ht.bd (show Ht 0 by decide)).mono hk
theorem movedF_lt (T R a b : Nat) : movedF T R a b < 4294967296 := by
  unfold movedF; split
  · exact Ieee.Format.mulF_lt _ _
  · decide

theorem moved_any (k T R a b : Nat) (n : Int) (w : World) (hw : WearOk T R) (ha : Bd k a) (hb : Bd k b) (hk : 20 ≤ k) (hk2 : k ≤ 80) :
    Calls Try.prog 67 #[wearV T R n, .float .f32 a, .float .f32 b] w fun e w' => e = .returned (.float .f32 (movedF T R a b)) ∧ Below w.heap.size w w' := by
  obtain ⟨b1, b2, b3, b4⟩ := moved_bd hw ha hb hk hk2
  have k1 := fun w' => run_float_arith (P := Try.prog) w' .sub 27 .f32 a b (subF a b) (Ieee.Format.bits_sub ha.1 hb.1)
  have k2 := fun w' => run_float_arith (P := Try.prog) w' .sub 27 .f32 (subF a b) T (subF (subF a b) T) (Ieee.Format.bits_sub b1.1 hw.t.1)
  have k3 := fun w' => run_float_arith (P := Try.prog) w' .mul 27 .f32 (subF (subF a b) T) R (mulF (subF (subF a b) T) R) (Ieee.Format.bits_mul b2.1 hw.r)
  clear b1 b2 b3 b4 ha hb hw hk hk2
  unfold movedF
  generalize mulF (subF (subF a b) T) R = z3 at *
  generalize subF (subF a b) T = z2 at *
  generalize subF a b = z1 at *
  cases h : gtr z1 T with
  | true =>
    change (FloatKind.f32.format.order z1 T == some .gt) = true at h
    rw [if_pos rfl]
    go_enter Try.func67, Try.ntmps67
    go_wp2
    go_ret
    exact ⟨rfl, (by repeat (first | with_reducible exact Below.refl _ _ | with_reducible apply Below.drew | with_reducible refine below_drewN ?_ _ | (with_reducible refine Below.setCell ?_ ?_ _; rotate_left; focus (first | omega | (simp <;> omega))) | (with_reducible refine Below.alloc ?_ ?_ _; rotate_left; focus (first | omega | (simp <;> omega)))))⟩
  | false =>
    change (FloatKind.f32.format.order z1 T == some .gt) = false at h
    rw [if_neg (by decide)]
    go_enter Try.func67, Try.ntmps67
    go_wp2
    go_ret
    exact ⟨rfl, (by repeat (first | with_reducible exact Below.refl _ _ | with_reducible apply Below.drew | with_reducible refine below_drewN ?_ _ | (with_reducible refine Below.setCell ?_ ?_ _; rotate_left; focus (first | omega | (simp <;> omega))) | (with_reducible refine Below.alloc ?_ ?_ _; rotate_left; focus (first | omega | (simp <;> omega)))))⟩

/-- the cell's neighbours in the order in which they are taken -/
def pick4 (n w e s : Nat) : Nat → Nat
  | 0 => n
  | 1 => w
  | 2 => e
  | _ => s
def subT (T R v n w e s : Nat) : Nat → Nat
  | 0 => v
  | k + 1 => subF (subT T R v n w e s k) (movedF T R v (pick4 n w e s k))
def addT (T R v n w e s : Nat) : Nat → Nat
  | 0 => subT T R v n w e s 4
  | k + 1 => addF (addT T R v n w e s k) (movedF T R (pick4 n w e s k) v)
def thermalF (T R n s e w v : Nat) : Nat := addT T R v n w e s 4

theorem pick4_bd {K n w e s : Nat} (hn : Bd K n) (hw : Bd K w) (he : Bd K e) (hs : Bd K s) (k : Nat) : Bd K (pick4 n w e s k) := by
  match k with
  | 0 => exact hn
  | 1 => exact hw
  | 2 => exact he
  | _ + 3 => exact hs
theorem subT_bd {K T R v n w e s : Nat} (hW : WearOk T R) (hn : Bd K n) (hs : Bd K s) (he : Bd K e) (hw : Bd K w) (hv : Bd K v) (hk : 20 ≤ K) (hk2 : K ≤ 76) : ∀ k, k ≤ 4 → Bd (K + k) (subT T R v n w e s k)
  | 0, _ => hv
  | k + 1, h => by
    have a := subT_bd hW hn hs he hw hv hk hk2 k (by omega)
    have b := (moved_bd hW hv (pick4_bd hn hw he hs k) hk (by omega)).2.2.2
    exact a.sub (b.mono (by omega)) (by omega)
theorem addT_bd {K T R v n w e s : Nat} (hW : WearOk T R) (hn : Bd K n) (hs : Bd K s) (he : Bd K e) (hw : Bd K w) (hv : Bd K v) (hk : 20 ≤ K) (hk2 : K ≤ 76) : ∀ k, k ≤ 4 → Bd (K + 4 + k) (addT T R v n w e s k)
  | 0, _ => subT_bd hW hn hs he hw hv hk hk2 4 (by omega)
  | k + 1, h => by
    have a := addT_bd hW hn hs he hw hv hk hk2 k (by omega)
    have b := (moved_bd hW (pick4_bd hn hw he hs k) hv hk (by omega)).2.2.2
    exact a.add (b.mono (by omega)) (by omega)
theorem thermalF_lt (T R n s e w v : Nat) : thermalF T R n s e w v < 4294967296 := Ieee.Format.addF_lt _ _
end Go.Proofs.Ytfmbekdfigbfiaa

namespace Go.Proofs.Ytfmbekdfigbfiaa
open Go.ChangeShapes Go.WideShapes Go.ChangeAt Go.RowKit
open Ieee.Format (fin finE htE allFin allHt all_true all_false mulF subF addF Ht Bd divF rootF floorF easeF mixF)
set_option linter.unusedVariables false

/-- a block that is known whole -/
def Blk (w : World) (k : Nat) (cs : Array Value) (t : TypeId) : Prop := w.heap[k]? = some (.cells cs t (0, 0))
theorem Blk.lt {w : World} {k : Nat} {cs : Array Value} {t : TypeId} (h : Blk w k cs t) : k < w.heap.size := by
  rcases Nat.lt_or_ge k w.heap.size with hlt | hge
  · exact hlt
  · unfold Blk at h; rw [Array.getElem?_eq_none hge] at h; cases h
theorem Blk.cell {w : World} {k : Nat} {cs : Array Value} {t : TypeId} (h : Blk w k cs t) (i : Nat) : w.cell? ⟨k, i, none⟩ = cs[i]? := cell_of_row w k i _ _ _ h
theorem Blk.frozen {w : World} {k : Nat} {cs : Array Value} {t : TypeId} (h : Blk w k cs t) (i : Nat) : w.frozen? ⟨k, i, none⟩ = false := frozen_of_row w k i _ _ h
theorem Blk.below {w w' : World} {B k : Nat} {cs : Array Value} {t : TypeId} (h : Blk w k cs t) (hb : Below B w w') (hk : k < B) : Blk w' k cs t := (hb.block k hk).trans h
theorem Blk.new (w : World) (cs : Array Value) (t : TypeId) : Blk (w.alloc (.cells cs t)) w.heap.size cs t := heap_alloc_new w _
theorem Blk.alloc {w : World} {k : Nat} {cs : Array Value} {t : TypeId} (h : Blk w k cs t) (o : Obj) : Blk (w.alloc o) k cs t := (Below.heap_alloc w o k h.lt).trans h
theorem Blk.drew {w : World} {k : Nat} {cs : Array Value} {t : TypeId} (h : Blk w k cs t) : Blk w.drew k cs t := h
theorem Blk.drewN {w : World} {k : Nat} {cs : Array Value} {t : TypeId} (h : Blk w k cs t) (n : Nat) : Blk (w.drewN n) k cs t := h
theorem Blk.setCell {w : World} {k : Nat} {cs : Array Value} {t : TypeId} (h : Blk w k cs t) {p : Addr} (hp : k ≠ p.block) (u : Value) : Blk (w.setCell p u) k cs t := (Below.heap_setCell w p u k hp).trans h

/-- the wear's cells -/
abbrev WearAt (w : World) (p : Nat) (T R : Nat) (n : Int) : Prop := Blk w p #[.float .f32 T, .float .f32 R, .int .i64 n] 45
theorem WearAt.cells {w : World} {p T R : Nat} {n : Int} (h : WearAt w p T R n) : w.cell? ⟨p, 0, none⟩ = some (.float .f32 T) ∧ w.cell? ⟨p, 1, none⟩ = some (.float .f32 R) ∧ w.cell? ⟨p, 2, none⟩ = some (.int .i64 n) := ⟨h.cell 0, h.cell 1, h.cell 2⟩

theorem ret_f {x y : Nat} (h : x = y) : Ending.returned (.float .f32 x) = .returned (.float .f32 y) := by rw [h]

set_option maxRecDepth 100000 in
set_option maxHeartbeats 2000000 in
/-- the program's cell of Thermal -/
theorem thermfn_any (K T R n s e w v p : Nat) (st : Int) (W : World) (hW : WearOk T R) (hn : Bd K n) (hs : Bd K s) (he : Bd K e) (hw : Bd K w) (hv : Bd K v) (hk : 20 ≤ K) (hk2 : K ≤ 76) (hp : WearAt W p T R st) :
    Calls Try.prog 66 #[.agg #[.float .f32 n, .float .f32 s, .float .f32 e, .float .f32 w, .float .f32 v], .pointer (some ⟨p, 0, none⟩)] W fun en w' => en = .returned (.float .f32 (thermalF T R n s e w v)) ∧ Below W.heap.size W w' := by
  have KM1 := Lib.hid (fun k w' => moved_any K T R v (pick4 n w e s k) st w' hW hv (pick4_bd hn hw he hs k) hk (by omega))
  have KM2 := Lib.hid (fun k w' => moved_any K T R (pick4 n w e s k) v st w' hW (pick4_bd hn hw he hs k) hv hk (by omega))
  have KA1 := Lib.hid (fun k (h : k < 4) w' => run_float_arith (P := Try.prog) w' .sub 27 .f32 (subT T R v n w e s k) (movedF T R v (pick4 n w e s k)) (subT T R v n w e s (k + 1)) (Ieee.Format.bits_sub (subT_bd hW hn hs he hw hv hk hk2 k (by omega)).1 (moved_bd hW hv (pick4_bd hn hw he hs k) hk (by omega)).2.2.2.1))
  have KA2 := Lib.hid (fun k (h : k < 4) w' => run_float_arith (P := Try.prog) w' .add 27 .f32 (addT T R v n w e s k) (movedF T R (pick4 n w e s k) v) (addT T R v n w e s (k + 1)) (Ieee.Format.bits_add (addT_bd hW hn hs he hw hv hk hk2 k (by omega)).1 (moved_bd hW (pick4_bd hn hw he hs k) hv hk (by omega)).2.2.2.1))
  have HP := Lib.hid (hp.alloc (.cells #[.float .f32 n, .float .f32 s, .float .f32 e, .float .f32 w, .float .f32 v] 123))
  have B0 : Below W.heap.size W (W.alloc (.cells #[.float .f32 n, .float .f32 s, .float .f32 e, .float .f32 w, .float .f32 v] 123)) := (by repeat (first | with_reducible exact Below.refl _ _ | with_reducible apply Below.drew | with_reducible refine below_drewN ?_ _ | (with_reducible refine Below.setCell ?_ ?_ _; rotate_left; focus (first | omega | (simp <;> omega))) | (with_reducible refine Below.alloc ?_ ?_ _; rotate_left; focus (first | omega | (simp <;> omega)))))
  have HB0 := Lib.hid B0
  have hNb := Blk.new W #[.float .f32 n, .float .f32 s, .float .f32 e, .float .f32 w, .float .f32 v] 123
  have HN := Lib.hid hNb
  have HZ : Hid (thermalF T R n s e w v = addT T R v n w e s 4) := rfl
  have HS4 : Hid (addT T R v n w e s 0 = subT T R v n w e s 4) := rfl
  have HS0 : Hid (subT T R v n w e s 0 = v) := rfl
  generalize thermalF T R n s e w v = z at *
  have idx0 : ∀ w', (Instr.index 124 (.agg #[.float .f32 n, .float .f32 w, .float .f32 e, .float .f32 s]) (.int .i64 0)).run Try.prog w' = .ok (.float .f32 n) w' := fun _ => by kernel_rfl
  have idx1 : ∀ w', (Instr.index 124 (.agg #[.float .f32 n, .float .f32 w, .float .f32 e, .float .f32 s]) (.int .i64 1)).run Try.prog w' = .ok (.float .f32 w) w' := fun _ => by kernel_rfl
  have idx2 : ∀ w', (Instr.index 124 (.agg #[.float .f32 n, .float .f32 w, .float .f32 e, .float .f32 s]) (.int .i64 2)).run Try.prog w' = .ok (.float .f32 e) w' := fun _ => by kernel_rfl
  have idx3 : ∀ w', (Instr.index 124 (.agg #[.float .f32 n, .float .f32 w, .float .f32 e, .float .f32 s]) (.int .i64 3)).run Try.prog w' = .ok (.float .f32 s) w' := fun _ => by kernel_rfl
  clear hn hs he hw hv hW hp B0 hNb
  go_enter Try.func66, Try.ntmps66
  go_wp2_with fail
  have HQ : Hid (subT T R v n w e s 0 = v) := rfl
  generalize W.alloc (.cells #[.float .f32 n, .float .f32 s, .float .f32 e, .float .f32 w, .float .f32 v] 123) = W0 at *
  go_loopw [4, 20] (fun acc i wr => ∃ k : Nat, k ≤ 4 ∧ i = .int .i64 k ∧ acc = .float .f32 (subT T R v n w e s k) ∧ Below W.heap.size W wr ∧ WearAt wr p T R st ∧ Blk wr W.heap.size #[.float .f32 n, .float .f32 s, .float .f32 e, .float .f32 w, .float .f32 v] 123) (fun _ i _ => 4 - (intOf i).toNat)
  case atStart => exact ⟨0, by omega, rfl, by rw [HQ.out], HB0.out, HP.out, HN.out⟩
  case round =>
    clear HP HN HB0
    obtain ⟨k, hk4, rfl, rfl, hB, hP, hN⟩ := hrel
    obtain ⟨p0, p1, p2⟩ := hP.cells
    obtain ⟨n0, n1, n2, n3, n4⟩ := Nb5.cells hN
    have HB := Lib.hid hB
    have HP := Lib.hid hP
    have HN := Lib.hid hN
    clear hB hP hN
    by_cases hlt : k < 4
    · have KM := Lib.hid (KM1.out k)
      have KA := KA1.out k hlt
      have hidx : ∀ w', (Instr.index 124 (.agg #[.float .f32 n, .float .f32 w, .float .f32 e, .float .f32 s]) (.int .i64 (k : Int))).run Try.prog w' = .ok (.float .f32 (pick4 n w e s k)) w' := by
        match k, hlt with
        | 0, _ => exact idx0
        | 1, _ => exact idx1
        | 2, _ => exact idx2
        | 3, _ => exact idx3
      generalize pick4 n w e s k = o at *
      go_wp2_with fail
      refine (KM.out _).mono ?_
      rintro en w2 ⟨rfl, b2⟩
      have P2 := HP.out.below b2 HP.out.lt
      have N2 := HN.out.below b2 HN.out.lt
      have B2 := HB.out.trans (b2.mono HB.out.size)
      have HP2 := Lib.hid P2
      have HN2 := Lib.hid N2
      have HB2 := Lib.hid B2
      clear P2 N2 B2 b2
      go_wp2_with fail
      go_roundw
      case rel => exact ⟨k + 1, by omega, by go_num, rfl, HB2.out, HP2.out, HN2.out⟩
      case measure => simp [intOf]; omega
    · obtain rfl : k = 4 := by omega
      clear KM1 KA1
      generalize hq4 : subT T R v n w e s 4 = q4 at *
      have HQ4 := Lib.hid hq4
      clear hq4 hlt hk4
      go_wp2_with fail
      go_loopw [4, 40] (fun acc i wr => ∃ k : Nat, k ≤ 4 ∧ i = .int .i64 k ∧ acc = .float .f32 (addT T R v n w e s k) ∧ Below W.heap.size W wr ∧ WearAt wr p T R st ∧ Blk wr W.heap.size #[.float .f32 n, .float .f32 s, .float .f32 e, .float .f32 w, .float .f32 v] 123) (fun _ i _ => 4 - (intOf i).toNat)
      case atStart => exact ⟨0, by omega, rfl, by rw [HS4.out], HB.out, HP.out, HN.out⟩
      case round =>
        clear HP HN HB p0 p1 p2 n0 n1 n2 n3 n4
        obtain ⟨k, hk4, rfl, rfl, hB, hP, hN⟩ := hrel
        obtain ⟨p0, p1, p2⟩ := hP.cells
        obtain ⟨n0, n1, n2, n3, n4⟩ := Nb5.cells hN
        have HB := Lib.hid hB
        have HP := Lib.hid hP
        have HN := Lib.hid hN
        clear hB hP hN
        by_cases hlt : k < 4
        · have KM := Lib.hid (KM2.out k)
          have KA := KA2.out k hlt
          have hidx : ∀ w', (Instr.index 124 (.agg #[.float .f32 n, .float .f32 w, .float .f32 e, .float .f32 s]) (.int .i64 (k : Int))).run Try.prog w' = .ok (.float .f32 (pick4 n w e s k)) w' := by
            match k, hlt with
            | 0, _ => exact idx0
            | 1, _ => exact idx1
            | 2, _ => exact idx2
            | 3, _ => exact idx3
          generalize pick4 n w e s k = o at *
          go_wp2_with fail
          refine (KM.out _).mono ?_
          rintro en w2 ⟨rfl, b2⟩
          have P2 := HP.out.below b2 HP.out.lt
          have N2 := HN.out.below b2 HN.out.lt
          have B2 := HB.out.trans (b2.mono HB.out.size)
          have HP2 := Lib.hid P2
          have HN2 := Lib.hid N2
          have HB2 := Lib.hid B2
          clear P2 N2 B2 b2
          go_wp2_with fail
          go_roundw
          case rel => first | exact ⟨k + 1, by omega, by go_num, rfl, HB2.out, HP2.out, HN2.out⟩ | ((repeat apply Exists.intro); exact ⟨⟨k + 1, by omega, by go_num, rfl, HB2.out, HP2.out, HN2.out⟩, rfl⟩)
          case measure => simp [intOf]; omega
        · obtain rfl : k = 4 := by omega
          go_wp2_with fail
          go_ret
          exact ⟨ret_f HZ.out.symm, HB.out⟩

/-- a list of four -/
def row4 (n w e s : Nat) : List Nat := [n, w, e, s]
theorem row4_at (W : World) (g n w e s : Nat) (t : TypeId) (h : Blk W g #[.float .f32 n, .float .f32 w, .float .f32 e, .float .f32 s] t) (k : Nat) (hk : k < 4) : W.cell? ⟨g, k, none⟩ = some (.float .f32 (pick4 n w e s k)) := by
  rw [h.cell k]
  match k, hk with
  | 0, _ => rfl
  | 1, _ => rfl
  | 2, _ => rfl
  | 3, _ => rfl

end Go.Proofs.Ytfmbekdfigbfiaa

namespace Go.Proofs.Ytfmbekdfigbfiaa
open Go.ChangeShapes Go.WideShapes Go.ChangeAt Go.RowKit
open Ieee.Format (fin finE htE allFin allHt all_true all_false mulF subF addF Ht Bd divF rootF floorF easeF mixF)
set_option linter.unusedVariables false
open Ieee.Format (addF_lt)

/-- three boxes: a field, something, an empty field -/
theorem box_fbz (w : World) (X Y W H : Int) (v : Value) (cs : Array Value) (t : TypeId) : ∀ W0, W0 = ((w.alloc (.cells #[.int .i64 X, .int .i64 Y, .int .i64 W, .int .i64 H, v] 26)).alloc (.cells cs t)).alloc (.cells #[.int .i64 0, .int .i64 0, .int .i64 0, .int .i64 0, .slice none 0 0] 26) →
    Fld W0 w.heap.size X Y W H v ∧ Blk W0 (w.heap.size + 1) cs t ∧ Fld W0 (w.heap.size + 1 + 1) 0 0 0 0 (.slice none 0 0) ∧ Below w.heap.size w W0 ∧ W0.heap.size = w.heap.size + 3 := by
  rintro _ rfl
  refine ⟨((Fld.new w X Y W H v).alloc _).alloc _, ?_, ?_, (by repeat (first | with_reducible exact Below.refl _ _ | with_reducible apply Below.drew | with_reducible refine below_drewN ?_ _ | (with_reducible refine Below.setCell ?_ ?_ _; rotate_left; focus (first | omega | (simp <;> omega))) | (with_reducible refine Below.alloc ?_ ?_ _; rotate_left; focus (first | omega | (simp <;> omega))))), by simp⟩
  · have := (Blk.new (w.alloc (.cells #[.int .i64 X, .int .i64 Y, .int .i64 W, .int .i64 H, v] 26)) cs t).alloc (.cells #[.int .i64 0, .int .i64 0, .int .i64 0, .int .i64 0, .slice none 0 0] 26)
    simpa using this
  · have := Fld.new ((w.alloc (.cells #[.int .i64 X, .int .i64 Y, .int .i64 W, .int .i64 H, v] 26)).alloc (.cells cs t)) 0 0 0 0 (.slice none 0 0)
    simpa using this

theorem OutV.base {c X Y W H : Int} {m : List Nat} {w : World} {B B' : Nat} {x y p q : Int} {a : Option Addr} {n k : Nat} (h : OutV c X Y W H m w B x y p q a n k) (hb : B' ≤ B) : OutV c X Y W H m w B' x y p q a n k := by
  rcases h with h | ⟨h0, h1, h2, h3, h4, g, h5, h6, h7⟩
  · exact .inl h
  · exact .inr ⟨h0, h1, h2, h3, h4, g, h5, h6, h7.base hb⟩

def ThP (i x : Nat) : Prop := Bd (20 + 8 * i) x ∧ x < 4294967296
theorem ThP.zero (i : Nat) : ThP i 0 := ⟨(Ieee.Format.Ht.bd (show Ht 0 by decide)).mono (by omega), by decide⟩
theorem ThP.next {T R i n s e w v : Nat} (hW : WearOk T R) (hi : i ≤ 7) (hn : ThP i n) (hs : ThP i s) (he : ThP i e) (hw : ThP i w) (hv : ThP i v) : ThP (i + 1) (thermalF T R n s e w v) :=
  ⟨(addT_bd hW hn.1 hs.1 he.1 hw.1 hv.1 (by omega) (by omega) 4 (by omega)).mono (by omega), addF_lt _ _⟩
theorem ThP.all {X Y : Int} {Wn Hn : Nat} {l : List Nat} (hr : Right X Y Wn Hn l) (h : ∀ x ∈ l, x < 4294967296) : ∀ x ∈ l, ThP 0 x := fun x hx => ⟨(hr.ht x hx).bd, h x hx⟩

def thermC (T R : Nat) (X Y : Int) (Wn Hn : Nat) (l : List Nat) (N : Nat) : Int :=
  if Wn < 1 + 2 * N ∨ Hn < 1 + 2 * N then 10 else if allHt (stepsL (thermalF T R) X Y Wn Hn l N) = true then 0 else 3

theorem therm_steps (T R p : Nat) (st : Int) (X Y : Int) (Wn Hn : Nat) (b o c N : Nat) (l : List Nat) (w : World) (hl : SRow w (some ⟨b, o, none⟩) l) (hr : Right X Y Wn Hn l) (hw : Wn ≤ 16) (hN : N ≤ 64) (hW : WearOk T R) (hp : WearAt w p T R st) :
    Calls Try.prog 65 #[fldV X Y Wn Hn (some ⟨b, o, none⟩) l.length c, .int .i64 N, .func (.func 66) #[] #[.pointer (some ⟨p, 0, none⟩)]] w fun e w' => OpP (thermC T R X Y Wn Hn l N) (X + N) (Y + N) (Wn - 2 * N : Nat) (Hn - 2 * N : Nat) (stepsL (thermalF T R) X Y Wn Hn l N) w e w' := by
  have := hr.w1; have := hr.w2; have := hr.h1; have := hr.h2; have := hr.x1; have := hr.x2; have := hr.y1; have := hr.y2
  unfold thermC
  by_cases h : Wn < 1 + 2 * N ∨ Hn < 1 + 2 * N
  · rw [if_pos h]
    exact (steps_no N X Y Wn Hn _ _ c w (by omega) (by omega) (by omega) (by omega) hN (by omega) (by omega) (by omega) (by omega) h _ _).mono fun e w' ⟨h1, h2⟩ => OpP.err (by decide) h1 h2
  · rw [if_neg h]
    refine (steps_yes 66 #[.pointer (some ⟨p, 0, none⟩)] (thermalF T R) ThP N X Y Wn Hn b o c l w hl hr.len (by omega) (by omega) (by omega) (by omega) hN (by omega) (by omega) (by omega) (by omega) (enters_of Try.func66 (by kernel_rfl) rfl) ThP.zero (ThP.all hr hl.1.2) (fun i hi n s e w v => ThP.next hW (by omega)) (fun i x h => h.2) ?_).mono fun e w' h => h.op
    intro i hi n s e wv v hn hs he hw' hv W' hb
    exact thermfn_any (20 + 8 * i) T R n s e wv v p st W' hW hn.1 hs.1 he.1 hw'.1 hv.1 (by omega) (by omega) (hp.below hb hp.lt)

/-- shape.Thermal at a right field: a bad wear -/
theorem therm_bad (T R : Nat) (X Y : Int) (Wn Hn : Nat) (b o c : Nat) (n : Int) (l : List Nat) (w : World) (hl : SRow w (some ⟨b, o, none⟩) l) (hr : Right X Y Wn Hn l) (hT : T < 4294967296) (hR : R < 4294967296) (h : wearE T R n ≠ 0) :
    Calls Try.prog 16 #[fldV X Y Wn Hn (some ⟨b, o, none⟩) l.length c, wearV T R n] w fun e w' => e = .returned (.tuple #[fldV 0 0 0 0 none 0 0, .int .i64 (wearE T R n)]) ∧ Below w.heap.size w w' := by
  have K := Lib.hid (fun w h => check_field X Y Wn Hn (some ⟨b, o, none⟩) c l w h)
  rw [hr.chk] at K
  have HL := Lib.hid hl
  have KW := Lib.hid (fun w => check_wear T R n w hT hR)
  clear hl hr hT hR
  generalize wearE T R n = q at *
  have hb : (q != 0) = true := by rw [bne_iff_ne]; exact h
  clear h
  go_enter Try.func16, Try.ntmps16
  go_wp2_with fail
  generalize hW0 : ((w.alloc (.cells #[.int .i64 X, .int .i64 Y, .int .i64 Wn, .int .i64 Hn, .slice (some ⟨b, o, none⟩) l.length c] 26)).alloc (.cells #[.float .f32 T, .float .f32 R, .int .i64 n] 45)).alloc (.cells #[.int .i64 0, .int .i64 0, .int .i64 0, .int .i64 0, .slice none 0 0] 26) = W0 at *
  obtain ⟨E0, G0, F0, B0, z0⟩ := box_fbz w X Y Wn Hn (.slice (some ⟨b, o, none⟩) l.length c) #[.float .f32 T, .float .f32 R, .int .i64 n] 45 W0 hW0.symm
  clear hW0
  refine (K.out _ (HL.out.below B0)).mono ?_
  rintro e w1 ⟨rfl, b1⟩
  have E1 := E0.below b1 E0.lt
  have G1 := G0.below b1 G0.lt
  have F1 := F0.below b1 F0.lt
  have HL1 := Lib.hid ((HL.out.below B0).below b1)
  have B1 := Lib.hid (B0.trans (b1.mono B0.size))
  clear b1 B0 F0 E0 z0 K HL G0
  obtain ⟨d0, d1, d2⟩ := WearAt.cells G1
  have l1 := F1.lt
  have HF1 := Lib.hid F1
  have HE1 := Lib.hid E1
  have HG1 := Lib.hid G1
  clear F1 E1 G1
  go_wp2_with fail
  refine (KW.out _).mono ?_
  rintro e w2 ⟨rfl, b2⟩
  have E2 := HE1.out.below b2 HE1.out.lt
  have G2 := HG1.out.below b2 HG1.out.lt
  have F2 := HF1.out.below b2 HF1.out.lt
  have HL2 := Lib.hid (HL1.out.below b2)
  have B2 := Lib.hid (B1.out.trans (b2.mono B1.out.size))
  clear b2 B1 HL1 HF1 HE1 HG1 d0 d1 d2 l1 KW
  have l2 := F2.lt
  obtain ⟨d0, d1, d2, d3, d4⟩ := F2.cells
  have qf0 := F2.frozen 0
  have qf1 := F2.frozen 1
  have qf2 := F2.frozen 2
  have qf3 := F2.frozen 3
  have qf4 := F2.frozen 4
  clear F2 E2 G2 HL2
  go_wp2_with fail
  have B3 := B2.out
  exact bodyPost_ret (v := .tuple #[fldV 0 0 0 0 none 0 0, .int .i64 q]) (by simp [results, Try.results16, go_sem, *]) rfl ⟨rfl, (by have hszz := B3.size; repeat (first | with_reducible exact B3 | with_reducible apply Below.drew | with_reducible refine below_drewN ?_ _ | (with_reducible refine Below.setCell ?_ ?_ _; rotate_left; focus (first | omega | (simp <;> omega))) | (with_reducible refine Below.alloc ?_ ?_ _; rotate_left; focus (first | omega | (simp <;> omega)))))⟩

set_option maxRecDepth 100000 in
/-- shape.Thermal at a right field -/
theorem therm_ok (T R : Nat) (X Y : Int) (Wn Hn : Nat) (b o c N : Nat) (l : List Nat) (w : World) (hl : SRow w (some ⟨b, o, none⟩) l) (hr : Right X Y Wn Hn l) (hw : Wn ≤ 16) (hN : N ≤ 64) (hT : T < 4294967296) (hR : R < 4294967296) (h : wearE T R N = 0) (hW : WearOk T R) :
    Calls Try.prog 16 #[fldV X Y Wn Hn (some ⟨b, o, none⟩) l.length c, wearV T R N] w fun e w' => OpP (thermC T R X Y Wn Hn l N) (X + N) (Y + N) (Wn - 2 * N : Nat) (Hn - 2 * N : Nat) (stepsL (thermalF T R) X Y Wn Hn l N) w e w' := by
  have K := Lib.hid (fun w h => check_field X Y Wn Hn (some ⟨b, o, none⟩) c l w h)
  rw [hr.chk] at K
  have HL := Lib.hid hl
  have KW := Lib.hid (fun w => check_wear T R N w hT hR)
  rw [h] at KW
  have KS := Lib.hid (fun p w' hl hp => therm_steps T R p N X Y Wn Hn b o c N l w' hl hr hw hN hW hp)
  clear hl hr hw hT hR h hW
  generalize hcc : thermC T R X Y Wn Hn l N = C at *
  generalize hss : stepsL (thermalF T R) X Y Wn Hn l N = S at *
  clear hcc hss
  generalize hnn : (N : Int) = n at *
  clear hnn
  go_enter Try.func16, Try.ntmps16
  go_wp2_with fail
  generalize hW0 : ((w.alloc (.cells #[.int .i64 X, .int .i64 Y, .int .i64 Wn, .int .i64 Hn, .slice (some ⟨b, o, none⟩) l.length c] 26)).alloc (.cells #[.float .f32 T, .float .f32 R, .int .i64 n] 45)).alloc (.cells #[.int .i64 0, .int .i64 0, .int .i64 0, .int .i64 0, .slice none 0 0] 26) = W0 at *
  obtain ⟨E0, G0, F0, B0, z0⟩ := box_fbz w X Y Wn Hn (.slice (some ⟨b, o, none⟩) l.length c) #[.float .f32 T, .float .f32 R, .int .i64 n] 45 W0 hW0.symm
  clear hW0
  refine (K.out _ (HL.out.below B0)).mono ?_
  rintro e w1 ⟨rfl, b1⟩
  have E1 := E0.below b1 E0.lt
  have G1 := G0.below b1 G0.lt
  have F1 := F0.below b1 F0.lt
  have HL1 := Lib.hid ((HL.out.below B0).below b1)
  have B1 := Lib.hid (B0.trans (b1.mono B0.size))
  clear b1 B0 F0 E0 z0 K HL G0
  obtain ⟨d0, d1, d2⟩ := WearAt.cells G1
  have l1 := F1.lt
  have HF1 := Lib.hid F1
  have HE1 := Lib.hid E1
  have HG1 := Lib.hid G1
  clear F1 E1 G1
  go_wp2_with fail
  refine (KW.out _).mono ?_
  rintro e w2 ⟨rfl, b2⟩
  have E2 := HE1.out.below b2 HE1.out.lt
  have G2 := HG1.out.below b2 HG1.out.lt
  have F2 := HF1.out.below b2 HF1.out.lt
  have HL2 := Lib.hid (HL1.out.below b2)
  have B2 := Lib.hid (B1.out.trans (b2.mono B1.out.size))
  clear b2 B1 HL1 HF1 HE1 HG1 d0 d1 d2 l1 KW
  have l2 := F2.lt
  obtain ⟨c0, c1, c2, c3, c4⟩ := E2.cells
  obtain ⟨d0, d1, d2⟩ := WearAt.cells G2
  have HF2 := Lib.hid F2
  have HG2 := Lib.hid G2
  clear F2 E2 G2
  go_wp2_with fail
  refine (KS.out _ _ HL2.out HG2.out).mono ?_
  rintro e w3 ⟨⟨x, y, p, q, a, m, k, rfl, o3⟩, b3⟩
  have F3 := HF2.out.below b3 HF2.out.lt
  have l3 := F3.lt
  have HB3 := Lib.hid (B2.out.trans (b3.mono B2.out.size))
  have hz : w.heap.size + 1 + 1 < w2.heap.size := HF2.out.lt
  have HO3 := Lib.hid o3
  have HF3 := Lib.hid F3
  clear b3 o3 KS HF2 c0 c1 c2 c3 c4 d0 d1 d2 HG2
  obtain ⟨d0, d1, d2, d3, d4⟩ := F3.cells
  have qf0 := F3.frozen 0
  have qf1 := F3.frozen 1
  have qf2 := F3.frozen 2
  have qf3 := F3.frozen 3
  have qf4 := F3.frozen 4
  clear F3
  go_wp2_with fail
  generalize hW5 : ((((w3.setCell ⟨w.heap.size + 1 + 1, 0, none⟩ (.int .i64 x)).setCell ⟨w.heap.size + 1 + 1, 1, none⟩ (.int .i64 y)).setCell ⟨w.heap.size + 1 + 1, 2, none⟩ (.int .i64 p)).setCell ⟨w.heap.size + 1 + 1, 3, none⟩ (.int .i64 q)).setCell ⟨w.heap.size + 1 + 1, 4, none⟩ (.slice a m k) = W5 at *
  obtain ⟨f5, bb5, oo5, _, z5⟩ := fld_store w3 (w.heap.size + 1 + 1) 0 0 0 0 _ x y p q (.slice a m k) HF3.out W5 hW5.symm
  have hO5 := (HO3.out.set oo5 hz).base (show w.heap.size ≤ w2.heap.size by omega)
  have hB5 := HB3.out.trans (bb5.mono (by omega))
  clear d0 d1 d2 d3 d4 qf0 qf1 qf2 qf3 qf4 hW5 oo5 HO3 HB3 HF3
  obtain ⟨d0, d1, d2, d3, d4⟩ := f5.cells
  exact bodyPost_ret (v := .tuple #[fldV x y p q a m k, .int .i64 C]) (by simp [results, Try.results16, go_sem, *]) rfl ⟨⟨x, y, p, q, a, m, k, rfl, hO5⟩, hB5⟩
theorem value_any (x : Nat) (w : World) (h : Ht x) : Calls Try.prog 70 #[.float .f32 x] w fun e w' => e = .returned (.tuple #[.float .f32 x, .int .i64 0]) ∧ w = w' := by
  have K := Lib.hid (fun w => height_any x w)
  have h' : decide (x % 2147483648 ≤ 1233125376) = true := decide_eq_true h
  rw [h'] at K
  clear h h'
  go_enter Try.func70, Try.ntmps70
  go_wp2_with fail
  refine (K.out _).mono ?_
  rintro e w' ⟨rfl, rfl⟩
  go_wp2_with fail
  go_ret2
  exact ⟨rfl, rfl⟩
theorem value_no (x : Nat) (w : World) (h : ¬ Ht x) : Calls Try.prog 70 #[.float .f32 x] w fun e w' => e = .returned (.tuple #[.float .f32 0, .int .i64 3]) ∧ w = w' := by
  have K := Lib.hid (fun w => height_any x w)
  have h' : decide (x % 2147483648 ≤ 1233125376) = false := decide_eq_false h
  rw [h'] at K
  clear h h'
  go_enter Try.func70, Try.ntmps70
  go_wp2_with fail
  refine (K.out _).mono ?_
  rintro e w' ⟨rfl, rfl⟩
  go_wp2_with fail
  go_ret2
  exact ⟨rfl, rfl⟩

def movedE (T R : Nat) (n : Int) (a b : Nat) : Int := if wearE T R n ≠ 0 then wearE T R n else htE [a, b]
def movedV (T R : Nat) (n : Int) (a b : Nat) : Nat := if movedE T R n a b = 0 then movedF T R a b else 0
theorem movedF_ht {T R a b : Nat} (hW : WearOk T R) (ha : Ht a) (hb : Ht b) : Ht (movedF T R a b) := by
  have := (moved_bd hW (Ieee.Format.Ht.bd ha) (Ieee.Format.Ht.bd hb) (by omega) (by omega)).2.2.2
  exact Ieee.Format.Ht.of ⟨this.2.1, this.2.2⟩
theorem movedE_w {T R : Nat} {n : Int} {a b : Nat} (h : wearE T R n ≠ 0) : movedE T R n a b = wearE T R n ∧ movedV T R n a b = 0 := by
  have e : movedE T R n a b = wearE T R n := by unfold movedE; rw [if_pos h]
  exact ⟨e, by unfold movedV; rw [e, if_neg h]⟩
theorem movedE_h {T R : Nat} {n : Int} {a b : Nat} (h : wearE T R n = 0) (h2 : htE [a, b] ≠ 0) : movedE T R n a b = htE [a, b] ∧ movedV T R n a b = 0 := by
  have e : movedE T R n a b = htE [a, b] := by unfold movedE; rw [if_neg (by omega)]
  exact ⟨e, by unfold movedV; rw [e, if_neg h2]⟩
theorem movedE_ok {T R : Nat} {n : Int} {a b : Nat} (h : wearE T R n = 0) (h2 : htE [a, b] = 0) : movedE T R n a b = 0 ∧ movedV T R n a b = movedF T R a b := by
  have e : movedE T R n a b = 0 := by unfold movedE; rw [if_neg (by omega)]; exact h2
  exact ⟨e, by unfold movedV; rw [e, if_pos rfl]⟩
theorem ret_f32e2 {x y : Nat} {c d : Int} (h : x = y) (h' : c = d) : Ending.returned (.tuple #[.float .f32 x, .int .i64 c]) = .returned (.tuple #[.float .f32 y, .int .i64 d]) := by rw [h, h']
end Go.Proofs.Ytfmbekdfigbfiaa

namespace Ieee
namespace Format
open Go

/-- the other sign -/
def negF (x : Nat) : Nat := x ^^^ 2147483648
theorem negF_parts {x : Nat} (h : x < 4294967296) : single.rung (negF x) = single.rung x ∧ single.sgn (negF x) = !single.sgn x ∧ negF x < 4294967296 := by
  have a1 : negF x % 2147483648 = x % 2147483648 := by
    have := Nat.xor_mod_two_pow (a := x) (b := 2147483648) (n := 31)
    rw [show (2 ^ 31 : Nat) = 2147483648 from rfl, Nat.mod_self, Nat.xor_zero] at this
    exact this
  have a2 : negF x / 2147483648 = x / 2147483648 ^^^ 1 := by
    have := Nat.xor_div_two_pow (a := x) (b := 2147483648) (n := 31)
    rw [show (2 ^ 31 : Nat) = 2147483648 from rfl, show (2147483648 / 2147483648 : Nat) = 1 from rfl] at this
    exact this
  have hq : x / 2147483648 = 0 ∨ x / 2147483648 = 1 := by omega
  refine ⟨?_, ?_, ?_⟩
  · rw [rung_lit, rung_lit, a1]
  · rw [sgn_lit, sgn_lit, a2]
    rcases hq with h | h <;> rw [h] <;> rfl
  · rcases hq with h | h <;> rw [h] at a2
    · have : negF x / 2147483648 = 1 := a2
      omega
    · have : negF x / 2147483648 = 0 := a2
      omega
theorem negF_V {x : Nat} (h : x < 4294967296) : single.V (negF x) = -single.V x := by
  obtain ⟨a, b, _⟩ := negF_parts h
  unfold V
  rw [a, b, sg_not]; grind
theorem negF_fin {x : Nat} (h : x < 4294967296) (hx : single.fin x) : single.fin (negF x) := by
  unfold fin at *; rw [(negF_parts h).1]; exact hx
theorem Bd.neg {k x : Nat} (h : Bd k x) (hl : x < 4294967296) : Bd k (negF x) := by
  refine ⟨negF_fin hl h.1, ?_⟩
  rw [negF_V hl]
  have := h.2
  constructor <;> grind

/-- half a difference -/
def gradF (a b : Nat) : Nat := mulF (subF a b) 1056964608
theorem half_bd : -P2 (-((1 : Nat) : Int)) ≤ single.V 1056964608 ∧ single.V 1056964608 ≤ P2 (-((1 : Nat) : Int)) := by
  rw [const_2nd.2.1]
  have := P2_pos (-1)
  constructor <;> simp only [Int.cast_ofNat_Int] <;> grind
theorem grad_bd {k a b : Nat} (ha : Bd k a) (hb : Bd k b) (hk : k ≤ 80) : Bd (k + 1) (subF a b) ∧ Bd k (gradF a b) := by
  have a1 := ha.sub hb (by omega)
  exact ⟨a1, Bd.less (j := 1) a1 const_2nd.1 half_bd (by omega)⟩
theorem gradF_lt (a b : Nat) : gradF a b < 4294967296 := mulF_lt _ _

theorem mul_nonneg {x y : Nat} (hx : single.fin x) (hy : single.fin y) (hf : single.fin (mulF x y)) (h : 0 ≤ single.V x * single.V y) : 0 ≤ single.V (mulF x y) := (mulF_spec hx hy).2.nonneg hf h
theorem add_nonneg {x y : Nat} (hx : single.fin x) (hy : single.fin y) (hf : single.fin (addF x y)) (h : 0 ≤ single.V x + single.V y) : 0 ≤ single.V (addF x y) := (addF_spec hx hy).2.nonneg hf h
theorem sub_nonneg {x y : Nat} (hx : single.fin x) (hy : single.fin y) (hf : single.fin (subF x y)) (h : 0 ≤ single.V x - single.V y) : 0 ≤ single.V (subF x y) := (subF_spec hx hy).2.nonneg hf h
theorem sq_nonneg (a : Rat) : 0 ≤ a * a := by
  rcases le_or_le 0 a with h | h
  · exact Rat.mul_nonneg h h
  · have := Rat.mul_nonneg (show 0 ≤ -a by grind) (show 0 ≤ -a by grind)
    grind

/-- the sum of two squares -/
def hypF (x y : Nat) : Nat := addF (mulF x x) (mulF y y)
theorem hyp_bd {k x y : Nat} (hx : Bd k x) (hy : Bd k y) (hk : k ≤ 40) : Bd (k + k) (mulF x x) ∧ Bd (k + k) (mulF y y) ∧ Bd (k + k + 1) (hypF x y) ∧ 0 ≤ single.V (hypF x y) := by
  have a := hx.mul hx (by omega)
  have b := hy.mul hy (by omega)
  have c := a.add b (by omega)
  refine ⟨a, b, c, add_nonneg a.1 b.1 c.1 ?_⟩
  have := mul_nonneg hx.1 hx.1 a.1 (sq_nonneg _)
  have := mul_nonneg hy.1 hy.1 b.1 (sq_nonneg _)
  grind
theorem root_bd {k x : Nat} (hx : Bd (k + k) x) (h0 : 0 ≤ single.V x) (hk : k ≤ 50) : Bd k (rootF x) ∧ 0 ≤ single.V (rootF x) := by
  obtain ⟨c, fc, vc, sc⟩ := const_pow k (by omega)
  obtain ⟨X, Z, a, b, d, f, n, u, l⟩ := root_spec hx.1 h0
  have := u c fc sc (by rw [vc, ← P2_add]; exact hx.2.2)
  rw [vc] at this
  have p := P2_pos k
  exact ⟨⟨f, by grind, this⟩, n⟩
theorem root_one {x : Nat} (hx : single.fin x) (h0 : 1 ≤ single.V x) : 1 ≤ single.V (rootF x) := by
  obtain ⟨X, Z, a, b, d, f, n, u, l⟩ := root_spec hx (by grind)
  have := l 1065353216 const_1.1 const_1.2.2 (by rw [const_1.2.1]; grind)
  rw [const_1.2.1] at this; exact this
theorem add_one {k x : Nat} (hx : Bd k x) (h0 : 0 ≤ single.V x) (hk : k ≤ 80) : Bd (k + 1) (addF x 1065353216) ∧ 1 ≤ single.V (addF x 1065353216) := by
  have o : Bd k 1065353216 := ⟨const_1.1, by
    rw [const_1.2.1]
    have := P2_mono (show (0 : Int) ≤ k by omega)
    rw [P2_zero] at this
    constructor <;> grind⟩
  have a := hx.add o (by omega)
  refine ⟨a, ?_⟩
  have := (addF_spec hx.1 o.1).2.ge_const (c := 1065353216) a.1 const_1.2.2 (by rw [const_1.2.1]; decide) (by rw [const_1.2.1]; grind)
  rw [const_1.2.1] at this; exact this

/-- the slope, the curve, the normal of a cell -/
def slopeF (n s e w v : Nat) : Nat := rootF (hypF (gradF e w) (gradF s n))
def lenF (n s e w : Nat) : Nat := rootF (addF (hypF (gradF e w) (gradF s n)) 1065353216)
def curve1 (n s e w : Nat) : Nat := addF (addF (addF n s) e) w
def curveF (n s e w v : Nat) : Nat := subF (mulF (curve1 n s e w) 1048576000) v
theorem quarter_bd : -P2 (-((2 : Nat) : Int)) ≤ single.V 1048576000 ∧ single.V 1048576000 ≤ P2 (-((2 : Nat) : Int)) := by
  rw [const_quarter.2.1]
  have e : P2 (-2) = 1 / 4 := by
    have a := P2_succ (-2)
    have b := P2_succ (-1)
    have c := P2_zero
    simp at a b
    grind
  rw [show (-((2 : Nat) : Int)) = -2 from rfl, e]
  constructor <;> grind
theorem curve_bd {k n s e w v : Nat} (hn : Bd k n) (hs : Bd k s) (he : Bd k e) (hw : Bd k w) (hv : Bd k v) (hk : k ≤ 80) :
    Bd (k + 1) (addF n s) ∧ Bd (k + 2) (addF (addF n s) e) ∧ Bd (k + 3) (curve1 n s e w) ∧ Bd (k + 1) (mulF (curve1 n s e w) 1048576000) ∧ Bd (k + 2) (curveF n s e w v) := by
  have a1 := hn.add hs (by omega)
  have a2 := a1.add (he.mono (show k ≤ k + 1 by omega)) (by omega)
  have a3 := a2.add (hw.mono (show k ≤ k + 2 by omega)) (by omega)
  have a4 : Bd (k + 1) (mulF (curve1 n s e w) 1048576000) := Bd.less (j := 2) a3 const_quarter.1 quarter_bd (by omega)
  exact ⟨a1, a2, a3, a4, a4.sub (hv.mono (by omega)) (by omega)⟩
theorem slope_bd {n s e w : Nat} (hn : Bd 20 n) (hs : Bd 20 s) (he : Bd 20 e) (hw : Bd 20 w) :
    Bd 41 (hypF (gradF e w) (gradF s n)) ∧ 0 ≤ single.V (hypF (gradF e w) (gradF s n)) ∧ Bd 21 (rootF (hypF (gradF e w) (gradF s n))) ∧
    Bd 42 (addF (hypF (gradF e w) (gradF s n)) 1065353216) ∧ 1 ≤ single.V (addF (hypF (gradF e w) (gradF s n)) 1065353216) ∧ Bd 21 (lenF n s e w) ∧ 1 ≤ single.V (lenF n s e w) := by
  obtain ⟨_, a⟩ := grad_bd he hw (by omega)
  obtain ⟨_, b⟩ := grad_bd hs hn (by omega)
  obtain ⟨_, _, c, d⟩ := hyp_bd a b (by omega)
  obtain ⟨f, g⟩ := add_one c d (by omega)
  exact ⟨c, d, (root_bd (k := 21) (c.mono (by omega)) d (by omega)).1, f, g, (root_bd (k := 21) f (by grind) (by omega)).1, root_one f.1 g⟩
theorem one_Bd (k : Nat) : Bd k 1065353216 := ⟨const_1.1, by
    rw [const_1.2.1]
    have := P2_mono (show (0 : Int) ≤ k by omega)
    rw [P2_zero] at this
    constructor <;> grind⟩
def nxF (n s e w : Nat) : Nat := divF (negF (gradF e w)) (lenF n s e w)
def nyF (n s e w : Nat) : Nat := divF (negF (gradF s n)) (lenF n s e w)
def nzF (n s e w : Nat) : Nat := divF 1065353216 (lenF n s e w)
theorem div_one {k x y : Nat} (hx : Bd k x) (hy : single.fin y) (h1 : 1 ≤ single.V y) (hk : k ≤ 100) : Bd k (divF x y) := by
  have := Bd.div (j := 0) hx hy (by rw [show (-((0 : Nat) : Int)) = 0 from rfl, P2_zero]; exact h1) (by omega)
  exact this
theorem normal_bd {n s e w : Nat} (hn : Bd 20 n) (hs : Bd 20 s) (he : Bd 20 e) (hw : Bd 20 w) : Bd 20 (negF (gradF e w)) ∧ Bd 20 (negF (gradF s n)) ∧ Bd 20 (nxF n s e w) ∧ Bd 20 (nyF n s e w) ∧ Bd 0 (nzF n s e w) := by
  obtain ⟨_, a⟩ := grad_bd he hw (by omega)
  obtain ⟨_, b⟩ := grad_bd hs hn (by omega)
  obtain ⟨_, _, _, _, _, h1, h2⟩ := slope_bd hn hs he hw
  exact ⟨a.neg (gradF_lt _ _), b.neg (gradF_lt _ _), div_one (a.neg (gradF_lt _ _)) h1.1 h2 (by omega), div_one (b.neg (gradF_lt _ _)) h1.1 h2 (by omega), div_one (one_Bd 0) h1.1 h2 (by omega)⟩

/-- how much light falls on a cell -/
def shade1 (a b c n s e w : Nat) : Nat := addF (addF (mulF (nxF n s e w) a) (mulF (nyF n s e w) b)) (mulF (nzF n s e w) c)
def shade2 (a b c m n s e w : Nat) : Nat := divF (shade1 a b c n s e w) m
theorem shade_bd {a b c m n s e w : Nat} (ha : Bd 10 a) (hb : Bd 10 b) (hc : Bd 10 c) (hm : single.fin m) (hm1 : 1 ≤ single.V m) (hn : Bd 20 n) (hs : Bd 20 s) (he : Bd 20 e) (hw : Bd 20 w) :
    Bd 30 (mulF (nxF n s e w) a) ∧ Bd 30 (mulF (nyF n s e w) b) ∧ Bd 31 (addF (mulF (nxF n s e w) a) (mulF (nyF n s e w) b)) ∧ Bd 10 (mulF (nzF n s e w) c) ∧ Bd 32 (shade1 a b c n s e w) ∧ Bd 32 (shade2 a b c m n s e w) := by
  obtain ⟨_, _, h1, h2, h3⟩ := normal_bd hn hs he hw
  have x := h1.mul ha (by omega)
  have y := h2.mul hb (by omega)
  have z := h3.mul hc (by omega)
  have xy := x.add y (by omega)
  have xyz := xy.add (z.mono (show 0 + 10 ≤ 30 + 1 by omega)) (by omega)
  exact ⟨x, y, xy, z, xyz, div_one xyz hm hm1 (by omega)⟩
end Format
end Ieee

namespace Go.Proofs.Ytfmbekdfigbfiaa
open Go.ChangeShapes Go.WideShapes Go.ChangeAt Go.RowKit
open Ieee.Format (fin finE htE allFin allHt all_true all_false mulF subF addF Ht Bd divF rootF floorF easeF mixF)
set_option linter.unusedVariables false
open Ieee.Format (negF gradF hypF slopeF lenF curve1 curveF nxF nyF nzF)

theorem run_neg (P : Program) (x : Nat) (w : World) : (Op.unary .neg (.float .f32 x)).run P w = .ok (.float .f32 (negF x)) w := by
  simp [Op.unary, Op.negFloat, negF, FloatKind.format, Ieee.single]

theorem run_sqrt (X Z : Nat) (h : Ieee.double.sqrt X = some Z) (w : World) : (callFunc 219 #[.float .f64 X]).run Try.prog w = .ok (.value (.float .f64 Z)) w := by
  rw [run_callFunc_extern Try.func219 (by kernel_rfl) (by kernel_rfl) (by kernel_rfl) (show _ = some Extern.MathSqrt.sqrt by kernel_rfl)]
  have e : Extern.MathSqrt.sqrt #[.float .f64 X] = pure (.float .f64 Z) := by
    change (match Ieee.double.sqrt X with | some r => (pure (.float .f64 r) : Sem Value) | none => _) = _
    rw [h]
  rw [e]; rfl

theorem mathsqrt_any (X Z : Nat) (h : Ieee.double.sqrt X = some Z) (w : World) : Calls Try.prog 213 #[.float .f64 X] w fun e w' => e = .returned (.float .f64 Z) ∧ w = w' := by
  have K := run_sqrt X Z h
  clear h
  go_enter Try.func213, Try.ntmps213
  go_wp2
  go_ret
  exact ⟨rfl, rfl⟩

theorem root_any (x : Nat) (hx : fin Ieee.single x) (h0 : 0 ≤ Ieee.single.V x) (w : World) : Calls Try.prog 212 #[.float .f32 x] w fun e w' => e = .returned (.float .f32 (rootF x)) ∧ w = w' := by
  obtain ⟨X, Z, a, b, c, _⟩ := Ieee.Format.root_spec hx h0
  have ka := fun w => run_convert_float_float (P := Try.prog) w 27 86 .f32 .f64 x X (by kernel_rfl) Try.underlying86 a
  have kc := fun w => run_convert_float_float (P := Try.prog) w 86 27 .f64 .f32 Z (rootF x) (by kernel_rfl) Try.underlying27 c
  have KS := Lib.hid (fun w => mathsqrt_any X Z b w)
  generalize rootF x = r at *
  clear a b c hx h0
  go_enter Try.func212, Try.ntmps212
  go_wp2_with fail
  refine (KS.out _).mono ?_
  rintro e w' ⟨rfl, rfl⟩
  go_wp2_with fail
  go_ret
  exact ⟨rfl, rfl⟩
theorem refroot_any (x : Nat) (hx : fin Ieee.single x) (h0 : 0 ≤ Ieee.single.V x) (w : World) : Calls Try.prog 198 #[.float .f32 x] w fun e w' => e = .returned (.float .f32 (rootF x)) ∧ w = w' := by
  obtain ⟨X, Z, a, b, c, _⟩ := Ieee.Format.root_spec hx h0
  have ka := fun w => run_convert_float_float (P := Try.prog) w 27 86 .f32 .f64 x X (by kernel_rfl) Try.underlying86 a
  have kc := fun w => run_convert_float_float (P := Try.prog) w 86 27 .f64 .f32 Z (rootF x) (by kernel_rfl) Try.underlying27 c
  have KS := Lib.hid (fun w => mathsqrt_any X Z b w)
  generalize rootF x = r at *
  clear a b c hx h0
  go_enter Try.func198, Try.ntmps198
  go_wp2_with fail
  refine (KS.out _).mono ?_
  rintro e w' ⟨rfl, rfl⟩
  go_wp2_with fail
  go_ret
  exact ⟨rfl, rfl⟩

theorem ref_div_ok (x y : Nat) (w : World) (hx : fin Ieee.single x) (hy : fin Ieee.single y) (h0 : Ieee.single.V y ≠ 0) (hr : fin Ieee.single (divF x y)) :
    Calls Try.prog 197 #[.float .f32 x, .float .f32 y] w fun e w' => e = .returned (.float .f32 (divF x y)) ∧ w = w' := by
  obtain ⟨X, Y, Z, a, b, c, d⟩ := Ieee.Format.road_div hx hy h0 hr
  generalize divF x y = r at *
  have ka := fun w => run_convert_float_float (P := Try.prog) w 27 86 .f32 .f64 x X (by kernel_rfl) Try.underlying86 a
  have kb := fun w => run_convert_float_float (P := Try.prog) w 27 86 .f32 .f64 y Y (by kernel_rfl) Try.underlying86 b
  have kc := fun w => run_float_arith (P := Try.prog) w .quo 86 .f64 X Y Z c
  have kd := fun w => run_convert_float_float (P := Try.prog) w 86 27 .f64 .f32 Z r (by kernel_rfl) Try.underlying27 d
  clear a b c d
  go_enter Try.func197, Try.ntmps197
  go_wp2
  go_ret
  exact ⟨rfl, rfl⟩
theorem one_ne {y : Nat} (h : 1 ≤ Ieee.single.V y) : Ieee.single.V y ≠ 0 := by intro e; rw [e] at h; exact absurd h (by decide)

/-! ### the region without a rim -/
theorem inner_world (w : World) (X Y W H : Int) (v : Value) : ∀ W0, W0 = (w.alloc (.cells #[.int .i64 X, .int .i64 Y, .int .i64 W, .int .i64 H, v] 26)).alloc (.cells #[.int .i64 0, .int .i64 0, .int .i64 0, .int .i64 0] 23) →
    Fld W0 w.heap.size X Y W H v ∧ Reg W0 (w.heap.size + 1) 0 0 0 0 ∧ Below w.heap.size w W0 := by
  rintro _ rfl
  refine ⟨(Fld.new w X Y W H v).alloc _, ?_, (by repeat (first | with_reducible exact Below.refl _ _ | with_reducible apply Below.drew | with_reducible refine below_drewN ?_ _ | (with_reducible refine Below.setCell ?_ ?_ _; rotate_left; focus (first | omega | (simp <;> omega))) | (with_reducible refine Below.alloc ?_ ?_ _; rotate_left; focus (first | omega | (simp <;> omega)))))⟩
  have := Reg.new (w.alloc (.cells #[.int .i64 X, .int .i64 Y, .int .i64 W, .int .i64 H, v] 26)) 0 0 0 0
  simpa using this

/-- the reference's inner, its region told -/
theorem refinner_reg (X Y : Int) (Wn Hn : Nat) (a : Option Addr) (n c N : Nat) (w : World) (hw : 1 + 2 * N ≤ Wn) (hw2 : Wn ≤ 512) (hh : 1 + 2 * N ≤ Hn) (hh2 : Hn ≤ 512) (hN : N ≤ 64) (hx0 : -4194304 ≤ X) (hx1 : X ≤ 4194304) (hy0 : -4194304 ≤ Y) (hy1 : Y ≤ 4194304) :
    Calls Try.prog 88 #[fldV X Y Wn Hn a n c, .int .i64 N] w fun e w' => e = .returned (.tuple #[reg (X + N) (Y + N) ((Wn - 2 * N : Nat) : Int) ((Hn - 2 * N : Nat) : Int), .int .i64 0]) ∧ Below w.heap.size w w' := by
  have K := Lib.hid (fun w' => grown_any X Y Wn Hn (-(N : Int)) w' (by omega) (by omega) (by omega) (by omega) (by omega) (by omega) (by omega) (by omega) (by omega) (by omega))
  have hB : Below w.heap.size w ((w.alloc (.cells #[.int .i64 X, .int .i64 Y, .int .i64 Wn, .int .i64 Hn, .slice a n c] 26)).alloc (.cells #[.int .i64 0, .int .i64 0, .int .i64 0, .int .i64 0] 23)) := (by repeat (first | with_reducible exact Below.refl _ _ | with_reducible apply Below.drew | with_reducible refine below_drewN ?_ _ | (with_reducible refine Below.setCell ?_ ?_ _; rotate_left; focus (first | omega | (simp <;> omega))) | (with_reducible refine Below.alloc ?_ ?_ _; rotate_left; focus (first | omega | (simp <;> omega)))))
  have HB := Lib.hid hB
  have HE : Hid (X - -(N : Int) = X + N ∧ Y - -(N : Int) = Y + N ∧ (Wn : Int) + 2 * -(N : Int) = ((Wn - 2 * N : Nat) : Int) ∧ (Hn : Int) + 2 * -(N : Int) = ((Hn - 2 * N : Nat) : Int)) := ⟨by omega, by omega, by omega, by omega⟩
  clear hB
  go_enter Try.func88, Try.ntmps88
  go_wp2_with fail
  refine (K.out _).mono ?_
  rintro e w1 ⟨rfl, b1⟩
  have hR : Reg w1 (w.heap.size + 1) 0 0 0 0 := by
    have := (Reg.new (w.alloc (.cells #[.int .i64 X, .int .i64 Y, .int .i64 Wn, .int .i64 Hn, .slice a n c] 26)) 0 0 0 0)
    have := this.below b1 (by simp)
    simpa using this
  have B1 := Lib.hid (HB.out.trans (b1.mono HB.out.size))
  clear b1
  have lz := hR.lt
  obtain ⟨d0, d1, d2, d3⟩ := hR.cells
  have q0 : w1.frozen? ⟨w.heap.size + 1, 0, none⟩ = false := frozen_of_row w1 _ 0 _ _ hR
  have q1 : w1.frozen? ⟨w.heap.size + 1, 1, none⟩ = false := frozen_of_row w1 _ 1 _ _ hR
  have q2 : w1.frozen? ⟨w.heap.size + 1, 2, none⟩ = false := frozen_of_row w1 _ 2 _ _ hR
  have q3 : w1.frozen? ⟨w.heap.size + 1, 3, none⟩ = false := frozen_of_row w1 _ 3 _ _ hR
  clear hR
  have t1 : ¬ ((Wn : Int) + 2 * -(N : Int) < 1) := by omega
  have t2 : ¬ ((Hn : Int) + 2 * -(N : Int) < 1) := by omega
  go_wp2
  have B2 := B1.out
  obtain ⟨z1, z2, z3, z4⟩ := HE.out
  exact bodyPost_ret (v := .tuple #[reg (X - -(N : Int)) (Y - -(N : Int)) (Wn + 2 * -(N : Int)) (Hn + 2 * -(N : Int)), .int .i64 0]) (by simp [results, Try.results88, go_sem, *]) rfl ⟨by rw [z1, z2, z3, z4], (by have hszz := B2.size; repeat (first | with_reducible exact B2 | with_reducible apply Below.drew | with_reducible refine below_drewN ?_ _ | (with_reducible refine Below.setCell ?_ ?_ _; rotate_left; focus (first | omega | (simp <;> omega))) | (with_reducible refine Below.alloc ?_ ?_ _; rotate_left; focus (first | omega | (simp <;> omega)))))⟩

/-! ### a list made and looked at -/
/-- what an operation gives, its memory from the block 'B' on -/
def OpB (c : Int) (X Y W H : Int) (m : List Nat) (B : Nat) (w : World) (e : Ending) (w' : World) : Prop :=
  (∃ x y p q a n k, e = .returned (.tuple #[fldV x y p q a n k, .int .i64 c]) ∧ OutV c X Y W H m w' B x y p q a n k) ∧ Below w.heap.size w w'
def resC (m : List Nat) : Int := if allHt m = true then 0 else 3
theorem result_any (X Y W H : Int) (g cap B : Nat) (m : List Nat) (w : World) (ho : OwnF w B g cap m) (hm : m.length ≤ 1099511627776) :
    Calls Try.prog 86 #[fldV X Y W H (some ⟨g, 0, none⟩) m.length cap] w fun e w' => OpB (resC m) X Y W H m B w e w' := by
  unfold resC
  cases h : allHt m with
  | true =>
    rw [if_pos rfl]
    have hh := Ieee.Format.allHt_iff.1 h
    refine (result_ok X Y W H g 0 cap m w (ho.row hm) (fun j hj => ?_)).mono ?_
    · rw [List.getD_eq_getElem?_getD, List.getElem?_eq_getElem hj]; exact hh _ (List.getElem_mem hj)
    · rintro e w' ⟨rfl, b⟩
      exact ⟨⟨_, _, _, _, _, _, _, rfl, .inr ⟨rfl, rfl, rfl, rfl, rfl, g, rfl, rfl, ho.below b ho.lt.2⟩⟩, b⟩
  | false =>
    rw [if_neg (by decide)]
    refine (result_no X Y W H g 0 cap m w (ho.row hm) h).mono ?_
    rintro e w' ⟨rfl, b⟩
    exact ⟨⟨_, _, _, _, _, _, _, rfl, .inl ⟨by decide, rfl, rfl, rfl, rfl, rfl, rfl, rfl⟩⟩, b⟩
end Go.Proofs.Ytfmbekdfigbfiaa

namespace Go.Proofs.Ytfmbekdfigbfiaa
open Go.ChangeShapes Go.WideShapes Go.ChangeAt Go.RowKit
open Ieee.Format (fin finE htE allFin allHt all_true all_false mulF subF addF Ht Bd divF rootF floorF easeF mixF)
set_option linter.unusedVariables false
open Ieee.Format (negF gradF hypF slopeF lenF curve1 curveF nxF nyF nzF grad_bd hyp_bd slope_bd normal_bd curve_bd const_2nd const_quarter const_1)

abbrev nbV (n s e w v : Nat) : Value := .agg #[.float .f32 n, .float .f32 s, .float .f32 e, .float .f32 w, .float .f32 v]

/-- the number of a cell that is not at the edge -/
structure InnerAt (X Y : Int) (Wn Hn : Nat) (x y : Int) (k : Nat) : Prop where
  x1 : X + 1 ≤ x
  x2 : x < X + Wn - 1
  y1 : Y + 1 ≤ y
  y2 : y < Y + Hn - 1
  k : cellNo X Y Wn x y = (k : Int)
theorem InnerAt.of {X Y : Int} {Wn Hn : Nat} {x y : Int} (h1 : X + 1 ≤ x) (h2 : x < X + Wn - 1) (h3 : Y + 1 ≤ y) (h4 : y < Y + Hn - 1) : InnerAt X Y Wn Hn x y (cellNo X Y Wn x y).toNat := by
  refine ⟨h1, h2, h3, h4, ?_⟩
  have e1 := Int.mul_le_mul_of_nonneg_right (show 1 ≤ y - Y by omega) (show (0 : Int) ≤ Wn by omega)
  unfold cellNo
  omega
theorem InnerAt.lo {X Y : Int} {Wn Hn : Nat} {x y : Int} {k : Nat} (h : InnerAt X Y Wn Hn x y k) : Wn ≤ k := by
  have h1 := h.y1
  have h2 := h.x1
  have e1 := Int.mul_le_mul_of_nonneg_right (show 1 ≤ y - Y by omega) (show (0 : Int) ≤ Wn by omega)
  have := h.k
  unfold cellNo at this
  omega
theorem InnerAt.hi {X Y : Int} {Wn Hn : Nat} {x y : Int} {k : Nat} (h : InnerAt X Y Wn Hn x y k) (hw : 1 ≤ Wn) : k + Wn < Hn * Wn := by
  have h1 := h.y2
  have h2 := h.x2
  have h3 := h.y1
  have e1 := Int.mul_le_mul_of_nonneg_right (show y - Y + 2 ≤ Hn by omega) (show (0 : Int) ≤ Wn by omega)
  have := h.k
  unfold cellNo at this
  have e2 : ((Hn * Wn : Nat) : Int) = (Hn : Int) * Wn := Int.natCast_mul _ _
  rw [Int.add_mul] at e1
  omega
theorem Right.bd {X Y : Int} {Wn Hn : Nat} {l : List Nat} (h : Right X Y Wn Hn l) (i : Nat) : Bd 20 (l.getD i 0) := Ieee.Format.Ht.bd (h.getD i)

theorem around_at (X Y : Int) (Wn Hn : Nat) (x y : Int) (b o c k : Nat) (l : List Nat) (w : World) (hl : SRow w (some ⟨b, o, none⟩) l) (hr : Right X Y Wn Hn l) (h : InnerAt X Y Wn Hn x y k) :
    Calls Try.prog 146 #[fldV X Y Wn Hn (some ⟨b, o, none⟩) l.length c, .int .i64 x, .int .i64 y] w fun e w' => e = .returned (nbV (l.getD (k - Wn) 0) (l.getD (k + Wn) 0) (l.getD (k + 1) 0) (l.getD (k - 1) 0) (l.getD k 0)) ∧ Below w.heap.size w w' := by
  have g1 := hr.w2; have g2 := hr.h2; have g3 := hr.x1; have g4 := hr.x2; have g5 := hr.y1; have g6 := hr.y2; have g7 := hr.w1
  have h1 := h.x1; have h2 := h.x2; have h3 := h.y1; have h4 := h.y2
  exact around_any X Y Wn Hn x y b o c k l w hl (by omega) (by omega) (by omega) (by omega) (by omega) (by omega) (by omega) (by omega) (by omega) (by omega) h.k h.lo (by rw [hr.len]; exact h.hi g7)
theorem refaround_at (X Y : Int) (Wn Hn : Nat) (x y : Int) (b o c k : Nat) (l : List Nat) (w : World) (hl : SRow w (some ⟨b, o, none⟩) l) (hr : Right X Y Wn Hn l) (h : InnerAt X Y Wn Hn x y k) :
    Calls Try.prog 162 #[fldV X Y Wn Hn (some ⟨b, o, none⟩) l.length c, .int .i64 x, .int .i64 y] w fun e w' => e = .returned (.tuple #[.float .f32 (l.getD k 0), .float .f32 (l.getD (k - Wn) 0), .float .f32 (l.getD (k + Wn) 0), .float .f32 (l.getD (k + 1) 0), .float .f32 (l.getD (k - 1) 0)]) ∧ Below w.heap.size w w' := by
  have g1 := hr.w2; have g2 := hr.h2; have g3 := hr.x1; have g4 := hr.x2; have g5 := hr.y1; have g6 := hr.y2; have g7 := hr.w1; have g8 := hr.h1
  exact refaround_any X Y Wn Hn x y b o c k l w hl hr.len (by omega) (by omega) (by omega) (by omega) (by omega) (by omega) (by omega) (by omega) h.x1 h.x2 h.y1 h.y2 h.k

theorem nb_box (w : World) (n s e wv v : Nat) (B : Nat) (w0 : World) (hb : Below B w0 w) (hB : B ≤ w.heap.size) : ∀ W0, W0 = w.alloc (.cells #[.float .f32 n, .float .f32 s, .float .f32 e, .float .f32 wv, .float .f32 v] 123) → Nb5 W0 w.heap.size n s e wv v ∧ Below B w0 W0 := by
  rintro _ rfl
  exact ⟨heap_alloc_new w _, hb.alloc hB _⟩
def shadeF (a b c m n s e w v : Nat) : Nat := if gtr (Ieee.Format.shade2 a b c m n s e w) 0 = true then Ieee.Format.shade2 a b c m n s e w else 0
/-- what of a light's direction is right -/
structure LightOk (A B C M : Nat) : Prop where
  a : Bd 10 A
  b : Bd 10 B
  c : Bd 10 C
  m : fin Ieee.single M
  m1 : 1 ≤ Ieee.single.V M

end Go.Proofs.Ytfmbekdfigbfiaa

namespace Go.Proofs.Ytfmbekdfigbfiaa
open Go.ChangeShapes Go.WideShapes Go.ChangeAt Go.RowKit
open Ieee.Format (fin finE htE allFin allHt all_true all_false mulF subF addF Ht Bd divF rootF floorF easeF mixF)
set_option linter.unusedVariables false
open Ieee.Format (negF gradF hypF slopeF lenF curve1 curveF nxF nyF nzF grad_bd hyp_bd slope_bd normal_bd curve_bd const_2nd const_quarter const_1 shade1 shade2 shade_bd)

end Go.Proofs.Ytfmbekdfigbfiaa

namespace Go.Proofs.Ytfmbekdfigbfiaa
open Go.ChangeShapes Go.WideShapes Go.ChangeAt Go.RowKit
open Ieee.Format (fin finE htE allFin allHt all_true all_false mulF subF addF Ht Bd divF rootF floorF easeF mixF)
set_option linter.unusedVariables false
open Ieee.Format (slopeF curveF)

/-- the values of the cells that are not at the edge -/
def innerL (φ : Nat → Nat → Nat → Nat → Nat → Nat) (X Y : Int) (Wn Hn : Nat) (l : List Nat) : List Nat := madeL (fun x y => nbr φ l Wn (cellNo X Y Wn x y).toNat) (X + 1) (Y + 1) (Wn - 2) ((Hn - 2) * (Wn - 2))
theorem innerL_len (φ : Nat → Nat → Nat → Nat → Nat → Nat) (X Y : Int) (Wn Hn : Nat) (l : List Nat) : (innerL φ X Y Wn Hn l).length = (Hn - 2) * (Wn - 2) := madeL_len _ _ _ _ _
theorem innerL_small (φ : Nat → Nat → Nat → Nat → Nat → Nat) {X Y : Int} {Wn Hn : Nat} {l : List Nat} (hr : Right X Y Wn Hn l) : (innerL φ X Y Wn Hn l).length ≤ 1099511627776 := by
  rw [innerL_len]
  have := hr.h2; have := hr.w2
  have := Nat.mul_le_mul (show Hn - 2 ≤ 512 by omega) (show Wn - 2 ≤ 512 by omega)
  omega

theorem make_inner (gn : Nat) (caps : Array Value) (φ : Nat → Nat → Nat → Nat → Nat → Nat) (X Y : Int) (Wn Hn : Nat) (l : List Nat) (w : World) (hr : Right X Y Wn Hn l) (h3 : 3 ≤ Wn) (h4 : 3 ≤ Hn)
    (eg : ∀ args w, (callFunc gn args).run Try.prog w = .ok (.enter gn args) w) (hlt : ∀ k, nbr φ l Wn k < 4294967296)
    (hf : ∀ x y k, InnerAt X Y Wn Hn x y k → ∀ W', Below w.heap.size w W' → Calls Try.prog gn (#[.int .i64 x, .int .i64 y] ++ caps) W' fun e w' => e = .returned (.float .f32 (nbr φ l Wn k)) ∧ Below W'.heap.size W' w') :
    Calls Try.prog 144 #[reg (X + 1) (Y + 1) ((Wn - 2 : Nat) : Int) ((Hn - 2 : Nat) : Int), .func (.func gn) #[] caps] w fun e w' => MakeP (X + 1) (Y + 1) ((Wn - 2 : Nat) : Int) ((Hn - 2 : Nat) : Int) (innerL φ X Y Wn Hn l) w e w' := by
  have g1 := hr.w2; have g2 := hr.h2; have g3 := hr.x1; have g4 := hr.x2; have g5 := hr.y1; have g6 := hr.y2
  refine make_any gn caps (fun x y => nbr φ l Wn (cellNo X Y Wn x y).toNat) (X + 1) (Y + 1) (Wn - 2) (Hn - 2) w (by omega) (by omega) (by omega) (by omega) (by omega) (by omega) (by omega) (by omega) eg (fun x y _ _ _ _ => hlt _) ?_
  intro x y h1 h2 h5 h6 W' hb
  exact hf x y _ (InnerAt.of h1 (by omega) h5 (by omega)) W' hb
theorem made_inner (gn : Nat) (caps : Array Value) (φ : Nat → Nat → Nat → Nat → Nat → Nat) (X Y : Int) (Wn Hn : Nat) (l : List Nat) (w : World) (hr : Right X Y Wn Hn l) (h3 : 3 ≤ Wn) (h4 : 3 ≤ Hn)
    (eg : ∀ args w, (callFunc gn args).run Try.prog w = .ok (.enter gn args) w) (hlt : ∀ k, nbr φ l Wn k < 4294967296)
    (hf : ∀ x y k, InnerAt X Y Wn Hn x y k → ∀ W', Below w.heap.size w W' → Calls Try.prog gn (#[.int .i64 x, .int .i64 y] ++ caps) W' fun e w' => e = .returned (.float .f32 (nbr φ l Wn k)) ∧ Below W'.heap.size W' w') :
    Calls Try.prog 74 #[reg (X + 1) (Y + 1) ((Wn - 2 : Nat) : Int) ((Hn - 2 : Nat) : Int), .func (.func gn) #[] caps] w fun e w' => OpP (resC (innerL φ X Y Wn Hn l)) (X + 1) (Y + 1) ((Wn - 2 : Nat) : Int) ((Hn - 2 : Nat) : Int) (innerL φ X Y Wn Hn l) w e w' := by
  have g1 := hr.w2; have g2 := hr.h2; have g3 := hr.x1; have g4 := hr.x2; have g5 := hr.y1; have g6 := hr.y2
  refine (made_any gn caps (fun x y => nbr φ l Wn (cellNo X Y Wn x y).toNat) (X + 1) (Y + 1) (Wn - 2) (Hn - 2) w (by omega) (by omega) (by omega) (by omega) (by omega) (by omega) (by omega) (by omega) eg (fun x y _ _ _ _ => hlt _) ?_).mono fun e w' h => h.res.op
  intro x y h1 h2 h5 h6 W' hb
  exact hf x y _ (InnerAt.of h1 (by omega) h5 (by omega)) W' hb

theorem refinner_rno (X Y : Int) (Wn Hn : Nat) (a : Option Addr) (n c : Nat) (l : List Nat) (w : World) (hr : Right X Y Wn Hn l) (hx : -1000000 ≤ X ∧ X ≤ 1000000 ∧ -1000000 ≤ Y ∧ Y ≤ 1000000) (h : Wn < 3 ∨ Hn < 3) :
    Calls Try.prog 88 #[fldV X Y Wn Hn a n c, .int .i64 1] w fun e w' => e = .returned (.tuple #[reg 0 0 0 0, .int .i64 10]) ∧ Below w.heap.size w w' := by
  have g1 := hr.w2; have g2 := hr.h2; have g7 := hr.w1; have g8 := hr.h1
  exact refinner_no X Y Wn Hn a n c 1 w (by omega) (by omega) (by omega) (by omega) (by omega) (by omega) (by omega) (by omega) (by omega) (by omega)
theorem refinner_ryes (X Y : Int) (Wn Hn : Nat) (a : Option Addr) (n c : Nat) (l : List Nat) (w : World) (hr : Right X Y Wn Hn l) (h3 : 3 ≤ Wn) (h4 : 3 ≤ Hn) :
    Calls Try.prog 88 #[fldV X Y Wn Hn a n c, .int .i64 1] w fun e w' => e = .returned (.tuple #[reg (X + 1) (Y + 1) ((Wn - 2 : Nat) : Int) ((Hn - 2 : Nat) : Int), .int .i64 0]) ∧ Below w.heap.size w w' := by
  have g1 := hr.w2; have g2 := hr.h2; have g3 := hr.x1; have g4 := hr.x2; have g5 := hr.y1; have g6 := hr.y2
  exact refinner_reg X Y Wn Hn a n c 1 w (by omega) (by omega) (by omega) (by omega) (by omega) (by omega) (by omega) (by omega) (by omega)

theorem op_pair (f g : Nat) (caps : Array Value) (X Y : Int) (Wn Hn : Nat) (b o c : Nat) (l : List Nat) (φ : Nat → Nat → Nat → Nat → Nat → Nat) (hr : Right X Y Wn Hn l)
    (n1 : Wn < 3 ∨ Hn < 3 → ∀ w, SRow w (some ⟨b, o, none⟩) l → Calls Try.prog f (#[fldV X Y Wn Hn (some ⟨b, o, none⟩) l.length c] ++ caps) w fun e w' => e = .returned (.tuple #[fldV 0 0 0 0 none 0 0, .int .i64 10]) ∧ Below w.heap.size w w')
    (n2 : Wn < 3 ∨ Hn < 3 → ∀ w, SRow w (some ⟨b, o, none⟩) l → Calls Try.prog g (#[fldV X Y Wn Hn (some ⟨b, o, none⟩) l.length c] ++ caps) w fun e w' => e = .returned (.tuple #[fldV 0 0 0 0 none 0 0, .int .i64 10]) ∧ Below w.heap.size w w')
    (y1 : 3 ≤ Wn → 3 ≤ Hn → ∀ w, SRow w (some ⟨b, o, none⟩) l → Calls Try.prog f (#[fldV X Y Wn Hn (some ⟨b, o, none⟩) l.length c] ++ caps) w fun e w' => OpP (resC (innerL φ X Y Wn Hn l)) (X + 1) (Y + 1) ((Wn - 2 : Nat) : Int) ((Hn - 2 : Nat) : Int) (innerL φ X Y Wn Hn l) w e w')
    (y2 : 3 ≤ Wn → 3 ≤ Hn → ∀ w, SRow w (some ⟨b, o, none⟩) l → Calls Try.prog g (#[fldV X Y Wn Hn (some ⟨b, o, none⟩) l.length c] ++ caps) w fun e w' => OpP (resC (innerL φ X Y Wn Hn l)) (X + 1) (Y + 1) ((Wn - 2 : Nat) : Int) ((Hn - 2 : Nat) : Int) (innerL φ X Y Wn Hn l) w e w') :
    ∃ (C X1 Y1 W1 H1 : Int) (S : List Nat), (S.length ≤ 1099511627776 ∧ (S = [] ∨ S = innerL φ X Y Wn Hn l)) ∧
      (∀ w, SRow w (some ⟨b, o, none⟩) l → Calls Try.prog f (#[fldV X Y Wn Hn (some ⟨b, o, none⟩) l.length c] ++ caps) w fun e w' => OpP C X1 Y1 W1 H1 S w e w') ∧
      (∀ w, SRow w (some ⟨b, o, none⟩) l → Calls Try.prog g (#[fldV X Y Wn Hn (some ⟨b, o, none⟩) l.length c] ++ caps) w fun e w' => OpP C X1 Y1 W1 H1 S w e w') := by
  by_cases h : Wn < 3 ∨ Hn < 3
  · refine ⟨10, 0, 0, 0, 0, [], ⟨by simp, .inl rfl⟩, fun w hl => ?_, fun w hl => ?_⟩
    · exact (n1 h w hl).mono fun e w' ⟨h1, h2⟩ => OpP.err (by decide) h1 h2
    · exact (n2 h w hl).mono fun e w' ⟨h1, h2⟩ => OpP.err (by decide) h1 h2
  · exact ⟨_, _, _, _, _, _, ⟨innerL_small φ hr, .inr rfl⟩, fun w hl => y1 (by omega) (by omega) w hl, fun w hl => y2 (by omega) (by omega) w hl⟩
end Go.Proofs.Ytfmbekdfigbfiaa

namespace Go.Proofs.Ytfmbekdfigbfiaa
open Go.ChangeShapes Go.WideShapes Go.ChangeAt Go.RowKit
open Ieee.Format (fin finE htE allFin allHt all_true all_false mulF subF addF Ht Bd divF rootF floorF easeF mixF)
set_option linter.unusedVariables false

/-- a row of ints in a block -/
def IRow (w : World) (b : Nat) (l : List Int) : Prop := ∀ i, i < l.length → w.cell? ⟨b, i, none⟩ = some (.int .i64 (l.getD i 0))
def inB (m n : Int) : Bool := decide (-m ≤ n ∧ n ≤ m)

theorem all_or_first (p : Nat → Prop) (n : Nat) : (∀ i, i < n → p i) ∨ ∃ j, j < n ∧ (∀ i, i < j → p i) ∧ ¬ p j := by
  induction n with
  | zero => exact .inl fun i hi => absurd hi (by omega)
  | succ n ih =>
    rcases ih with h | ⟨j, hj, h1, h2⟩
    · by_cases hp : p n
      · exact .inl fun i hi => by
          rcases Nat.lt_or_ge i n with c | c
          · exact h i c
          · rw [show i = n by omega]; exact hp
      · exact .inr ⟨n, by omega, h, hp⟩
    · exact .inr ⟨j, by omega, h1, h2⟩

theorem irow3 (w : World) (b : Nat) (x y z : Int) (h0 : w.cell? ⟨b, 0, none⟩ = some (.int .i64 x)) (h1 : w.cell? ⟨b, 1, none⟩ = some (.int .i64 y)) (h2 : w.cell? ⟨b, 2, none⟩ = some (.int .i64 z)) : IRow w b [x, y, z] := by
  intro i hi
  match i, hi with
  | 0, _ => exact h0
  | 1, _ => exact h1
  | 2, _ => exact h2
theorem irow2 (w : World) (b : Nat) (x y : Int) (h0 : w.cell? ⟨b, 0, none⟩ = some (.int .i64 x)) (h1 : w.cell? ⟨b, 1, none⟩ = some (.int .i64 y)) : IRow w b [x, y] := by
  intro i hi
  match i, hi with
  | 0, _ => exact h0
  | 1, _ => exact h1
theorem irow1 (w : World) (b : Nat) (x : Int) (h0 : w.cell? ⟨b, 0, none⟩ = some (.int .i64 x)) : IRow w b [x] := by
  intro i hi
  match i, hi with
  | 0, _ => exact h0
def lightE (x y z : Int) : Int := if (inB 1000 x && inB 1000 y && inB 1000 z) = false then 3 else if x = 0 ∧ y = 0 ∧ z = 0 then 12 else 0
end Go.Proofs.Ytfmbekdfigbfiaa

namespace Go.Proofs.Ytfmbekdfigbfiaa
open Go.ChangeShapes Go.WideShapes Go.ChangeAt Go.RowKit
open Ieee.Format (fin finE htE allFin allHt all_true all_false mulF subF addF Ht Bd divF rootF floorF easeF mixF)
set_option linter.unusedVariables false
open Ieee.Format (conv_exact const_1)

abbrev cv (n : Int) : Nat := floatOfInt .f32 n
theorem cv_bd {n : Int} {k : Nat} (hk : k ≤ 23) (h1 : -(2 ^ k : Nat) ≤ n) (h2 : n ≤ (2 ^ k : Nat)) : Bd k (cv n) := by
  have hp : (2 ^ k : Nat) ≤ 2 ^ 23 := Nat.pow_le_pow_right (by omega) hk
  have : (2 : Nat) ^ 23 = 8388608 := by decide
  obtain ⟨a, b, _⟩ := conv_exact n (by omega) (by omega)
  refine ⟨a, ?_⟩
  rw [b, Ieee.P2_nat]
  constructor
  · rw [← Rat.intCast_natCast, ← Rat.intCast_neg]; exact Rat.intCast_le_intCast.2 h1
  · rw [← Rat.intCast_natCast]; exact Rat.intCast_le_intCast.2 h2
theorem sq_int (n m : Int) (h1 : -m ≤ n) (h2 : n ≤ m) : 0 ≤ n * n ∧ n * n ≤ m * m := by
  constructor
  · rcases Int.le_total 0 n with h | h
    · exact Int.mul_nonneg h h
    · have := Int.mul_nonneg (show 0 ≤ -n by omega) (show 0 ≤ -n by omega)
      rw [Int.neg_mul_neg] at this; exact this
  · rcases Int.le_total 0 n with h | h
    · exact Int.mul_le_mul h2 h2 h (by omega)
    · have := Int.mul_le_mul (show -n ≤ m by omega) (show -n ≤ m by omega) (show 0 ≤ -n by omega) (show 0 ≤ m by omega)
      rw [Int.neg_mul_neg] at this; exact this
theorem sq_pos {n : Int} (h : n ≠ 0) : 1 ≤ n * n := by
  rcases Int.lt_or_gt_of_ne h with h | h
  · have := Int.mul_le_mul (show 1 ≤ -n by omega) (show 1 ≤ -n by omega) (by omega) (show 0 ≤ -n by omega)
    rw [Int.neg_mul_neg] at this; omega
  · have := Int.mul_le_mul (show 1 ≤ n by omega) (show 1 ≤ n by omega) (by omega) (show 0 ≤ n by omega)
    omega
theorem cv_root {n : Int} (h1 : 1 ≤ n) (h2 : n < 16777216) : fin Ieee.single (cv n) ∧ 0 ≤ Ieee.single.V (cv n) ∧ fin Ieee.single (rootF (cv n)) ∧ 1 ≤ Ieee.single.V (rootF (cv n)) := by
  obtain ⟨a, b, _⟩ := conv_exact n h2 (by omega)
  have hb : 1 ≤ Ieee.single.V (cv n) := by
    rw [b]
    have : ((1 : Int) : Rat) ≤ (n : Rat) := Rat.intCast_le_intCast.2 h1
    exact this
  have h0 : 0 ≤ Ieee.single.V (cv n) := by grind
  obtain ⟨X, Z, _, _, _, f, _⟩ := Ieee.Format.root_spec a h0
  exact ⟨a, h0, f, Ieee.Format.root_one a hb⟩

theorem light_zero {x y z : Int} (h : lightE x y z = 0) : (-1000 ≤ x ∧ x ≤ 1000) ∧ (-1000 ≤ y ∧ y ≤ 1000) ∧ (-1000 ≤ z ∧ z ≤ 1000) ∧ ¬ (x = 0 ∧ y = 0 ∧ z = 0) := by
  unfold lightE at h
  cases hc : (inB 1000 x && inB 1000 y && inB 1000 z) with
  | false => rw [hc, if_pos rfl] at h; omega
  | true =>
    rw [hc, if_neg (by decide)] at h
    simp only [Bool.and_eq_true, inB, decide_eq_true_eq] at hc
    refine ⟨hc.1.1, hc.1.2, hc.2, fun e => ?_⟩
    rw [if_pos e] at h; omega
theorem light_ok {x y z : Int} (h : lightE x y z = 0) : LightOk (cv x) (cv y) (cv z) (rootF (cv (x * x + y * y + z * z))) ∧ fin Ieee.single (cv (x * x + y * y + z * z)) ∧ 0 ≤ Ieee.single.V (cv (x * x + y * y + z * z)) ∧
    (0 ≤ x * x ∧ x * x ≤ 1000000) ∧ (0 ≤ y * y ∧ y * y ≤ 1000000) ∧ (0 ≤ z * z ∧ z * z ≤ 1000000) := by
  obtain ⟨h1, h2, h3, h4⟩ := light_zero h
  have a := sq_int x 1000 h1.1 h1.2
  have b := sq_int y 1000 h2.1 h2.2
  have c := sq_int z 1000 h3.1 h3.2
  have hp : 1 ≤ x * x + y * y + z * z := by
    by_cases e1 : x = 0
    · by_cases e2 : y = 0
      · by_cases e3 : z = 0
        · exact absurd ⟨e1, e2, e3⟩ h4
        · have := sq_pos e3; omega
      · have := sq_pos e2; omega
    · have := sq_pos e1; omega
  obtain ⟨r1, r2, r3, r4⟩ := cv_root hp (by omega)
  exact ⟨⟨cv_bd (by omega) (by simp; omega) (by simp; omega), cv_bd (by omega) (by simp; omega) (by simp; omega), cv_bd (by omega) (by simp; omega) (by simp; omega), r3, r4⟩, r1, r2, by omega, by omega, by omega⟩

theorem light_world (w : World) (x y z : Int) (M A B C : Nat) : ∀ W0, W0 = ((((w.alloc (.cells #[.int .i64 x, .int .i64 y, .int .i64 z] 3)).alloc (.cells #[.float .f32 M] 27)).alloc (.cells #[.float .f32 A] 27)).alloc (.cells #[.float .f32 B] 27)).alloc (.cells #[.float .f32 C] 27) →
    Blk W0 (w.heap.size + 1) #[.float .f32 M] 27 ∧ Blk W0 (w.heap.size + 1 + 1) #[.float .f32 A] 27 ∧ Blk W0 (w.heap.size + 1 + 1 + 1) #[.float .f32 B] 27 ∧ Blk W0 (w.heap.size + 1 + 1 + 1 + 1) #[.float .f32 C] 27 ∧ Below w.heap.size w W0 := by
  rintro _ rfl
  refine ⟨?_, ?_, ?_, ?_, (by repeat (first | with_reducible exact Below.refl _ _ | with_reducible apply Below.drew | with_reducible refine below_drewN ?_ _ | (with_reducible refine Below.setCell ?_ ?_ _; rotate_left; focus (first | omega | (simp <;> omega))) | (with_reducible refine Below.alloc ?_ ?_ _; rotate_left; focus (first | omega | (simp <;> omega)))))⟩
  · have := (((Blk.new (w.alloc (.cells #[.int .i64 x, .int .i64 y, .int .i64 z] 3)) #[.float .f32 M] 27).alloc (.cells #[.float .f32 A] 27)).alloc (.cells #[.float .f32 B] 27)).alloc (.cells #[.float .f32 C] 27)
    simpa using this
  · have := ((Blk.new ((w.alloc (.cells #[.int .i64 x, .int .i64 y, .int .i64 z] 3)).alloc (.cells #[.float .f32 M] 27)) #[.float .f32 A] 27).alloc (.cells #[.float .f32 B] 27)).alloc (.cells #[.float .f32 C] 27)
    simpa using this
  · have := (Blk.new (((w.alloc (.cells #[.int .i64 x, .int .i64 y, .int .i64 z] 3)).alloc (.cells #[.float .f32 M] 27)).alloc (.cells #[.float .f32 A] 27)) #[.float .f32 B] 27).alloc (.cells #[.float .f32 C] 27)
    simpa using this
  · have := Blk.new ((((w.alloc (.cells #[.int .i64 x, .int .i64 y, .int .i64 z] 3)).alloc (.cells #[.float .f32 M] 27)).alloc (.cells #[.float .f32 A] 27)).alloc (.cells #[.float .f32 B] 27)) #[.float .f32 C] 27
    simpa using this

theorem shadeF_lt (A B C M n s e w v : Nat) : shadeF A B C M n s e w v < 4294967296 := by
  unfold shadeF; split
  · exact Ieee.Format.divF_lt _ _
  · decide

end Go.Proofs.Ytfmbekdfigbfiaa

namespace Ieee
namespace Format
open Go

theorem cut_zero (neg : Bool) (n drop : Nat) : Toward.zero.cut neg n drop = n / 2 ^ drop := by
  unfold Toward.cut
  by_cases h : drop ≤ n.log2 + 2
  · rw [Nat.min_eq_left h, Nat.one_shiftLeft]
    rfl
  · have h1 : n < 2 ^ (n.log2 + 1) := Nat.lt_log2_self
    have h2 : 2 ^ (n.log2 + 2) ≤ 2 ^ drop := Nat.pow_le_pow_right (by omega) (by omega)
    rw [Nat.min_eq_right (by omega), Nat.one_shiftLeft]
    have e : 2 ^ (n.log2 + 2) = 2 * 2 ^ (n.log2 + 1) := by rw [Nat.pow_succ]; omega
    have a1 : n / 2 ^ (n.log2 + 2) = 0 := Nat.div_eq_of_lt (by omega)
    have b1 : n / 2 ^ drop = 0 := Nat.div_eq_of_lt (by omega)
    simp only [a1, b1]
    rfl

theorem int_of_sg {s : Bool} {c : Nat} {z : Int} (h : sg s * (c : Rat) = (z : Rat)) : signed s c 0 = z := by
  unfold signed
  simp only [Nat.shiftLeft_zero]
  cases s
  · simp only [sg, Bool.false_eq_true, if_false, Rat.one_mul] at h ⊢
    have : ((c : Int) : Rat) = (z : Rat) := by rw [Rat.intCast_natCast]; exact h
    exact Rat.intCast_inj.1 this
  · simp only [sg, if_true] at h ⊢
    have : ((-(c : Int) : Int) : Rat) = (z : Rat) := by rw [Rat.intCast_neg, Rat.intCast_natCast]; grind
    exact Rat.intCast_inj.1 this

/-- a single that is a whole number, made an int -/
theorem whole_int {x : Nat} {z : Int} (hx : single.fin x) (hz : single.V x = (z : Rat)) (h1 : -9223372036854775808 ≤ z) (h2 : z ≤ 9223372036854775807) : floatToIntVal .f32 x .i64 = some z := by
  have hd : FloatKind.decode .f32 x = .number (single.sgn x) (single.rmag (single.rung x)) (single.rplace (single.rung x)) := single.read_fin hx
  have hV := single.V_read x
  rw [hz] at hV
  unfold floatToIntVal
  rw [hd]
  generalize single.rmag (single.rung x) = m at *
  generalize single.rplace (single.rung x) = i at *
  generalize single.sgn x = s at *
  have ht : Datum.toInt .zero (.number s m i) = some (signed s (Toward.zero.cut s (m <<< i.toNat) (-i).toNat) 0) := rfl
  rw [ht, cut_zero]
  have hc : sg s * ((m <<< i.toNat / 2 ^ (-i).toNat : Nat) : Rat) = (z : Rat) := by
    by_cases hi : 0 ≤ i
    · obtain ⟨j, rfl⟩ := Int.eq_ofNat_of_zero_le hi
      rw [show (-(j : Int)).toNat = 0 by omega, Int.toNat_natCast, Nat.pow_zero, Nat.div_one, Nat.shiftLeft_eq, Rat.natCast_mul, ← P2_nat]
      exact hV.symm
    · obtain ⟨d, hd⟩ : ∃ d : Nat, (-i).toNat = d := ⟨_, rfl⟩
      have hi2 : i = -(d : Int) := by omega
      rw [show i.toNat = 0 by omega, hd, Nat.shiftLeft_zero]
      -- m = |z| * 2^d
      have e1 : (m : Rat) = ((z.natAbs * 2 ^ d : Nat) : Rat) := by
        have hz2 : sg s * (z : Rat) = (m : Rat) * P2 i := by rw [hV, ← Rat.mul_assoc, sg_sq, Rat.one_mul]
        have hm0 : 0 ≤ (m : Rat) * P2 i := Rat.mul_nonneg Rat.natCast_nonneg (Rat.le_of_lt (P2_pos i))
        have ha : ((z.natAbs : Nat) : Rat) = (m : Rat) * P2 i := by
          rw [← hz2] at hm0 ⊢
          cases s
          · simp only [sg, Bool.false_eq_true, if_false, Rat.one_mul] at hm0 ⊢
            have := Rat.intCast_nonneg.1 hm0
            rw [← Rat.intCast_natCast, show (z.natAbs : Int) = z by omega]
          · simp only [sg, if_true] at hm0 ⊢
            have : 0 ≤ ((-z : Int) : Rat) := by rw [Rat.intCast_neg]; grind
            have := Rat.intCast_nonneg.1 this
            rw [← Rat.intCast_natCast, show (z.natAbs : Int) = -z by omega, Rat.intCast_neg]; grind
        rw [Rat.natCast_mul, ha, ← P2_nat, Rat.mul_assoc, ← P2_add, hi2, show -(d : Int) + d = 0 by omega, P2_zero, Rat.mul_one]
      have e2 : m = z.natAbs * 2 ^ d := Rat.natCast_inj.1 e1
      rw [e2, Nat.mul_div_cancel _ (Nat.two_pow_pos d)]
      rw [hV, e2, Rat.natCast_mul, ← P2_nat, Rat.mul_assoc, ← P2_add, hi2, show (d : Int) + -(d : Int) = 0 by omega, P2_zero, Rat.mul_one]
  have := int_of_sg hc
  rw [this]
  simp only
  rw [if_pos]
  exact ⟨h1, h2⟩

/-- what is left above the floor -/
theorem frac_bd {x : Nat} (hx : single.fin x) (hl : x < 4294967296) : Bd 0 (subF x (floorF x)) ∧ single.fin (floorF x) := by
  obtain ⟨X, s, m, i, _, _, _, hf, _, z, h1, h2, h3⟩ := floor_spec hx hl
  have hr := (subF_spec hx hf).2
  have := hr.bd (k := 0) (by omega) (by rw [h1]; show _ ≤ P2 0; rw [P2_zero]; grind) (by rw [h1]; show -P2 0 ≤ _; rw [P2_zero]; grind)
  exact ⟨this, hf⟩
theorem frac_zero {x : Nat} {n : Int} (hx : single.fin x) (hl : x < 4294967296) (hn : single.V x = (n : Rat)) : single.V (floorF x) = (n : Rat) ∧ single.V (subF x (floorF x)) = 0 := by
  obtain ⟨X, s, m, i, _, _, _, hf, _, z, h1, h2, h3⟩ := floor_spec hx hl
  rw [hn] at h2 h3
  have a : z ≤ n := Rat.intCast_le_intCast.1 h2
  have b : n < z + 1 := by
    have : (n : Rat) < ((z + 1 : Int) : Rat) := by rw [Rat.intCast_add]; exact h3
    exact Rat.intCast_lt_intCast.1 this
  have : z = n := by omega
  subst this
  refine ⟨h1, ?_⟩
  have hr := (subF_spec hx hf).2
  have := hr.exact 0 0 (by omega) (by omega) (by omega) (by omega) (by rw [hn, h1]; simp; grind)
  rw [this.2.1, hn, h1]; grind
end Format
end Ieee
