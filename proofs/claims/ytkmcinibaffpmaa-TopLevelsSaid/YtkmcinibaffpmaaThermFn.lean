import Derived.Test.YtkmcinibaffpmaaMoved
namespace Go.Proofs.Ytkmcinibaffpmaa
open Go.ChangeShapes Go.WideShapes Go.ChangeAt Go.RowKit
open Ieee.Format (fin finE htE allFin allHt all_true all_false mulF subF addF Ht Bd divF rootF floorF easeF mixF)
set_option linter.unusedVariables false

/-- a block that is known whole -/
def Blk (w : World) (k : Nat) (cs : Array Value) (t : TypeId) : Prop := w.heap[k]? = some (.cells cs t (0, 0))
theorem Blk.lt {w : World} {k : Nat} {cs : Array Value} {t : TypeId} (h : Blk w k cs t) : k < w.heap.size := by
  rcases Nat.lt_or_ge k w.heap.size with hlt | hge
  · exact hlt
  · unfold Blk at h; rw [Array.getElem?_eq_none hge] at h; cases h
theorem Blk.cell {w : World} {k : Nat} {cs : Array Value} {t : TypeId} (h : Blk w k cs t) (i : Nat) : w.cell? ⟨k, i, none⟩ = cs[i]? := cell_of_row w k i _ _ _ h
theorem Blk.frozen {w : World} {k : Nat} {cs : Array Value} {t : TypeId} (h : Blk w k cs t) (i : Nat) : w.frozen? ⟨k, i, none⟩ = false := frozen_of_row w k i _ _ h
theorem Blk.below {w w' : World} {B k : Nat} {cs : Array Value} {t : TypeId} (h : Blk w k cs t) (hb : Below B w w') (hk : k < B) : Blk w' k cs t := (hb.block k hk).trans h
theorem Blk.new (w : World) (cs : Array Value) (t : TypeId) : Blk (w.alloc (.cells cs t)) w.heap.size cs t := heap_alloc_new w _
theorem Blk.alloc {w : World} {k : Nat} {cs : Array Value} {t : TypeId} (h : Blk w k cs t) (o : Obj) : Blk (w.alloc o) k cs t := (Below.heap_alloc w o k h.lt).trans h
theorem Blk.drew {w : World} {k : Nat} {cs : Array Value} {t : TypeId} (h : Blk w k cs t) : Blk w.drew k cs t := h
theorem Blk.drewN {w : World} {k : Nat} {cs : Array Value} {t : TypeId} (h : Blk w k cs t) (n : Nat) : Blk (w.drewN n) k cs t := h
theorem Blk.setCell {w : World} {k : Nat} {cs : Array Value} {t : TypeId} (h : Blk w k cs t) {p : Addr} (hp : k ≠ p.block) (u : Value) : Blk (w.setCell p u) k cs t := (Below.heap_setCell w p u k hp).trans h

/-- the wear's cells -/
abbrev WearAt (w : World) (p : Nat) (T R : Nat) (n : Int) : Prop := Blk w p #[.float .f32 T, .float .f32 R, .int .i64 n] 62
theorem WearAt.cells {w : World} {p T R : Nat} {n : Int} (h : WearAt w p T R n) : w.cell? ⟨p, 0, none⟩ = some (.float .f32 T) ∧ w.cell? ⟨p, 1, none⟩ = some (.float .f32 R) ∧ w.cell? ⟨p, 2, none⟩ = some (.int .i64 n) := ⟨h.cell 0, h.cell 1, h.cell 2⟩

theorem ret_f {x y : Nat} (h : x = y) : Ending.returned (.float .f32 x) = .returned (.float .f32 y) := by rw [h]

set_option maxRecDepth 100000 in
set_option maxHeartbeats 2000000 in
/-- the program's cell of Thermal -/
theorem thermfn_any (K T R n s e w v p : Nat) (st : Int) (W : World) (hW : WearOk T R) (hn : Bd K n) (hs : Bd K s) (he : Bd K e) (hw : Bd K w) (hv : Bd K v) (hk : 20 ≤ K) (hk2 : K ≤ 76) (hp : WearAt W p T R st) :
    Calls Try.prog 121 #[.agg #[.float .f32 n, .float .f32 s, .float .f32 e, .float .f32 w, .float .f32 v], .pointer (some ⟨p, 0, none⟩)] W fun en w' => en = .returned (.float .f32 (thermalF T R n s e w v)) ∧ Below W.heap.size W w' := by
  have KM1 := Lib.hid (fun k w' => moved_any K T R v (pick4 n w e s k) st w' hW hv (pick4_bd hn hw he hs k) hk (by omega))
  have KM2 := Lib.hid (fun k w' => moved_any K T R (pick4 n w e s k) v st w' hW (pick4_bd hn hw he hs k) hv hk (by omega))
  have KA1 := Lib.hid (fun k (h : k < 4) w' => run_float_arith (P := Try.prog) w' .sub 29 .f32 (subT T R v n w e s k) (movedF T R v (pick4 n w e s k)) (subT T R v n w e s (k + 1)) (Ieee.Format.bits_sub (subT_bd hW hn hs he hw hv hk hk2 k (by omega)).1 (moved_bd hW hv (pick4_bd hn hw he hs k) hk (by omega)).2.2.2.1))
  have KA2 := Lib.hid (fun k (h : k < 4) w' => run_float_arith (P := Try.prog) w' .add 29 .f32 (addT T R v n w e s k) (movedF T R (pick4 n w e s k) v) (addT T R v n w e s (k + 1)) (Ieee.Format.bits_add (addT_bd hW hn hs he hw hv hk hk2 k (by omega)).1 (moved_bd hW (pick4_bd hn hw he hs k) hv hk (by omega)).2.2.2.1))
  have HP := Lib.hid (hp.alloc (.cells #[.float .f32 n, .float .f32 s, .float .f32 e, .float .f32 w, .float .f32 v] 172))
  have B0 : Below W.heap.size W (W.alloc (.cells #[.float .f32 n, .float .f32 s, .float .f32 e, .float .f32 w, .float .f32 v] 172)) := (by repeat (first | with_reducible exact Below.refl _ _ | with_reducible apply Below.drew | with_reducible refine below_drewN ?_ _ | (with_reducible refine Below.setCell ?_ ?_ _; rotate_left; focus (first | omega | (simp <;> omega))) | (with_reducible refine Below.alloc ?_ ?_ _; rotate_left; focus (first | omega | (simp <;> omega)))))
  have HB0 := Lib.hid B0
  have hNb := Blk.new W #[.float .f32 n, .float .f32 s, .float .f32 e, .float .f32 w, .float .f32 v] 172
  have HN := Lib.hid hNb
  have HZ : Hid (thermalF T R n s e w v = addT T R v n w e s 4) := rfl
  have HS4 : Hid (addT T R v n w e s 0 = subT T R v n w e s 4) := rfl
  have HS0 : Hid (subT T R v n w e s 0 = v) := rfl
  generalize thermalF T R n s e w v = z at *
  have idx0 : ∀ w', (Instr.index 173 (.agg #[.float .f32 n, .float .f32 w, .float .f32 e, .float .f32 s]) (.int .i64 0)).run Try.prog w' = .ok (.float .f32 n) w' := fun _ => by kernel_rfl
  have idx1 : ∀ w', (Instr.index 173 (.agg #[.float .f32 n, .float .f32 w, .float .f32 e, .float .f32 s]) (.int .i64 1)).run Try.prog w' = .ok (.float .f32 w) w' := fun _ => by kernel_rfl
  have idx2 : ∀ w', (Instr.index 173 (.agg #[.float .f32 n, .float .f32 w, .float .f32 e, .float .f32 s]) (.int .i64 2)).run Try.prog w' = .ok (.float .f32 e) w' := fun _ => by kernel_rfl
  have idx3 : ∀ w', (Instr.index 173 (.agg #[.float .f32 n, .float .f32 w, .float .f32 e, .float .f32 s]) (.int .i64 3)).run Try.prog w' = .ok (.float .f32 s) w' := fun _ => by kernel_rfl
  clear hn hs he hw hv hW hp B0 hNb
  go_enter Try.func121, Try.ntmps121
  go_wp2_with fail
  have HQ : Hid (subT T R v n w e s 0 = v) := rfl
  generalize W.alloc (.cells #[.float .f32 n, .float .f32 s, .float .f32 e, .float .f32 w, .float .f32 v] 172) = W0 at *
  go_loopw [4, 20] (fun acc i wr => ∃ k : Nat, k ≤ 4 ∧ i = .int .i64 k ∧ acc = .float .f32 (subT T R v n w e s k) ∧ Below W.heap.size W wr ∧ WearAt wr p T R st ∧ Blk wr W.heap.size #[.float .f32 n, .float .f32 s, .float .f32 e, .float .f32 w, .float .f32 v] 172) (fun _ i _ => 4 - (intOf i).toNat)
  case atStart => exact ⟨0, by omega, rfl, by rw [HQ.out], HB0.out, HP.out, HN.out⟩
  case round =>
    clear HP HN HB0
    obtain ⟨k, hk4, rfl, rfl, hB, hP, hN⟩ := hrel
    obtain ⟨p0, p1, p2⟩ := hP.cells
    obtain ⟨n0, n1, n2, n3, n4⟩ := Nb5.cells hN
    have HB := Lib.hid hB
    have HP := Lib.hid hP
    have HN := Lib.hid hN
    clear hB hP hN
    by_cases hlt : k < 4
    · have KM := Lib.hid (KM1.out k)
      have KA := KA1.out k hlt
      have hidx : ∀ w', (Instr.index 173 (.agg #[.float .f32 n, .float .f32 w, .float .f32 e, .float .f32 s]) (.int .i64 (k : Int))).run Try.prog w' = .ok (.float .f32 (pick4 n w e s k)) w' := by
        match k, hlt with
        | 0, _ => exact idx0
        | 1, _ => exact idx1
        | 2, _ => exact idx2
        | 3, _ => exact idx3
      generalize pick4 n w e s k = o at *
      go_wp2_with fail
      refine (KM.out _).mono ?_
      rintro en w2 ⟨rfl, b2⟩
      have P2 := HP.out.below b2 HP.out.lt
      have N2 := HN.out.below b2 HN.out.lt
      have B2 := HB.out.trans (b2.mono HB.out.size)
      have HP2 := Lib.hid P2
      have HN2 := Lib.hid N2
      have HB2 := Lib.hid B2
      clear P2 N2 B2 b2
      go_wp2_with fail
      go_roundw
      case rel => exact ⟨k + 1, by omega, by go_num, rfl, HB2.out, HP2.out, HN2.out⟩
      case measure => simp [intOf]; omega
    · obtain rfl : k = 4 := by omega
      clear KM1 KA1
      generalize hq4 : subT T R v n w e s 4 = q4 at *
      have HQ4 := Lib.hid hq4
      clear hq4 hlt hk4
      go_wp2_with fail
      go_loopw [4, 40] (fun acc i wr => ∃ k : Nat, k ≤ 4 ∧ i = .int .i64 k ∧ acc = .float .f32 (addT T R v n w e s k) ∧ Below W.heap.size W wr ∧ WearAt wr p T R st ∧ Blk wr W.heap.size #[.float .f32 n, .float .f32 s, .float .f32 e, .float .f32 w, .float .f32 v] 172) (fun _ i _ => 4 - (intOf i).toNat)
      case atStart => exact ⟨0, by omega, rfl, by rw [HS4.out], HB.out, HP.out, HN.out⟩
      case round =>
        clear HP HN HB p0 p1 p2 n0 n1 n2 n3 n4
        obtain ⟨k, hk4, rfl, rfl, hB, hP, hN⟩ := hrel
        obtain ⟨p0, p1, p2⟩ := hP.cells
        obtain ⟨n0, n1, n2, n3, n4⟩ := Nb5.cells hN
        have HB := Lib.hid hB
        have HP := Lib.hid hP
        have HN := Lib.hid hN
        clear hB hP hN
        by_cases hlt : k < 4
        · have KM := Lib.hid (KM2.out k)
          have KA := KA2.out k hlt
          have hidx : ∀ w', (Instr.index 173 (.agg #[.float .f32 n, .float .f32 w, .float .f32 e, .float .f32 s]) (.int .i64 (k : Int))).run Try.prog w' = .ok (.float .f32 (pick4 n w e s k)) w' := by
            match k, hlt with
            | 0, _ => exact idx0
            | 1, _ => exact idx1
            | 2, _ => exact idx2
            | 3, _ => exact idx3
          generalize pick4 n w e s k = o at *
          go_wp2_with fail
          refine (KM.out _).mono ?_
          rintro en w2 ⟨rfl, b2⟩
          have P2 := HP.out.below b2 HP.out.lt
          have N2 := HN.out.below b2 HN.out.lt
          have B2 := HB.out.trans (b2.mono HB.out.size)
          have HP2 := Lib.hid P2
          have HN2 := Lib.hid N2
          have HB2 := Lib.hid B2
          clear P2 N2 B2 b2
          go_wp2_with fail
          go_roundw
          case rel => first | exact ⟨k + 1, by omega, by go_num, rfl, HB2.out, HP2.out, HN2.out⟩ | ((repeat apply Exists.intro); exact ⟨⟨k + 1, by omega, by go_num, rfl, HB2.out, HP2.out, HN2.out⟩, rfl⟩)
          case measure => simp [intOf]; omega
        · obtain rfl : k = 4 := by omega
          go_wp2_with fail
          go_ret
          exact ⟨ret_f HZ.out.symm, HB.out⟩

/-- a list of four -/
def row4 (n w e s : Nat) : List Nat := [n, w, e, s]
theorem row4_at (W : World) (g n w e s : Nat) (t : TypeId) (h : Blk W g #[.float .f32 n, .float .f32 w, .float .f32 e, .float .f32 s] t) (k : Nat) (hk : k < 4) : W.cell? ⟨g, k, none⟩ = some (.float .f32 (pick4 n w e s k)) := by
  rw [h.cell k]
  match k, hk with
  | 0, _ => rfl
  | 1, _ => rfl
  | 2, _ => rfl
  | 3, _ => rfl

end Go.Proofs.Ytkmcinibaffpmaa
