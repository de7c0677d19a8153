import Derived.Test.YtgeeaegnohdejaaStream
import Derived.ChangeSlices
namespace Go.Proofs.Ytgeeaegnohdejaa
open Go.ChangeShapes Go.WideShapes Go.ChangeAt Go.RowKit
open Ieee.Format (fin unitF signedF mulF subF addF)
set_option linter.unusedVariables false

/-- a slice of int that came in: nil, or a row; 'zs' are its numbers up to the capacity -/
def IsInts (w : World) (a : Option Addr) (len cap : Nat) : Prop :=
  (a = none ∧ len = 0 ∧ cap = 0) ∨
  ∃ (x : Addr) (zs : List Int), a = some x ∧ len ≤ cap ∧ cap ≤ 9223372036854775807 ∧ (0 < cap → ∃ b o, x = ⟨b, o, none⟩ ∧ b < w.heap.size ∧ ∀ i, i < cap → w.cell? ⟨b, o + i, none⟩ = some (.int .i64 (zs.getD i 0)) ∧ -9223372036854775808 ≤ zs.getD i 0 ∧ zs.getD i 0 ≤ 9223372036854775807)

theorem Strm.only {w w' : World} {b c : Nat} {s : Int} (h : Strm w b s) (ho : OnlyAt c w w') (hc : b ≠ c) : Strm w' b s := by
  obtain ⟨h1, h2, h3, h4, h5⟩ := h
  exact ⟨by rw [ho.cell (p := ⟨b, 0, none⟩) hc]; exact h1, by rw [ho.frozen (p := ⟨b, 0, none⟩) hc]; exact h2, h3, h4, by rw [ho.size]; exact h5⟩
theorem Strm.below {w w' : World} {b B : Nat} {s : Int} (h : Strm w b s) (ho : Below B w w') (hc : b < B) : Strm w' b s := by
  obtain ⟨h1, h2, h3, h4, h5⟩ := h
  exact ⟨by rw [ho.cell (p := ⟨b, 0, none⟩) hc]; exact h1, by rw [ho.frozen (p := ⟨b, 0, none⟩) hc]; exact h2, h3, h4, Nat.lt_of_lt_of_le h5 ho.size⟩

def Both (W w : World) (b1 b2 : Nat) : Prop := ∃ s, Strm w b1 s ∧ Strm w b2 s ∧ Below W.heap.size W w

set_option maxRecDepth 100000 in
set_option maxHeartbeats 4000000 in
theorem streams_some (h x y : Int) (b o len cap : Nat) (zs : List Int) (w : World) (hlen : 0 < len) (hcap : len ≤ cap) (hm : cap ≤ 9223372036854775807) (hb : b < w.heap.size)
    (hc : ∀ i, i < len → w.cell? ⟨b, o + i, none⟩ = some (.int .i64 (zs.getD i 0)) ∧ -9223372036854775808 ≤ zs.getD i 0 ∧ zs.getD i 0 ≤ 9223372036854775807) :
    Calls Try.prog 5 #[.int .u32 h, .int .i64 x, .int .i64 y, .slice (some ⟨b, o, none⟩) len cap] w fun e w' => e = .returned (.bool true) ∧ Below w.heap.size w w' := by
  have HC := Lib.hid hc
  clear hc
  have N1 := Lib.hid (fun w => newstream1 h x y w)
  have N2 := Lib.hid (fun w => newstream2 h x y w)
  generalize st0 (hashTo h x y 10 3) = s0 at *
  obtain ⟨m, hm1, hm2, hm3⟩ : ∃ m : Nat, ((50 < len ∧ m = 50) ∨ (len ≤ 50 ∧ m = len)) ∧ m ≤ len ∧ m ≤ 50 := by
    by_cases c : 50 < len
    · exact ⟨50, .inl ⟨c, rfl⟩, by omega, by omega⟩
    · exact ⟨len, .inr ⟨by omega, rfl⟩, by omega, by omega⟩
  go_enter Try.func5, Try.ntmps5
  go_wp2_with fail
  refine (landed_bel _).mono ?_
  rintro e w1 ⟨rfl, B1⟩
  go_wp2_with fail
  refine (N1.out _).mono ?_
  rintro e w2 ⟨b1, rfl, S1, l1, B2⟩
  have B2' : Below w.heap.size w w2 := B1.trans (B2.mono B1.size)
  have l1' : w.heap.size ≤ b1 := Nat.le_trans B1.size l1
  clear B1 B2 l1
  go_wp2_with fail
  refine (N2.out _).mono ?_
  rintro e w3 ⟨b2, rfl, S2, l2, B3⟩
  have S1' := S1.below B3 S1.2.2.2.2
  have ne : b1 ≠ b2 := by have := S1.2.2.2.2; omega
  have l2' : w.heap.size ≤ b2 := Nat.le_trans B2'.size l2
  have B3' : Below w.heap.size w w3 := B2'.trans (B3.mono B2'.size)
  clear S1 B3 l2 B2'
  have BT : Both w w3 b1 b2 := ⟨s0, S1', S2, B3'⟩
  clear S1' S2 B3'
  rcases hm1 with ⟨hlt, rfl⟩ | ⟨hle, rfl⟩
  · go_wp2_with fail
    go_loopw [34] (fun i wr => ∃ k : Nat, k ≤ 50 ∧ i = .int .i64 k ∧ Both w wr b1 b2) (fun i _ => 50 - (intOf i).toNat)
    case atStart => exact ⟨0, by omega, rfl, BT⟩
    case round =>
      clear BT
      obtain ⟨k, hk, rfl, s, S1, S2, BB⟩ := hrel
      by_cases hlt : k < 50
      · obtain ⟨hcell, nb0, nb1⟩ := HC.out k (by omega)
        have hcell' : wr.cell? ⟨b, o + k, none⟩ = some (.int .i64 (zs.getD k 0)) := by rw [BB.cell (p := ⟨b, o + k, none⟩) hb]; exact hcell
        clear hcell
        generalize zs.getD k 0 = n at *
        rcases (show k % 3 = 0 ∨ k % 3 = 1 ∨ k % 3 = 2 by omega) with hr | hr | hr
        · have r0 : ((k : Int) % 3 == 0) = true := by rw [beq_iff_eq]; omega
          clear hr
          go_wp2_with fail
          refine (next1 b1 s _ S1.1 S1.2.1 S1.2.2.1 S1.2.2.2.1).mono ?_
          rintro e w4 ⟨rfl, c4, f4, o4⟩
          have T1 : Strm w4 b1 (nx s) := ⟨c4, f4, (nx_bounds s).1, (nx_bounds s).2, by rw [o4.size]; exact S1.2.2.2.2⟩
          have T2 : Strm w4 b2 s := S2.only o4 (Ne.symm ne)
          clear c4 f4 S1 S2
          go_wp2_with fail
          refine (next2 b2 s _ T2.1 T2.2.1 T2.2.2.1 T2.2.2.2.1).mono ?_
          rintro e w5 ⟨rfl, c5, f5, o5⟩
          have U2 : Strm w5 b2 (nx s) := ⟨c5, f5, (nx_bounds s).1, (nx_bounds s).2, by rw [o5.size]; exact T2.2.2.2.2⟩
          have U1 : Strm w5 b1 (nx s) := T1.only o5 ne
          have BT : Both w w5 b1 b2 := ⟨nx s, U1, U2, (BB.trans (o4.below l1')).trans (o5.below l2')⟩
          clear c5 f5 T1 T2 U1 U2 BB o4 o5
          go_wp2
          go_roundw
          case rel => exact ⟨k + 1, by omega, by go_num, BT⟩
          case measure => simp [intOf]; omega
        · have r0 : ((k : Int) % 3 == 0) = false := by rw [beq_eq_false_iff_ne]; omega
          have r1 : ((k : Int) % 3 == 1) = true := by rw [beq_iff_eq]; omega
          clear hr
          by_cases hn : 1 ≤ n ∧ n ≤ 2147483647
          · obtain ⟨n0, n1⟩ := hn
            obtain ⟨q0, q1⟩ := nx_bounds s
            have MB := Lib.hid (prod_bounds q0 q1 n0 n1)
            have QB := Lib.hid (And.intro q0 q1)
            clear q0 q1
            go_wp2_with fail
            refine (below_in b1 s n _ S1 n0 n1).mono ?_
            rintro e w4 ⟨rfl, T1, o4⟩
            have T2 : Strm w4 b2 s := S2.only o4 (Ne.symm ne)
            clear S1 S2
            go_wp2_with fail
            refine (next2 b2 s _ T2.1 T2.2.1 T2.2.2.1 T2.2.2.2.1).mono ?_
            rintro e w5 ⟨rfl, c5, f5, o5⟩
            have U2 : Strm w5 b2 (nx s) := ⟨c5, f5, (nx_bounds s).1, (nx_bounds s).2, by rw [o5.size]; exact T2.2.2.2.2⟩
            have U1 : Strm w5 b1 (nx s) := T1.only o5 ne
            have BT : Both w w5 b1 b2 := ⟨nx s, U1, U2, (BB.trans (o4.below l1')).trans (o5.below l2')⟩
            clear c5 f5 T1 T2 U1 U2 BB o4 o5
            generalize nx s = x1 at *
            obtain ⟨m0, m1, m2, m3⟩ := MB.out
            obtain ⟨q0, q1⟩ := QB.out
            go_wp2
            go_roundw
            case rel => exact ⟨k + 1, by omega, by go_num, BT⟩
            case measure => simp [intOf]; omega
          · have BT : Both w wr b1 b2 := ⟨s, S1, S2, BB⟩
            clear S1 S2 BB
            rcases (show n < 1 ∨ 2147483647 < n by omega) with hn' | hn'
            all_goals
              clear hn
              have KB := Lib.hid (fun w => below_out b1 n w (by omega))
              go_wp2_with (go_at_call 36; refine (KB.out _).mono ?_; rintro e w4 ⟨rfl, rfl⟩)
              go_roundw
              case rel => exact ⟨k + 1, by omega, by go_num, BT⟩
              case measure => simp [intOf]; omega
        · have r0 : ((k : Int) % 3 == 0) = false := by rw [beq_eq_false_iff_ne]; omega
          have r1 : ((k : Int) % 3 == 1) = false := by rw [beq_eq_false_iff_ne]; omega
          clear hr
          go_wp2_with fail
          refine (stream_unit b1 s _ S1).mono ?_
          rintro e w4 ⟨rfl, T1, o4⟩
          have T2 : Strm w4 b2 s := S2.only o4 (Ne.symm ne)
          clear S1 S2
          go_wp2_with fail
          refine (next2 b2 s _ T2.1 T2.2.1 T2.2.2.1 T2.2.2.2.1).mono ?_
          rintro e w5 ⟨rfl, c5, f5, o5⟩
          have U2 : Strm w5 b2 (nx s) := ⟨c5, f5, (nx_bounds s).1, (nx_bounds s).2, by rw [o5.size]; exact T2.2.2.2.2⟩
          have U1 : Strm w5 b1 (nx s) := T1.only o5 ne
          have BT : Both w w5 b1 b2 := ⟨nx s, U1, U2, (BB.trans (o4.below l1')).trans (o5.below l2')⟩
          clear c5 f5 T1 T2 U1 U2 BB o4 o5
          go_wp2_with fail
          refine (refunit_any (nx s) _ (nx_bounds s).1 (nx_bounds s).2).mono ?_
          rintro e w6 ⟨rfl, rfl⟩
          go_wp2_with fail
          refine (bits_any _ _ _).mono ?_
          rintro e w6 ⟨rfl, rfl⟩
          go_wp2
          go_roundw
          case rel => exact ⟨k + 1, by omega, by go_num, BT⟩
          case measure => simp [intOf]; omega
      · go_wp2
        go_ret
        exact ⟨rfl, BB⟩
  · go_wp2_with fail
    go_loopw [34] (fun i wr => ∃ k : Nat, k ≤ m ∧ i = .int .i64 k ∧ Both w wr b1 b2) (fun i _ => m - (intOf i).toNat)
    case atStart => exact ⟨0, by omega, rfl, BT⟩
    case round =>
      clear BT
      obtain ⟨k, hk, rfl, s, S1, S2, BB⟩ := hrel
      by_cases hlt : k < m
      · obtain ⟨hcell, nb0, nb1⟩ := HC.out k (by omega)
        have hcell' : wr.cell? ⟨b, o + k, none⟩ = some (.int .i64 (zs.getD k 0)) := by rw [BB.cell (p := ⟨b, o + k, none⟩) hb]; exact hcell
        clear hcell
        generalize zs.getD k 0 = n at *
        rcases (show k % 3 = 0 ∨ k % 3 = 1 ∨ k % 3 = 2 by omega) with hr | hr | hr
        · have r0 : ((k : Int) % 3 == 0) = true := by rw [beq_iff_eq]; omega
          clear hr
          go_wp2_with fail
          refine (next1 b1 s _ S1.1 S1.2.1 S1.2.2.1 S1.2.2.2.1).mono ?_
          rintro e w4 ⟨rfl, c4, f4, o4⟩
          have T1 : Strm w4 b1 (nx s) := ⟨c4, f4, (nx_bounds s).1, (nx_bounds s).2, by rw [o4.size]; exact S1.2.2.2.2⟩
          have T2 : Strm w4 b2 s := S2.only o4 (Ne.symm ne)
          clear c4 f4 S1 S2
          go_wp2_with fail
          refine (next2 b2 s _ T2.1 T2.2.1 T2.2.2.1 T2.2.2.2.1).mono ?_
          rintro e w5 ⟨rfl, c5, f5, o5⟩
          have U2 : Strm w5 b2 (nx s) := ⟨c5, f5, (nx_bounds s).1, (nx_bounds s).2, by rw [o5.size]; exact T2.2.2.2.2⟩
          have U1 : Strm w5 b1 (nx s) := T1.only o5 ne
          have BT : Both w w5 b1 b2 := ⟨nx s, U1, U2, (BB.trans (o4.below l1')).trans (o5.below l2')⟩
          clear c5 f5 T1 T2 U1 U2 BB o4 o5
          go_wp2
          go_roundw
          case rel => exact ⟨k + 1, by omega, by go_num, BT⟩
          case measure => simp [intOf]; omega
        · have r0 : ((k : Int) % 3 == 0) = false := by rw [beq_eq_false_iff_ne]; omega
          have r1 : ((k : Int) % 3 == 1) = true := by rw [beq_iff_eq]; omega
          clear hr
          by_cases hn : 1 ≤ n ∧ n ≤ 2147483647
          · obtain ⟨n0, n1⟩ := hn
            obtain ⟨q0, q1⟩ := nx_bounds s
            have MB := Lib.hid (prod_bounds q0 q1 n0 n1)
            have QB := Lib.hid (And.intro q0 q1)
            clear q0 q1
            go_wp2_with fail
            refine (below_in b1 s n _ S1 n0 n1).mono ?_
            rintro e w4 ⟨rfl, T1, o4⟩
            have T2 : Strm w4 b2 s := S2.only o4 (Ne.symm ne)
            clear S1 S2
            go_wp2_with fail
            refine (next2 b2 s _ T2.1 T2.2.1 T2.2.2.1 T2.2.2.2.1).mono ?_
            rintro e w5 ⟨rfl, c5, f5, o5⟩
            have U2 : Strm w5 b2 (nx s) := ⟨c5, f5, (nx_bounds s).1, (nx_bounds s).2, by rw [o5.size]; exact T2.2.2.2.2⟩
            have U1 : Strm w5 b1 (nx s) := T1.only o5 ne
            have BT : Both w w5 b1 b2 := ⟨nx s, U1, U2, (BB.trans (o4.below l1')).trans (o5.below l2')⟩
            clear c5 f5 T1 T2 U1 U2 BB o4 o5
            generalize nx s = x1 at *
            obtain ⟨m0, m1, m2, m3⟩ := MB.out
            obtain ⟨q0, q1⟩ := QB.out
            go_wp2
            go_roundw
            case rel => exact ⟨k + 1, by omega, by go_num, BT⟩
            case measure => simp [intOf]; omega
          · have BT : Both w wr b1 b2 := ⟨s, S1, S2, BB⟩
            clear S1 S2 BB
            rcases (show n < 1 ∨ 2147483647 < n by omega) with hn' | hn'
            all_goals
              clear hn
              have KB := Lib.hid (fun w => below_out b1 n w (by omega))
              go_wp2_with (go_at_call 36; refine (KB.out _).mono ?_; rintro e w4 ⟨rfl, rfl⟩)
              go_roundw
              case rel => exact ⟨k + 1, by omega, by go_num, BT⟩
              case measure => simp [intOf]; omega
        · have r0 : ((k : Int) % 3 == 0) = false := by rw [beq_eq_false_iff_ne]; omega
          have r1 : ((k : Int) % 3 == 1) = false := by rw [beq_eq_false_iff_ne]; omega
          clear hr
          go_wp2_with fail
          refine (stream_unit b1 s _ S1).mono ?_
          rintro e w4 ⟨rfl, T1, o4⟩
          have T2 : Strm w4 b2 s := S2.only o4 (Ne.symm ne)
          clear S1 S2
          go_wp2_with fail
          refine (next2 b2 s _ T2.1 T2.2.1 T2.2.2.1 T2.2.2.2.1).mono ?_
          rintro e w5 ⟨rfl, c5, f5, o5⟩
          have U2 : Strm w5 b2 (nx s) := ⟨c5, f5, (nx_bounds s).1, (nx_bounds s).2, by rw [o5.size]; exact T2.2.2.2.2⟩
          have U1 : Strm w5 b1 (nx s) := T1.only o5 ne
          have BT : Both w w5 b1 b2 := ⟨nx s, U1, U2, (BB.trans (o4.below l1')).trans (o5.below l2')⟩
          clear c5 f5 T1 T2 U1 U2 BB o4 o5
          go_wp2_with fail
          refine (refunit_any (nx s) _ (nx_bounds s).1 (nx_bounds s).2).mono ?_
          rintro e w6 ⟨rfl, rfl⟩
          go_wp2_with fail
          refine (bits_any _ _ _).mono ?_
          rintro e w6 ⟨rfl, rfl⟩
          go_wp2
          go_roundw
          case rel => exact ⟨k + 1, by omega, by go_num, BT⟩
          case measure => simp [intOf]; omega
      · go_wp2
        go_ret
        exact ⟨rfl, BB⟩

theorem streams_none (h x y : Int) (a : Option Addr) (cap : Nat) (w : World) (ha : a = none → cap = 0) (hm : cap ≤ 9223372036854775807) :
    Calls Try.prog 5 #[.int .u32 h, .int .i64 x, .int .i64 y, .slice a 0 cap] w fun e w' => e = .returned (.bool true) ∧ Below w.heap.size w w' := by
  have N1 := Lib.hid (fun w => newstream1 h x y w)
  have N2 := Lib.hid (fun w => newstream2 h x y w)
  generalize st0 (hashTo h x y 10 3) = s0 at *
  have key : ∀ a' : Option Addr, a' = a → Calls Try.prog 5 #[.int .u32 h, .int .i64 x, .int .i64 y, .slice a' 0 cap] w fun e w' => e = .returned (.bool true) ∧ Below w.heap.size w w' := by
    intro a' ha'
    cases a' with
    | none =>
      obtain rfl := ha ha'.symm
      clear ha ha' a
      go_enter Try.func5, Try.ntmps5
      go_wp2_with fail
      refine (landed_bel _).mono ?_
      rintro e w1 ⟨rfl, B1⟩
      go_wp2_with fail
      refine (N1.out _).mono ?_
      rintro e w2 ⟨b1, rfl, S1, l1, B2⟩
      go_wp2_with fail
      refine (N2.out _).mono ?_
      rintro e w3 ⟨b2, rfl, S2, l2, B3⟩
      have B3' : Below w.heap.size w w3 := (B1.trans (B2.mono B1.size)).trans (B3.mono (Nat.le_trans B1.size B2.size))
      clear S1 S2 l1 l2 B1 B2 B3
      go_wp2_with fail
      refine wp_loop_rounds 1 ?_
      rw [rounds_succ]
      go_wp2
      go_ret
      exact ⟨rfl, B3'⟩
    | some p =>
      clear ha ha' a
      go_enter Try.func5, Try.ntmps5
      go_wp2_with fail
      refine (landed_bel _).mono ?_
      rintro e w1 ⟨rfl, B1⟩
      go_wp2_with fail
      refine (N1.out _).mono ?_
      rintro e w2 ⟨b1, rfl, S1, l1, B2⟩
      go_wp2_with fail
      refine (N2.out _).mono ?_
      rintro e w3 ⟨b2, rfl, S2, l2, B3⟩
      have B3' : Below w.heap.size w w3 := (B1.trans (B2.mono B1.size)).trans (B3.mono (Nat.le_trans B1.size B2.size))
      clear S1 S2 l1 l2 B1 B2 B3
      go_wp2_with fail
      refine wp_loop_rounds 1 ?_
      rw [rounds_succ]
      go_wp2
      go_ret
      exact ⟨rfl, B3'⟩
  exact key a rfl

theorem streams_law (h x y : Int) (a : Option Addr) (len cap : Nat) (w : World) (hr : IsInts w a len cap) :
    Calls Try.prog 5 #[.int .u32 h, .int .i64 x, .int .i64 y, .slice a len cap] w fun e w' => e = .returned (.bool true) ∧ Below w.heap.size w w' := by
  rcases hr with ⟨rfl, rfl, rfl⟩ | ⟨p, zs, rfl, hlc, hm, hc⟩
  · exact streams_none h x y none 0 w (fun _ => rfl) (by omega)
  · by_cases h0 : len = 0
    · subst h0; exact streams_none h x y (some p) cap w (fun h => by cases h) hm
    · obtain ⟨b, o, rfl, hb, hcells⟩ := hc (by omega)
      exact streams_some h x y b o len cap zs w (by omega) hlc hm hb (fun i hi => hcells i (by omega))

/-- how such an argument is opened -/
theorem isInts_of {H : Type} {enc : TypeId × Value → H} {a : Option Addr} {len cap : Nat} {d : DataW H} {p : List MemPlace} {W : World}
    (hd : DataW.Trod enc Try.prog W 0 (fun _ => true) true /-T-/40 (.slice a len cap) d p) (hlt : ∀ x ∈ p, x.block < W.heap.size) : IsInts W a len cap := by
  obtain ⟨fuel, hf⟩ := hd
  rcases open_ints Try.underlying40 Try.underlying3 (by kernel_rfl) hf with ⟨hcs, _⟩ | ⟨x, l, c, zs, hcs, _, hl, hm, hz, hx, hcell, hwz⟩
  · simp [Value.cells] at hcs
    obtain ⟨rfl, rfl, rfl⟩ := hcs
    exact Or.inl ⟨rfl, rfl, rfl⟩
  · simp [Value.cells] at hcs
    obtain ⟨rfl, rfl, rfl⟩ := hcs
    unfold maxLen at hm
    refine Or.inr ⟨x, zs, rfl, hl, hm, fun hcap => ?_⟩
    obtain ⟨b, off, rfl, hc⟩ := ints_at hcell (by simp at hz; omega)
    refine ⟨b, off, rfl, ?_, fun i hi => ?_⟩
    · have := hc 0 (by simp at hz; omega)
      exact World.block_lt_of_cell? W _ this
    · have hi' : i < zs.length := by simp at hz; omega
      refine ⟨hc i hi', ?_⟩
      have := hwz (zs.getD i 0) (by rw [List.getD_eq_getElem?_getD, List.getElem?_eq_getElem hi']; exact List.getElem_mem hi')
      have := bounds_i64 this
      omega
end Go.Proofs.Ytgeeaegnohdejaa
