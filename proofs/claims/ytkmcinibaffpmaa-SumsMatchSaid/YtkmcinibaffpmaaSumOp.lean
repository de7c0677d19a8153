import Derived.Test.YtkmcinibaffpmaaSumFn
import Derived.Test.YtkmcinibaffpmaaThermLaw
import Derived.BigQuiet
import Derived.Deep.QuietTactic
namespace Go.Proofs.Ytkmcinibaffpmaa
open Go.ChangeShapes Go.WideShapes Go.ChangeAt Go.RowKit
open Ieee.Format (fin finE htE allFin allHt all_true all_false mulF subF addF Ht Bd divF rootF floorF easeF mixF)
set_option linter.unusedVariables false
open Ieee.Format (rowsF rowsF_one rowsF_snoc rows_ok pairsF pairs_one pairs_ok keptStep keptF keptF_snoc kept_ok kept_off Kept KeptFin kept_fin Hn Off bits_add bits_sub addF_lt subF_lt)

/-- the sum of a field, however it is made -/
def sumF (k : Nat) (how : Int) (l : List Nat) : Nat := if how = 1 then rowsF l else if how = 2 then pairsF k l else if how = 3 then (keptF l).1 else 0
def sumC (how : Int) : Int := if how = 1 then 0 else if how = 2 then 0 else if how = 3 then 0 else 1
set_option maxRecDepth 100000 in
set_option maxHeartbeats 1000000 in
theorem sum_any (X Y : Int) (Wn Hn : Nat) (b o c : Nat) (l : List Nat) (how : Int) (w : World) (hl : SRow w (some ⟨b, o, none⟩) l) (hr : Right X Y Wn Hn l) (hc : l.length ≤ c) (h2 : l.length ≤ 256) (k : Nat) (hk : k ≤ 200) (hk2 : l.length ≤ 2 ^ k) :
    Calls Try.prog 15 #[fldV X Y Wn Hn (some ⟨b, o, none⟩) l.length c, .int .i64 how] w fun e w' => e = .returned (.tuple #[.float .f32 (sumF k how l), .int .i64 (sumC how)]) ∧ Below w.heap.size w w' := by
  have K := Lib.hid (fun w h => check_field X Y Wn Hn (some ⟨b, o, none⟩) c l w h)
  rw [hr.chk] at K
  have HL := Lib.hid hl
  have h1 : 1 ≤ l.length := by
    have := Nat.mul_le_mul hr.h1 hr.w1
    rw [← hr.len] at this
    omega
  have hh : ∀ x ∈ l, Ht x := hr.ht
  by_cases e1 : how = 1
  · have KF := Lib.hid (fun w hl => sumrows_any b o c l w hl hh h1 h2 hc)
    have q1 : sumF k how l = rowsF l := by unfold sumF; rw [if_pos e1]
    have q2 : sumC how = 0 := by unfold sumC; rw [if_pos e1]
    rw [q1, q2]
    clear q1 q2 hr hh hl h1 h2 hc
    subst e1
    go_enter Try.func15, Try.ntmps15
    go_wp2_with fail
    generalize hW0 : w.alloc (.cells #[.int .i64 X, .int .i64 Y, .int .i64 Wn, .int .i64 Hn, .slice (some ⟨b, o, none⟩) l.length c] 26) = W0 at *
    have E0 : Fld W0 w.heap.size X Y Wn Hn (.slice (some ⟨b, o, none⟩) l.length c) := by subst hW0; exact Fld.new _ _ _ _ _ _
    have B0 : Below w.heap.size w W0 := by subst hW0; exact (by repeat (first | with_reducible exact Below.refl _ _ | with_reducible apply Below.drew | with_reducible refine below_drewN ?_ _ | (with_reducible refine Below.setCell ?_ ?_ _; rotate_left; focus (first | omega | (simp <;> omega))) | (with_reducible refine Below.alloc ?_ ?_ _; rotate_left; focus (first | omega | (simp <;> omega)))))
    clear hW0
    refine (K.out _ (HL.out.below B0)).mono ?_
    rintro e w1 ⟨rfl, b1⟩
    have E1 := E0.below b1 E0.lt
    have HL1 := Lib.hid ((HL.out.below B0).below b1)
    have B1 := Lib.hid (B0.trans (b1.mono B0.size))
    clear b1 B0 E0 K HL
    obtain ⟨c0, c1, c2, c3, c4⟩ := E1.cells
    have l1 := E1.lt
    clear E1
    go_wp2_with fail
    refine (KF.out _ HL1.out).mono ?_
    rintro e w2 ⟨rfl, rfl⟩
    go_wp2_with fail
    go_ret2
    exact ⟨rfl, B1.out⟩
  · by_cases e2 : how = 2
    · have KF := Lib.hid (fun w hl => sumpairs_any k hk b o c l w hl hh h1 hk2 (by omega) hc)
      have q1 : sumF k how l = pairsF k l := by unfold sumF; rw [if_neg e1, if_pos e2]
      have q2 : sumC how = 0 := by unfold sumC; rw [if_neg e1, if_pos e2]
      rw [q1, q2]
      clear q1 q2 hr hh hl h1 h2 hc e1
      subst e2
      go_enter Try.func15, Try.ntmps15
      go_wp2_with fail
      generalize hW0 : w.alloc (.cells #[.int .i64 X, .int .i64 Y, .int .i64 Wn, .int .i64 Hn, .slice (some ⟨b, o, none⟩) l.length c] 26) = W0 at *
      have E0 : Fld W0 w.heap.size X Y Wn Hn (.slice (some ⟨b, o, none⟩) l.length c) := by subst hW0; exact Fld.new _ _ _ _ _ _
      have B0 : Below w.heap.size w W0 := by subst hW0; exact (by repeat (first | with_reducible exact Below.refl _ _ | with_reducible apply Below.drew | with_reducible refine below_drewN ?_ _ | (with_reducible refine Below.setCell ?_ ?_ _; rotate_left; focus (first | omega | (simp <;> omega))) | (with_reducible refine Below.alloc ?_ ?_ _; rotate_left; focus (first | omega | (simp <;> omega)))))
      clear hW0
      refine (K.out _ (HL.out.below B0)).mono ?_
      rintro e w1 ⟨rfl, b1⟩
      have E1 := E0.below b1 E0.lt
      have HL1 := Lib.hid ((HL.out.below B0).below b1)
      have B1 := Lib.hid (B0.trans (b1.mono B0.size))
      clear b1 B0 E0 K HL
      obtain ⟨c0, c1, c2, c3, c4⟩ := E1.cells
      have l1 := E1.lt
      clear E1
      go_wp2_with fail
      refine (KF.out _ HL1.out).mono ?_
      rintro e w2 ⟨rfl, nq, rfl⟩
      go_wp2_with fail
      go_ret2
      exact ⟨rfl, below_drewN B1.out _⟩
    · by_cases e3 : how = 3
      · have KF := Lib.hid (fun w hl => sumkept_any b o c l w hl hh h2)
        have q1 : sumF k how l = (keptF l).1 := by unfold sumF; rw [if_neg e1, if_neg e2, if_pos e3]
        have q2 : sumC how = 0 := by unfold sumC; rw [if_neg e1, if_neg e2, if_pos e3]
        rw [q1, q2]
        clear q1 q2 hr hh hl h1 h2 hc e1 e2
        subst e3
        go_enter Try.func15, Try.ntmps15
        go_wp2_with fail
        generalize hW0 : w.alloc (.cells #[.int .i64 X, .int .i64 Y, .int .i64 Wn, .int .i64 Hn, .slice (some ⟨b, o, none⟩) l.length c] 26) = W0 at *
        have E0 : Fld W0 w.heap.size X Y Wn Hn (.slice (some ⟨b, o, none⟩) l.length c) := by subst hW0; exact Fld.new _ _ _ _ _ _
        have B0 : Below w.heap.size w W0 := by subst hW0; exact (by repeat (first | with_reducible exact Below.refl _ _ | with_reducible apply Below.drew | with_reducible refine below_drewN ?_ _ | (with_reducible refine Below.setCell ?_ ?_ _; rotate_left; focus (first | omega | (simp <;> omega))) | (with_reducible refine Below.alloc ?_ ?_ _; rotate_left; focus (first | omega | (simp <;> omega)))))
        clear hW0
        refine (K.out _ (HL.out.below B0)).mono ?_
        rintro e w1 ⟨rfl, b1⟩
        have E1 := E0.below b1 E0.lt
        have HL1 := Lib.hid ((HL.out.below B0).below b1)
        have B1 := Lib.hid (B0.trans (b1.mono B0.size))
        clear b1 B0 E0 K HL
        obtain ⟨c0, c1, c2, c3, c4⟩ := E1.cells
        have l1 := E1.lt
        clear E1
        go_wp2_with fail
        refine (KF.out _ HL1.out).mono ?_
        rintro e w2 ⟨rfl, rfl⟩
        go_wp2_with fail
        go_ret2
        exact ⟨rfl, B1.out⟩
      · have q1 : sumF k how l = 0 := by unfold sumF; rw [if_neg e1, if_neg e2, if_neg e3]
        have q2 : sumC how = 1 := by unfold sumC; rw [if_neg e1, if_neg e2, if_neg e3]
        rw [q1, q2]
        clear q1 q2 hr hh hl h1 h2 hc
        go_enter Try.func15, Try.ntmps15
        go_wp2_with fail
        generalize hW0 : w.alloc (.cells #[.int .i64 X, .int .i64 Y, .int .i64 Wn, .int .i64 Hn, .slice (some ⟨b, o, none⟩) l.length c] 26) = W0 at *
        have E0 : Fld W0 w.heap.size X Y Wn Hn (.slice (some ⟨b, o, none⟩) l.length c) := by subst hW0; exact Fld.new _ _ _ _ _ _
        have B0 : Below w.heap.size w W0 := by subst hW0; exact (by repeat (first | with_reducible exact Below.refl _ _ | with_reducible apply Below.drew | with_reducible refine below_drewN ?_ _ | (with_reducible refine Below.setCell ?_ ?_ _; rotate_left; focus (first | omega | (simp <;> omega))) | (with_reducible refine Below.alloc ?_ ?_ _; rotate_left; focus (first | omega | (simp <;> omega)))))
        clear hW0
        refine (K.out _ (HL.out.below B0)).mono ?_
        rintro e w1 ⟨rfl, b1⟩
        have E1 := E0.below b1 E0.lt
        have HL1 := Lib.hid ((HL.out.below B0).below b1)
        have B1 := Lib.hid (B0.trans (b1.mono B0.size))
        clear b1 B0 E0 K HL
        obtain ⟨c0, c1, c2, c3, c4⟩ := E1.cells
        have l1 := E1.lt
        clear E1
        go_wp2_with fail
        go_ret2
        exact ⟨rfl, B1.out⟩
end Go.Proofs.Ytkmcinibaffpmaa
