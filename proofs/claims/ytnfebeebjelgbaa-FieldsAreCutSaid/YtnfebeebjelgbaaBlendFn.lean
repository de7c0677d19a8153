import Derived.Test.YtnfebeebjelgbaaBlendF
import Derived.Test.YtnfebeebjelgbaaContains
import Derived.Test.YtnfebeebjelgbaaInner
namespace Go.Proofs.Ytnfebeebjelgbaa
open Go.ChangeShapes Go.WideShapes Go.ChangeAt Go.RowKit
open Ieee.Format (fin finE htE allFin allHt all_true all_false mulF subF addF Ht Bd divF rootF floorF easeF mixF)
set_option linter.unusedVariables false

theorem noWtfn_any (x : Nat) (w : World) : Calls Try.prog 114 #[.float .f32 x] w fun e w' => e = .returned (.bool (noWt x)) ∧ w = w' := by
  unfold noWt
  cases h : lss x 0 with
  | true =>
    have h' : (FloatKind.f32.format.order x 0 == some .lt) = true := h
    go_enter Try.func114, Try.ntmps114
    go_wp2
    go_ret
    exact ⟨rfl, rfl⟩
  | false =>
    have h' : (FloatKind.f32.format.order x 0 == some .lt) = false := h
    go_enter Try.func114, Try.ntmps114
    go_wp2
    go_ret
    exact ⟨rfl, rfl⟩
theorem refnoWtfn_any (x : Nat) (w : World) : Calls Try.prog 117 #[.float .f32 x] w fun e w' => e = .returned (.bool (noWt x)) ∧ w = w' := by
  unfold noWt
  cases h : lss x 0 with
  | true =>
    have h' : (FloatKind.f32.format.order x 0 == some .lt) = true := h
    go_enter Try.func117, Try.ntmps117
    go_wp2
    go_ret
    exact ⟨rfl, rfl⟩
  | false =>
    have h' : (FloatKind.f32.format.order x 0 == some .lt) = false := h
    go_enter Try.func117, Try.ntmps117
    go_wp2
    go_ret
    exact ⟨rfl, rfl⟩

/-- a right field in these five cells -/
def FlAt (w : World) (b p : Nat) : Prop := ∃ (X Y : Int) (Wn Hn b' o' c : Nat) (l : List Nat), Right X Y Wn Hn l ∧ SRow w (some ⟨b', o', none⟩) l ∧
  w.cell? ⟨b, p, none⟩ = some (.int .i64 X) ∧ w.cell? ⟨b, p + 1, none⟩ = some (.int .i64 Y) ∧ w.cell? ⟨b, p + 2, none⟩ = some (.int .i64 (Wn : Int)) ∧ w.cell? ⟨b, p + 3, none⟩ = some (.int .i64 (Hn : Int)) ∧ w.cell? ⟨b, p + 4, none⟩ = some (.slice (some ⟨b', o', none⟩) l.length c)

set_option maxRecDepth 100000 in
set_option maxHeartbeats 1000000 in
theorem checkall_any (b o n c : Nat) (w : World) (hb : b < w.heap.size) (hn : n ≤ 3) (hf : ∀ i, i < n → FlAt w b (o + i * 5)) :
    Calls Try.prog 108 #[.slice (some ⟨b, o, none⟩) n c] w fun e w' => e = .returned (.int .i64 0) ∧ Below w.heap.size w w' := by
  have HF := Lib.hid hf
  clear hf
  go_enter Try.func108, Try.ntmps108
  go_wp2_with fail
  go_loopw [8] (fun i wr => ∃ k : Nat, k ≤ n ∧ i = .int .i64 k ∧ Below w.heap.size w wr) (fun i _ => n - (intOf i).toNat)
  case atStart => exact ⟨0, by omega, rfl, (by repeat (first | with_reducible exact Below.refl _ _ | with_reducible apply Below.drew | with_reducible refine below_drewN ?_ _ | (with_reducible refine Below.setCell ?_ ?_ _; rotate_left; focus (first | omega | (simp <;> omega))) | (with_reducible refine Below.alloc ?_ ?_ _; rotate_left; focus (first | omega | (simp <;> omega)))))⟩
  case round =>
    obtain ⟨k, hk, rfl, B⟩ := hrel
    have HB := Lib.hid B
    by_cases hlt : k < n
    · obtain ⟨X, Y, Wn, Hn, b', o', cc, l, hr, hl, h0, h1, h2, h3, h4⟩ := HF.out k hlt
      have m0 := (B.cell (p := ⟨b, o + k * 5, none⟩) (by simpa using hb)).trans h0
      have m1 := (B.cell (p := ⟨b, o + k * 5 + 1, none⟩) (by simpa using hb)).trans h1
      have m2 := (B.cell (p := ⟨b, o + k * 5 + 2, none⟩) (by simpa using hb)).trans h2
      have m3 := (B.cell (p := ⟨b, o + k * 5 + 3, none⟩) (by simpa using hb)).trans h3
      have m4 := (B.cell (p := ⟨b, o + k * 5 + 4, none⟩) (by simpa using hb)).trans h4
      have hz := B.size
      have l5 : b < wr.heap.size := by omega
      have B1 : Below wr.heap.size wr (wr.alloc (.cells #[.int .i64 X, .int .i64 Y, .int .i64 Wn, .int .i64 Hn, .slice (some ⟨b', o', none⟩) l.length cc] 36)) := (by repeat (first | with_reducible exact Below.refl _ _ | with_reducible apply Below.drew | with_reducible refine below_drewN ?_ _ | (with_reducible refine Below.setCell ?_ ?_ _; rotate_left; focus (first | omega | (simp <;> omega))) | (with_reducible refine Below.alloc ?_ ?_ _; rotate_left; focus (first | omega | (simp <;> omega)))))
      have K := Lib.hid (check_field X Y Wn Hn (some ⟨b', o', none⟩) cc l _ ((SRow.below hl B).below B1))
      rw [hr.chk] at K
      have HB1 := Lib.hid B1
      clear h0 h1 h2 h3 h4 B hk hl hr B1
      go_wp2_with fail
      refine (K.out).mono ?_
      rintro e w2 ⟨rfl, b2⟩
      have HB2 := Lib.hid (HB.out.trans ((HB1.out.trans (b2.mono HB1.out.size)).mono hz))
      clear b2 HB1
      go_wp2_with fail
      go_roundw
      case rel => exact ⟨k + 1, by omega, by go_num, HB2.out⟩
      case measure => simp [intOf]; omega
    · obtain rfl : k = n := by omega
      go_wp2_with fail
      go_ret
      exact ⟨rfl, HB.out⟩
end Go.Proofs.Ytnfebeebjelgbaa
