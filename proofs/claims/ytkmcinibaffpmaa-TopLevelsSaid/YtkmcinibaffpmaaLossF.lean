import Derived.Test.YtkmcinibaffpmaaPyrChk
import Derived.Test.YtkmcinibaffpmaaThermOp
import Derived.Test.YtkmcinibaffpmaaMagF
namespace Go.Proofs.Ytkmcinibaffpmaa
open Go.ChangeShapes Go.WideShapes Go.ChangeAt Go.RowKit
open Ieee.Format (fin finE htE allFin allHt all_true all_false mulF subF addF Ht Bd divF rootF floorF easeF mixF)
set_option linter.unusedVariables false

/-- a slice of singles that all are heights, or not -/
def ValQ (b : Nat) (n c : Nat) (w : World) (e : Ending) (w' : World) : Prop :=
  (e = .returned (.tuple #[.slice (some ⟨b, 0, none⟩) n c, .int .i64 0]) ∨ e = .returned (.tuple #[.slice none 0 0, .int .i64 3])) ∧ w = w'
set_option maxRecDepth 100000 in
theorem values_any (b c : Nat) (l : List Nat) (w : World) (hl : SRow w (some ⟨b, 0, none⟩) l) :
    Calls Try.prog 107 #[.slice (some ⟨b, 0, none⟩) l.length c] w fun e w' => ValQ b l.length c w e w' := by
  have HL := Lib.hid hl
  have hn : l.length ≤ 1099511627776 := hl.1.1
  clear hl
  go_enter Try.func107, Try.ntmps107
  go_wp2_with fail
  go_loopw [10] (fun iv wr => ∃ k : Nat, k ≤ l.length ∧ iv = .int .i64 (k : Int) ∧ wr = w) (fun iv _ => l.length - (intOf iv).toNat)
  case atStart => exact ⟨0, by omega, rfl, rfl⟩
  case round =>
    obtain ⟨k, hk, rfl, rfl⟩ := hrel
    by_cases hlt : k < l.length
    · have hc := HL.out.at_ hlt
      rw [Nat.zero_add] at hc
      generalize l.getD k 0 = x at *
      by_cases hx : Ht x
      · have KV := Lib.hid (fun w => value_any x w hx)
        clear hx
        go_wp2_with fail
        refine (KV.out _).mono ?_
        rintro e w2 ⟨rfl, rfl⟩
        go_wp2_with fail
        go_roundw
        case rel => exact ⟨k + 1, by omega, by go_num, by first | rfl | trivial⟩
        case measure => simp [intOf]; omega
      · have KV := Lib.hid (fun w => value_no x w hx)
        clear hx
        go_wp2_with fail
        refine (KV.out _).mono ?_
        rintro e w2 ⟨rfl, rfl⟩
        go_wp2_with fail
        go_ret2
        exact ⟨.inr rfl, rfl⟩
    · obtain rfl : k = l.length := by omega
      go_wp2_with fail
      go_ret2
      exact ⟨.inl rfl, rfl⟩

/-! ### the index of a cell's level -/
theorem pow_cell {X x : Int} {W k : Nat} {P : Nat} (hp : 1 ≤ P) (h1 : X * (P : Int) ≤ x) (h2 : x < X * (P : Int) + (W * P : Nat)) : X ≤ x / (P : Int) ∧ x / (P : Int) < X + W := by
  refine ⟨(Int.le_ediv_iff_mul_le (by omega)).2 h1, (Int.ediv_lt_iff_lt_mul (by omega)).2 ?_⟩
  rw [Int.add_mul, ← Int.natCast_mul]; exact h2
/-- where a cell of the field lies in its level k -/
def ovK (u : Lv) (k : Nat) (x y : Int) : Nat := ((y / 2 ^ k - u.Y) * (u.W : Int) + x / 2 ^ k - u.X).toNat
theorem ovK_in {v u : Lv} {k : Nat} {x y : Int} (hu : u.ok) (h1 : v.X = u.X * 2 ^ k) (h2 : v.Y = u.Y * 2 ^ k) (h3 : v.W = u.W * 2 ^ k) (h4 : v.H = u.H * 2 ^ k) (hx : v.X ≤ x) (hx2 : x < v.X + v.W) (hy : v.Y ≤ y) (hy2 : y < v.Y + v.H) :
    (y / 2 ^ k - u.Y) * (u.W : Int) + x / 2 ^ k - u.X = (ovK u k x y : Int) ∧ ovK u k x y < u.l.length ∧ 0 ≤ (y / 2 ^ k - u.Y) * (u.W : Int) ∧ (y / 2 ^ k - u.Y) * (u.W : Int) ≤ 65536 ∧ u.Y ≤ y / 2 ^ k ∧ y / 2 ^ k < u.Y + u.H ∧ u.X ≤ x / 2 ^ k ∧ x / 2 ^ k < u.X + u.W := by
  have hp : 1 ≤ 2 ^ k := Nat.one_le_two_pow
  have e : (2 : Int) ^ k = ((2 ^ k : Nat) : Int) := by simp
  unfold ovK
  rw [e] at *
  rw [h1] at hx; rw [h1, h3] at hx2; rw [h2] at hy; rw [h2, h4] at hy2
  obtain ⟨a1, a2⟩ := pow_cell (k := k) hp hx hx2
  obtain ⟨b1, b2⟩ := pow_cell (k := k) hp hy hy2
  generalize x / ((2 ^ k : Nat) : Int) = p at *
  generalize y / ((2 ^ k : Nat) : Int) = q at *
  have l := hu.len
  have wh := hu.wh
  obtain ⟨j, hj⟩ : ∃ j : Nat, q - u.Y = (j : Int) := ⟨(q - u.Y).toNat, by omega⟩
  have m1 : (j + 1) * u.W ≤ u.H * u.W := Nat.mul_le_mul_right _ (by omega)
  rw [Nat.add_mul] at m1
  have m2 : u.H * u.W = u.W * u.H := Nat.mul_comm _ _
  have c : (j : Int) * (u.W : Int) = ((j * u.W : Nat) : Int) := (Int.natCast_mul _ _).symm
  rw [hj, c, l]
  generalize j * u.W = z at *
  generalize u.H * u.W = z2 at *
  omega
end Go.Proofs.Ytkmcinibaffpmaa
