import Derived.Test.YtnfebeebjelgbaaRefBlend
namespace Go.Proofs.Ytnfebeebjelgbaa
open Go.ChangeShapes Go.WideShapes Go.ChangeAt Go.RowKit
open Ieee.Format (fin finE htE allFin allHt all_true all_false mulF subF addF Ht Bd divF rootF floorF easeF mixF)
set_option linter.unusedVariables false

/-! ### parts of fields, in plain Lean -/
/-- what Cut gives: the cells of a region inside the field -/
def cutV (l : List Nat) (X Y : Int) (Wn : Nat) (x y : Int) : Nat := l.getD (cellNo X Y Wn x y).toNat 0
def cutL (l : List Nat) (X Y : Int) (Wn : Nat) (P Q : Int) (A n : Nat) : List Nat := madeL (cutV l X Y Wn) P Q A n
theorem cutL_len (l : List Nat) (X Y : Int) (Wn : Nat) (P Q : Int) (A n : Nat) : (cutL l X Y Wn P Q A n).length = n := madeL_len _ _ _ _ _
/-- the first cell of row j of the part -/
def rowAt (X Y : Int) (Wn : Nat) (P Q : Int) (j : Nat) : Nat := ((Q + j - Y) * Wn + P - X).toNat
theorem cut_row (l : List Nat) (X Y : Int) (Wn Hn : Nat) (P Q : Int) (A B j : Nat) (hl : l.length = Hn * Wn) (hj : j < B) (h1 : X ≤ P) (h2 : P + A ≤ X + Wn) (h3 : Y ≤ Q) (h4 : Q + B ≤ Y + Hn) :
    cutL l X Y Wn P Q A (j * A + A) = cutL l X Y Wn P Q A (j * A) ++ (l.drop (rowAt X Y Wn P Q j)).take A := by
  unfold cutL madeL
  rw [List.range_add, List.map_append, List.map_map]
  congr 1
  obtain ⟨q, hq⟩ : ∃ q : Nat, (q : Int) = Q + j - Y := ⟨(Q + j - Y).toNat, by omega⟩
  obtain ⟨p, hp⟩ : ∃ p : Nat, (p : Int) = P - X := ⟨(P - X).toNat, by omega⟩
  have hk : rowAt X Y Wn P Q j = q * Wn + p := by
    unfold rowAt
    rw [← hq, ← Int.natCast_mul]
    omega
  have hle : (q + 1) * Wn ≤ Hn * Wn := Nat.mul_le_mul_right _ (by omega)
  rw [Nat.add_mul, Nat.one_mul] at hle
  rw [hk]
  refine List.ext_getElem? fun i => ?_
  by_cases hi : i < A
  · have hm : (j * A + i) % A = i := by rw [Nat.mul_comm, Nat.mul_add_mod]; exact Nat.mod_eq_of_lt hi
    have hd : (j * A + i) / A = j := by
      rw [Nat.mul_comm, Nat.mul_add_div (by omega), Nat.div_eq_of_lt hi]; omega
    have e : (cellNo X Y Wn (P + (i : Int)) (Q + (j : Int))).toNat = q * Wn + p + i := by
      unfold cellNo
      rw [← hq, ← Int.natCast_mul]
      omega
    rw [List.getElem?_map, List.getElem?_range hi, List.getElem?_take, if_pos hi, List.getElem?_drop]
    simp only [Option.map_some, Function.comp]
    rw [hm, hd]
    unfold cutV
    rw [e, List.getD_eq_getElem?_getD, List.getElem?_eq_getElem (by omega)]
    rfl
  · rw [List.getElem?_eq_none (by simp; omega), List.getElem?_eq_none (by rw [List.length_take]; omega)]
end Go.Proofs.Ytnfebeebjelgbaa
