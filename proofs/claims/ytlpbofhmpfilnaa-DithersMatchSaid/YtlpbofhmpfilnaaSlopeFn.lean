import Derived.Test.YtlpbofhmpfilnaaInner
namespace Go.Proofs.Ytlpbofhmpfilnaa
open Go.ChangeShapes Go.WideShapes Go.ChangeAt Go.RowKit
open Ieee.Format (fin finE htE allFin allHt all_true all_false mulF subF addF Ht Bd divF rootF floorF easeF mixF)
set_option linter.unusedVariables false
open Ieee.Format (negF gradF hypF slopeF lenF curve1 curveF nxF nyF nzF grad_bd hyp_bd slope_bd normal_bd curve_bd const_2nd const_quarter const_1)

abbrev nbV (n s e w v : Nat) : Value := .agg #[.float .f32 n, .float .f32 s, .float .f32 e, .float .f32 w, .float .f32 v]

/-- the number of a cell that is not at the edge -/
structure InnerAt (X Y : Int) (Wn Hn : Nat) (x y : Int) (k : Nat) : Prop where
  x1 : X + 1 ≤ x
  x2 : x < X + Wn - 1
  y1 : Y + 1 ≤ y
  y2 : y < Y + Hn - 1
  k : cellNo X Y Wn x y = (k : Int)
theorem InnerAt.of {X Y : Int} {Wn Hn : Nat} {x y : Int} (h1 : X + 1 ≤ x) (h2 : x < X + Wn - 1) (h3 : Y + 1 ≤ y) (h4 : y < Y + Hn - 1) : InnerAt X Y Wn Hn x y (cellNo X Y Wn x y).toNat := by
  refine ⟨h1, h2, h3, h4, ?_⟩
  have e1 := Int.mul_le_mul_of_nonneg_right (show 1 ≤ y - Y by omega) (show (0 : Int) ≤ Wn by omega)
  unfold cellNo
  omega
theorem InnerAt.lo {X Y : Int} {Wn Hn : Nat} {x y : Int} {k : Nat} (h : InnerAt X Y Wn Hn x y k) : Wn ≤ k := by
  have h1 := h.y1
  have h2 := h.x1
  have e1 := Int.mul_le_mul_of_nonneg_right (show 1 ≤ y - Y by omega) (show (0 : Int) ≤ Wn by omega)
  have := h.k
  unfold cellNo at this
  omega
theorem InnerAt.hi {X Y : Int} {Wn Hn : Nat} {x y : Int} {k : Nat} (h : InnerAt X Y Wn Hn x y k) (hw : 1 ≤ Wn) : k + Wn < Hn * Wn := by
  have h1 := h.y2
  have h2 := h.x2
  have h3 := h.y1
  have e1 := Int.mul_le_mul_of_nonneg_right (show y - Y + 2 ≤ Hn by omega) (show (0 : Int) ≤ Wn by omega)
  have := h.k
  unfold cellNo at this
  have e2 : ((Hn * Wn : Nat) : Int) = (Hn : Int) * Wn := Int.natCast_mul _ _
  rw [Int.add_mul] at e1
  omega
theorem Right.bd {X Y : Int} {Wn Hn : Nat} {l : List Nat} (h : Right X Y Wn Hn l) (i : Nat) : Bd 20 (l.getD i 0) := Ieee.Format.Ht.bd (h.getD i)

def shadeF (a b c m n s e w v : Nat) : Nat := if gtr (Ieee.Format.shade2 a b c m n s e w) 0 = true then Ieee.Format.shade2 a b c m n s e w else 0
/-- what of a light's direction is right -/
structure LightOk (A B C M : Nat) : Prop where
  a : Bd 10 A
  b : Bd 10 B
  c : Bd 10 C
  m : fin Ieee.single M
  m1 : 1 ≤ Ieee.single.V M

end Go.Proofs.Ytlpbofhmpfilnaa
