import Derived.Test.YtlpbofhmpfilnaaSlopeOp
import Derived.WalkLawsBesides
namespace Go.Proofs.Ytlpbofhmpfilnaa
open Go.ChangeShapes Go.WideShapes Go.ChangeAt Go.RowKit
open Ieee.Format (fin finE htE allFin allHt all_true all_false mulF subF addF Ht Bd divF rootF floorF easeF mixF)
set_option linter.unusedVariables false

/-- a row of ints in a block -/
def IRow (w : World) (b : Nat) (l : List Int) : Prop := ∀ i, i < l.length → w.cell? ⟨b, i, none⟩ = some (.int .i64 (l.getD i 0))
def inB (m n : Int) : Bool := decide (-m ≤ n ∧ n ≤ m)

theorem all_or_first (p : Nat → Prop) (n : Nat) : (∀ i, i < n → p i) ∨ ∃ j, j < n ∧ (∀ i, i < j → p i) ∧ ¬ p j := by
  induction n with
  | zero => exact .inl fun i hi => absurd hi (by omega)
  | succ n ih =>
    rcases ih with h | ⟨j, hj, h1, h2⟩
    · by_cases hp : p n
      · exact .inl fun i hi => by
          rcases Nat.lt_or_ge i n with c | c
          · exact h i c
          · rw [show i = n by omega]; exact hp
      · exact .inr ⟨n, by omega, h, hp⟩
    · exact .inr ⟨j, by omega, h1, h2⟩

theorem irow3 (w : World) (b : Nat) (x y z : Int) (h0 : w.cell? ⟨b, 0, none⟩ = some (.int .i64 x)) (h1 : w.cell? ⟨b, 1, none⟩ = some (.int .i64 y)) (h2 : w.cell? ⟨b, 2, none⟩ = some (.int .i64 z)) : IRow w b [x, y, z] := by
  intro i hi
  match i, hi with
  | 0, _ => exact h0
  | 1, _ => exact h1
  | 2, _ => exact h2
theorem irow2 (w : World) (b : Nat) (x y : Int) (h0 : w.cell? ⟨b, 0, none⟩ = some (.int .i64 x)) (h1 : w.cell? ⟨b, 1, none⟩ = some (.int .i64 y)) : IRow w b [x, y] := by
  intro i hi
  match i, hi with
  | 0, _ => exact h0
  | 1, _ => exact h1
theorem irow1 (w : World) (b : Nat) (x : Int) (h0 : w.cell? ⟨b, 0, none⟩ = some (.int .i64 x)) : IRow w b [x] := by
  intro i hi
  match i, hi with
  | 0, _ => exact h0
def lightE (x y z : Int) : Int := if (inB 1000 x && inB 1000 y && inB 1000 z) = false then 3 else if x = 0 ∧ y = 0 ∧ z = 0 then 12 else 0
end Go.Proofs.Ytlpbofhmpfilnaa
