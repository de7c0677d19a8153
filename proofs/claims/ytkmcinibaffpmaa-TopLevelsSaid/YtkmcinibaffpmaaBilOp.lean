import Derived.Test.YtkmcinibaffpmaaWholeFn
namespace Go.Proofs.Ytkmcinibaffpmaa
open Go.ChangeShapes Go.WideShapes Go.ChangeAt Go.RowKit
open Ieee.Format (fin finE htE allFin allHt all_true all_false mulF subF addF Ht Bd divF rootF floorF easeF mixF)
set_option linter.unusedVariables false
open Ieee.Format (const_40 frac_bd frac_zero conv_exact)

theorem finites_two (W : World) (g x y : Nat) (hx : x < 4294967296) (hy : y < 4294967296) (h0 : W.cell? ⟨g, 0, none⟩ = some (.float .f32 x)) (h1 : W.cell? ⟨g, 1, none⟩ = some (.float .f32 y)) :
    Calls Try.prog 215 #[.slice (some ⟨g, 0, none⟩) 2 2] W fun e w' => e = .returned (.int .i64 (finE [x, y])) ∧ W = w' := finites_any (some ⟨g, 0, none⟩) 2 [x, y] W (row_two_at W g x y hx hy h0 h1)
theorem finE_two {x y : Nat} (h : finE [x, y] = 0) : fin Ieee.single x ∧ fin Ieee.single y := by
  cases ha : allFin [x, y] with
  | true =>
    unfold allFin at ha
    simpa using ha
  | false => have := Ieee.Format.finE_bad ha; omega
theorem finE_two_bad {x y : Nat} (h : finE [x, y] ≠ 0) : finE [x, y] = 2 ∧ (¬ fin Ieee.single x ∨ ¬ fin Ieee.single y) := by
  cases ha : allFin [x, y] with
  | true => exact absurd (Ieee.Format.finE_ok ha) h
  | false =>
    refine ⟨Ieee.Format.finE_bad ha, ?_⟩
    apply Classical.byContradiction
    intro hn
    have h1 : fin Ieee.single x ∧ fin Ieee.single y := ⟨Classical.byContradiction fun c => hn (.inl c), Classical.byContradiction fun c => hn (.inr c)⟩
    have : allFin [x, y] = true := by unfold allFin; simpa using h1
    rw [this] at ha; cases ha

theorem Right.bd' {X Y : Int} {Wn Hn : Nat} {l : List Nat} (h : Right X Y Wn Hn l) (i : Nat) : Bd 20 (l.getD i 0) := Ieee.Format.Ht.bd (h.getD i)
def bilCode (x y : Nat) (R : Option Nat) : Int := if finE [x, y] ≠ 0 then finE [x, y] else bilC R
def bilVal (c : Int) (R : Option Nat) : Nat := if c = 0 then R.getD 0 else 0
theorem bilC_ne {v : Nat} (h : ¬ Ht v) (hf : fin Ieee.single v) : bilC (some v) = 3 := by
  show outE [v] = 3
  unfold outE
  have : htE [v] = 3 := Ieee.Format.htE_far (by unfold allFin; simp [hf]) (by cases hh : allHt [v]; rfl; exact absurd (Ieee.Format.allHt_iff.1 hh v (by simp)) h)
  rw [this]; rfl
theorem bilC_ok {v : Nat} (h : Ht v) : bilC (some v) = 0 := by
  show outE [v] = 0
  unfold outE
  rw [Ieee.Format.htE_of_ht (Ieee.Format.allHt_iff.2 (by simpa using h))]; rfl

end Go.Proofs.Ytkmcinibaffpmaa
