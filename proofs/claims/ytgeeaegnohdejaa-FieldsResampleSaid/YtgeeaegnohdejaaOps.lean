import Derived.Test.YtgeeaegnohdejaaFit
import Derived.Test.YtgeeaegnohdejaaClampB
import Derived.Test.YtgeeaegnohdejaaSameF
namespace Go.Proofs.Ytgeeaegnohdejaa
open Go.Shelf
open Go.ChangeShapes Go.WideShapes Go.ChangeAt Go.RowKit
open Ieee.Format (fin finE htE allFin allHt all_true all_false finE_ok finE_bad htE_ok htE_far htE_bad mulF subF addF Ht scaleF)
set_option linter.unusedVariables false

/-- a field with its error: no field with an error, or the field of these values -/
def OutV (c : Int) (X Y W H : Int) (m : List Nat) (w : World) (B : Nat) (x y p q : Int) (a : Option Addr) (n k : Nat) : Prop :=
  (c ≠ 0 ∧ x = 0 ∧ y = 0 ∧ p = 0 ∧ q = 0 ∧ a = none ∧ n = 0 ∧ k = 0) ∨ (c = 0 ∧ x = X ∧ y = Y ∧ p = W ∧ q = H ∧ ∃ g, a = some ⟨g, 0, none⟩ ∧ n = m.length ∧ OwnF w B g k m)
theorem OutV.below {c X Y W H : Int} {m : List Nat} {w w' : World} {B : Nat} {x y p q : Int} {a : Option Addr} {n k : Nat} (h : OutV c X Y W H m w B x y p q a n k) (hb : Below w.heap.size w w') : OutV c X Y W H m w' B x y p q a n k := by
  rcases h with h | ⟨h0, h1, h2, h3, h4, g, h5, h6, h7⟩
  · exact .inl h
  · exact .inr ⟨h0, h1, h2, h3, h4, g, h5, h6, h7.below hb h7.lt.2⟩
def OpP (c : Int) (X Y W H : Int) (m : List Nat) (w : World) (e : Ending) (w' : World) : Prop :=
  (∃ x y p q a n k, e = .returned (.tuple #[fldV x y p q a n k, .int .i64 c]) ∧ OutV c X Y W H m w' w.heap.size x y p q a n k) ∧ Below w.heap.size w w'

theorem OpP.err {c X Y W H : Int} {m : List Nat} {w : World} {e : Ending} {w' : World} (hc : c ≠ 0) (he : e = .returned (.tuple #[fldV 0 0 0 0 none 0 0, .int .i64 c])) (hb : Below w.heap.size w w') : OpP c X Y W H m w e w' :=
  ⟨⟨0, 0, 0, 0, none, 0, 0, he, .inl ⟨hc, rfl, rfl, rfl, rfl, rfl, rfl, rfl⟩⟩, hb⟩
theorem ResP.op {X Y W H : Int} {m : List Nat} {w : World} {e : Ending} {w' : World} (h : ResP X Y W H m w e w') : OpP (if allHt m = true then 0 else 3) X Y W H m w e w' := by
  obtain ⟨h1, h2, h3⟩ := h
  by_cases hh : allHt m = true
  · rw [if_pos hh]
    obtain ⟨g, cap, he, ho⟩ := h1 hh
    exact ⟨⟨X, Y, W, H, _, _, cap, he, .inr ⟨rfl, rfl, rfl, rfl, rfl, g, rfl, rfl, ho⟩⟩, h3⟩
  · rw [if_neg hh]
    exact OpP.err (by decide) (h2 (by simpa using hh)) h3

theorem same_out {c X Y W H : Int} {m : List Nat} {w : World} {B B' : Nat} {x y p q : Int} {a : Option Addr} {n k : Nat} {x' y' p' q' : Int} {a' : Option Addr} {n' k' : Nat}
    (h : OutV c X Y W H m w B x y p q a n k) (h' : OutV c X Y W H m w B' x' y' p' q' a' n' k') (hm : m.length ≤ 1099511627776) :
    Calls Try.prog 49 #[fldV x y p q a n k, .int .i64 c, fldV x' y' p' q' a' n' k', .int .i64 c] w fun e w' => e = .returned (.bool true) ∧ Below w.heap.size w w' := by
  rcases h with ⟨hc, rfl, rfl, rfl, rfl, rfl, rfl, rfl⟩ | ⟨rfl, rfl, rfl, rfl, rfl, g, rfl, rfl, ho⟩
  · exact same_err c hc .nilIface x' y' p' q' a' n' k' w
  · rcases h' with ⟨hc, _⟩ | ⟨_, rfl, rfl, rfl, rfl, g', rfl, rfl, ho'⟩
    · exact absurd rfl hc
    · exact same_ok x' y' p' q' g 0 k g' 0 k' m w (ho.row hm) (ho'.row hm)

def scaleC (s t : Nat) (l : List Nat) : Int := if htE [s, t] ≠ 0 then htE [s, t] else if allHt (l.map (scaleF s t)) = true then 0 else 3
def clampC (s t : Nat) : Int := if htE [s, t] ≠ 0 then htE [s, t] else if (Go.FloatKind.f32.format.order s t == some .gt) = true then 8 else 0

theorem scale_op (X Y : Int) (Wn Hn : Nat) (b o c : Nat) (l : List Nat) (x y : Nat) (w : World) (hl : SRow w (some ⟨b, o, none⟩) l) (hr : Right X Y Wn Hn l) (hx : x < 4294967296) (hy : y < 4294967296) :
    Calls Try.prog 47 #[fldV X Y Wn Hn (some ⟨b, o, none⟩) l.length c, .float .f32 x, .float .f32 y] w fun e w' => OpP (scaleC x y l) X Y Wn Hn (l.map (scaleF x y)) w e w' := by
  unfold scaleC
  by_cases h : htE [x, y] = 0
  · rw [if_neg (by simp [h])]
    exact (scale_yes X Y Wn Hn b o c l x y w hl hr hx hy h).mono fun e w' h => h.op
  · rw [if_pos h]
    exact (scale_no X Y Wn Hn _ c l x y w hl hr.chk hx hy h).mono fun e w' ⟨h1, h2⟩ => OpP.err h h1 h2
theorem refscale_op (X Y : Int) (Wn Hn : Nat) (b o c : Nat) (l : List Nat) (x y : Nat) (w : World) (hl : SRow w (some ⟨b, o, none⟩) l) (hr : Right X Y Wn Hn l) (hx : x < 4294967296) (hy : y < 4294967296) :
    Calls Try.prog 48 #[fldV X Y Wn Hn (some ⟨b, o, none⟩) l.length c, .float .f32 x, .float .f32 y] w fun e w' => OpP (scaleC x y l) X Y Wn Hn (l.map (scaleF x y)) w e w' := by
  unfold scaleC
  by_cases h : htE [x, y] = 0
  · rw [if_neg (by simp [h])]
    exact (refscale_yes X Y Wn Hn b o c l x y w hl hr hx hy h).mono fun e w' h => h.op
  · rw [if_pos h]
    exact (refscale_no X Y Wn Hn _ _ c x y w hx hy h).mono fun e w' ⟨h1, h2⟩ => OpP.err h h1 h2
theorem clamp_c {X Y : Int} {Wn Hn : Nat} {l : List Nat} {x y : Nat} (hr : Right X Y Wn Hn l) (h : htE [x, y] = 0) : (if allHt (l.map (clampF x y)) = true then (0 : Int) else 3) = 0 := by
  have hts := Ieee.Format.allHt_iff.1 (Ieee.Format.htE_zero h)
  exact if_pos (map_clamp_ht hr (hts x (by simp)) (hts y (by simp)))
theorem clamp_op (X Y : Int) (Wn Hn : Nat) (b o c : Nat) (l : List Nat) (x y : Nat) (w : World) (hl : SRow w (some ⟨b, o, none⟩) l) (hr : Right X Y Wn Hn l) (hx : x < 4294967296) (hy : y < 4294967296) :
    Calls Try.prog 50 #[fldV X Y Wn Hn (some ⟨b, o, none⟩) l.length c, .float .f32 x, .float .f32 y] w fun e w' => OpP (clampC x y) X Y Wn Hn (l.map (clampF x y)) w e w' := by
  unfold clampC
  by_cases h : htE [x, y] = 0
  · rw [if_neg (by simp [h])]
    by_cases hg : (Go.FloatKind.f32.format.order x y == some .gt) = true
    · rw [if_pos hg]
      exact (clamp_bad X Y Wn Hn _ c l x y w hl hr.chk hx hy h hg).mono fun e w' ⟨h1, h2⟩ => OpP.err (by decide) h1 h2
    · rw [if_neg hg]
      exact (clamp_yes X Y Wn Hn b o c l x y w hl hr hx hy h (by simpa using hg)).mono fun e w' h' => by
        have := h'.op
        rw [clamp_c hr h] at this
        exact this
  · rw [if_pos h]
    exact (clamp_no X Y Wn Hn _ c l x y w hl hr.chk hx hy h).mono fun e w' ⟨h1, h2⟩ => OpP.err h h1 h2
theorem refclamp_op (X Y : Int) (Wn Hn : Nat) (b o c : Nat) (l : List Nat) (x y : Nat) (w : World) (hl : SRow w (some ⟨b, o, none⟩) l) (hr : Right X Y Wn Hn l) (hx : x < 4294967296) (hy : y < 4294967296) :
    Calls Try.prog 51 #[fldV X Y Wn Hn (some ⟨b, o, none⟩) l.length c, .float .f32 x, .float .f32 y] w fun e w' => OpP (clampC x y) X Y Wn Hn (l.map (clampF x y)) w e w' := by
  unfold clampC
  by_cases h : htE [x, y] = 0
  · rw [if_neg (by simp [h])]
    by_cases hg : (Go.FloatKind.f32.format.order x y == some .gt) = true
    · rw [if_pos hg]
      exact (refclamp_bad X Y Wn Hn _ _ c x y w hx hy h hg).mono fun e w' ⟨h1, h2⟩ => OpP.err (by decide) h1 h2
    · rw [if_neg hg]
      exact (refclamp_yes X Y Wn Hn b o c l x y w hl hr hx hy h (by simpa using hg)).mono fun e w' h' => by
        have := h'.op
        rw [clamp_c hr h] at this
        exact this
  · rw [if_pos h]
    exact (refclamp_no X Y Wn Hn _ _ c x y w hx hy h).mono fun e w' ⟨h1, h2⟩ => OpP.err h h1 h2
end Go.Proofs.Ytgeeaegnohdejaa
