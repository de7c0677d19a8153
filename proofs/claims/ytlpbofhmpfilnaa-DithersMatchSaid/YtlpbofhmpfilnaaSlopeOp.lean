import Derived.Test.YtlpbofhmpfilnaaRefSlope
namespace Go.Proofs.Ytlpbofhmpfilnaa
open Go.ChangeShapes Go.WideShapes Go.ChangeAt Go.RowKit
open Ieee.Format (fin finE htE allFin allHt all_true all_false mulF subF addF Ht Bd divF rootF floorF easeF mixF)
set_option linter.unusedVariables false
open Ieee.Format (slopeF curveF)

/-- the values of the cells that are not at the edge -/
def innerL (φ : Nat → Nat → Nat → Nat → Nat → Nat) (X Y : Int) (Wn Hn : Nat) (l : List Nat) : List Nat := madeL (fun x y => nbr φ l Wn (cellNo X Y Wn x y).toNat) (X + 1) (Y + 1) (Wn - 2) ((Hn - 2) * (Wn - 2))
theorem innerL_len (φ : Nat → Nat → Nat → Nat → Nat → Nat) (X Y : Int) (Wn Hn : Nat) (l : List Nat) : (innerL φ X Y Wn Hn l).length = (Hn - 2) * (Wn - 2) := madeL_len _ _ _ _ _
theorem innerL_small (φ : Nat → Nat → Nat → Nat → Nat → Nat) {X Y : Int} {Wn Hn : Nat} {l : List Nat} (hr : Right X Y Wn Hn l) : (innerL φ X Y Wn Hn l).length ≤ 1099511627776 := by
  rw [innerL_len]
  have := hr.h2; have := hr.w2
  have := Nat.mul_le_mul (show Hn - 2 ≤ 512 by omega) (show Wn - 2 ≤ 512 by omega)
  omega

theorem make_inner (gn : Nat) (caps : Array Value) (φ : Nat → Nat → Nat → Nat → Nat → Nat) (X Y : Int) (Wn Hn : Nat) (l : List Nat) (w : World) (hr : Right X Y Wn Hn l) (h3 : 3 ≤ Wn) (h4 : 3 ≤ Hn)
    (eg : ∀ args w, (callFunc gn args).run Try.prog w = .ok (.enter gn args) w) (hlt : ∀ k, nbr φ l Wn k < 4294967296)
    (hf : ∀ x y k, InnerAt X Y Wn Hn x y k → ∀ W', Below w.heap.size w W' → Calls Try.prog gn (#[.int .i64 x, .int .i64 y] ++ caps) W' fun e w' => e = .returned (.float .f32 (nbr φ l Wn k)) ∧ Below W'.heap.size W' w') :
    Calls Try.prog 25 #[reg (X + 1) (Y + 1) ((Wn - 2 : Nat) : Int) ((Hn - 2 : Nat) : Int), .func (.func gn) #[] caps] w fun e w' => MakeP (X + 1) (Y + 1) ((Wn - 2 : Nat) : Int) ((Hn - 2 : Nat) : Int) (innerL φ X Y Wn Hn l) w e w' := by
  have g1 := hr.w2; have g2 := hr.h2; have g3 := hr.x1; have g4 := hr.x2; have g5 := hr.y1; have g6 := hr.y2
  refine make_any gn caps (fun x y => nbr φ l Wn (cellNo X Y Wn x y).toNat) (X + 1) (Y + 1) (Wn - 2) (Hn - 2) w (by omega) (by omega) (by omega) (by omega) (by omega) (by omega) (by omega) (by omega) eg (fun x y _ _ _ _ => hlt _) ?_
  intro x y h1 h2 h5 h6 W' hb
  exact hf x y _ (InnerAt.of h1 (by omega) h5 (by omega)) W' hb
theorem made_inner (gn : Nat) (caps : Array Value) (φ : Nat → Nat → Nat → Nat → Nat → Nat) (X Y : Int) (Wn Hn : Nat) (l : List Nat) (w : World) (hr : Right X Y Wn Hn l) (h3 : 3 ≤ Wn) (h4 : 3 ≤ Hn)
    (eg : ∀ args w, (callFunc gn args).run Try.prog w = .ok (.enter gn args) w) (hlt : ∀ k, nbr φ l Wn k < 4294967296)
    (hf : ∀ x y k, InnerAt X Y Wn Hn x y k → ∀ W', Below w.heap.size w W' → Calls Try.prog gn (#[.int .i64 x, .int .i64 y] ++ caps) W' fun e w' => e = .returned (.float .f32 (nbr φ l Wn k)) ∧ Below W'.heap.size W' w') :
    Calls Try.prog 30 #[reg (X + 1) (Y + 1) ((Wn - 2 : Nat) : Int) ((Hn - 2 : Nat) : Int), .func (.func gn) #[] caps] w fun e w' => OpP (resC (innerL φ X Y Wn Hn l)) (X + 1) (Y + 1) ((Wn - 2 : Nat) : Int) ((Hn - 2 : Nat) : Int) (innerL φ X Y Wn Hn l) w e w' := by
  have g1 := hr.w2; have g2 := hr.h2; have g3 := hr.x1; have g4 := hr.x2; have g5 := hr.y1; have g6 := hr.y2
  refine (made_any gn caps (fun x y => nbr φ l Wn (cellNo X Y Wn x y).toNat) (X + 1) (Y + 1) (Wn - 2) (Hn - 2) w (by omega) (by omega) (by omega) (by omega) (by omega) (by omega) (by omega) (by omega) eg (fun x y _ _ _ _ => hlt _) ?_).mono fun e w' h => h.res.op
  intro x y h1 h2 h5 h6 W' hb
  exact hf x y _ (InnerAt.of h1 (by omega) h5 (by omega)) W' hb

theorem op_pair (f g : Nat) (caps : Array Value) (X Y : Int) (Wn Hn : Nat) (b o c : Nat) (l : List Nat) (φ : Nat → Nat → Nat → Nat → Nat → Nat) (hr : Right X Y Wn Hn l)
    (n1 : Wn < 3 ∨ Hn < 3 → ∀ w, SRow w (some ⟨b, o, none⟩) l → Calls Try.prog f (#[fldV X Y Wn Hn (some ⟨b, o, none⟩) l.length c] ++ caps) w fun e w' => e = .returned (.tuple #[fldV 0 0 0 0 none 0 0, .int .i64 10]) ∧ Below w.heap.size w w')
    (n2 : Wn < 3 ∨ Hn < 3 → ∀ w, SRow w (some ⟨b, o, none⟩) l → Calls Try.prog g (#[fldV X Y Wn Hn (some ⟨b, o, none⟩) l.length c] ++ caps) w fun e w' => e = .returned (.tuple #[fldV 0 0 0 0 none 0 0, .int .i64 10]) ∧ Below w.heap.size w w')
    (y1 : 3 ≤ Wn → 3 ≤ Hn → ∀ w, SRow w (some ⟨b, o, none⟩) l → Calls Try.prog f (#[fldV X Y Wn Hn (some ⟨b, o, none⟩) l.length c] ++ caps) w fun e w' => OpP (resC (innerL φ X Y Wn Hn l)) (X + 1) (Y + 1) ((Wn - 2 : Nat) : Int) ((Hn - 2 : Nat) : Int) (innerL φ X Y Wn Hn l) w e w')
    (y2 : 3 ≤ Wn → 3 ≤ Hn → ∀ w, SRow w (some ⟨b, o, none⟩) l → Calls Try.prog g (#[fldV X Y Wn Hn (some ⟨b, o, none⟩) l.length c] ++ caps) w fun e w' => OpP (resC (innerL φ X Y Wn Hn l)) (X + 1) (Y + 1) ((Wn - 2 : Nat) : Int) ((Hn - 2 : Nat) : Int) (innerL φ X Y Wn Hn l) w e w') :
    ∃ (C X1 Y1 W1 H1 : Int) (S : List Nat), (S.length ≤ 1099511627776 ∧ (S = [] ∨ S = innerL φ X Y Wn Hn l)) ∧
      (∀ w, SRow w (some ⟨b, o, none⟩) l → Calls Try.prog f (#[fldV X Y Wn Hn (some ⟨b, o, none⟩) l.length c] ++ caps) w fun e w' => OpP C X1 Y1 W1 H1 S w e w') ∧
      (∀ w, SRow w (some ⟨b, o, none⟩) l → Calls Try.prog g (#[fldV X Y Wn Hn (some ⟨b, o, none⟩) l.length c] ++ caps) w fun e w' => OpP C X1 Y1 W1 H1 S w e w') := by
  by_cases h : Wn < 3 ∨ Hn < 3
  · refine ⟨10, 0, 0, 0, 0, [], ⟨by simp, .inl rfl⟩, fun w hl => ?_, fun w hl => ?_⟩
    · exact (n1 h w hl).mono fun e w' ⟨h1, h2⟩ => OpP.err (by decide) h1 h2
    · exact (n2 h w hl).mono fun e w' ⟨h1, h2⟩ => OpP.err (by decide) h1 h2
  · exact ⟨_, _, _, _, _, _, ⟨innerL_small φ hr, .inr rfl⟩, fun w hl => y1 (by omega) (by omega) w hl, fun w hl => y2 (by omega) (by omega) w hl⟩
end Go.Proofs.Ytlpbofhmpfilnaa
