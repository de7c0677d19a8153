import Derived.Test.YtnfebeebjelgbaaSelF
import Derived.Test.YtnfebeebjelgbaaThermFn
import Derived.Test.YtnfebeebjelgbaaM6
namespace Go.Proofs.Ytnfebeebjelgbaa
open Go.ChangeShapes Go.WideShapes Go.ChangeAt Go.RowKit
open Ieee.Format (fin finE htE allFin allHt all_true all_false mulF subF addF Ht Bd divF rootF floorF easeF mixF)
set_option linter.unusedVariables false

/-! ### a function that counts its calls -/
theorem But.setq {B : Nat} {q : Nat → Prop} {w : World} {p : Addr} (u : Value) (h : q p.block) : But B q w (w.setCell p u) := by
  refine ⟨(Below.setCell (Below.refl 0 w) (Nat.zero_le _) u).os, (Below.setCell (Below.refl 0 w) (Nat.zero_le _) u).tape, (Below.setCell (Below.refl 0 w) (Nat.zero_le _) u).output, (Below.setCell (Below.refl 0 w) (Nat.zero_le _) u).size, ?_⟩
  intro k _ hk
  exact Below.heap_setCell w p u k (fun e => hk (e ▸ h))
theorem But.lowp {B p : Nat} {w w' : World} (h : But B (fun k => k = p) w w') (hp : p ≤ B) : Below p w w' := by
  refine ⟨h.os, h.tape, h.output, h.size, fun k hk => ?_⟩
  exact h.block k (by omega) (by omega)
theorem Blk.but {w w' : World} {B p k : Nat} {cs : Array Value} {t : TypeId} (h : Blk w k cs t) (hb : But B (fun j => j = p) w w') (hk : k < B) (hp : k ≠ p) : Blk w' k cs t := (hb.block k hk hp).trans h
theorem Fld.but {w w' : World} {B p k : Nat} {X Y W H : Int} {v : Value} (h : Fld w k X Y W H v) (hb : But B (fun j => j = p) w w') (hk : k < B) (hp : k ≠ p) : Fld w' k X Y W H v := (hb.block k hk hp).trans h
theorem SRow.but {w w' : World} {B p b o : Nat} {l : List Nat} (h : SRow w (some ⟨b, o, none⟩) l) (hb : But B (fun j => j = p) w w') (hk : b < B) (hp : b ≠ p) : SRow w' (some ⟨b, o, none⟩) l := by
  refine ⟨h.1, ?_⟩
  rcases h.2 with h0 | ⟨b', o', e, h1⟩
  · exact .inl h0
  · simp only [Option.some.injEq, Addr.mk.injEq] at e
    obtain ⟨rfl, rfl, _⟩ := e
    exact .inr ⟨b, o, rfl, fun i hi => by rw [hb.cell hk hp]; exact h1 i hi⟩

abbrev CntAt (w : World) (p : Nat) (c : Int) : Prop := Blk w p #[.int .i64 c] 3
/-- what Make gives whose function counts -/
def MakeCP (p : Nat) (X Y W H : Int) (m : List Nat) (w : World) (e : Ending) (w' : World) : Prop :=
  (∃ g cap, e = .returned (fldV X Y W H (some ⟨g, 0, none⟩) m.length cap) ∧ OwnF w' w.heap.size g cap m) ∧ Below p w w'
theorem make_cnt (gn : Nat) (caps : Array Value) (p : Nat) (ψ : Int → Int → Nat) (X Y : Int) (Wn Hn : Nat) (w : World) (h1 : 1 ≤ Wn) (h2 : Wn ≤ 512) (h3 : 1 ≤ Hn) (h4 : Hn ≤ 512)
    (h5 : -8388608 ≤ X) (h6 : X ≤ 8388608) (h7 : -8388608 ≤ Y) (h8 : Y ≤ 8388608)
    (eg : ∀ args w, (callFunc gn args).run Try.prog w = .ok (.enter gn args) w) (hp : CntAt w p (-1))
    (hψ : ∀ x y, ψ x y < 4294967296)
    (hf : ∀ i j k : Nat, i < Wn → j < Hn → k = j * Wn + i → ∀ W', But w.heap.size (fun k => k = p) w W' → CntAt W' p ((k : Int) - 1) → Calls Try.prog gn (#[.int .i64 (X + (i : Int)), .int .i64 (Y + (j : Int))] ++ caps) W' fun e w' => e = .returned (.float .f32 (ψ (X + (i : Int)) (Y + (j : Int)))) ∧ But W'.heap.size (fun k => k = p) W' w' ∧ CntAt w' p (k : Int)) :
    Calls Try.prog 94 #[reg X Y Wn Hn, .func (.func gn) #[] caps] w fun e w' => MakeCP p X Y Wn Hn (madeL ψ X Y Wn (Hn * Wn)) w e w' := by
  have hpl := hp.lt
  refine (make_st gn caps (fun k => k = p) (fun n W => CntAt W p ((n : Int) - 1)) ψ X Y Wn Hn w h1 h2 h3 h4 h5 h6 h7 h8 eg (fun k hk => by omega) (by show CntAt w p (((0 : Nat) : Int) - 1); rw [show (((0 : Nat) : Int) - 1) = -1 by decide]; exact hp) (fun n W W' hs h hb => h.below hb hpl) (fun x y _ _ _ _ => hψ x y) ?_).mono ?_
  · intro i j hi hj W' hb hJ
    refine (hf i j _ hi hj rfl W' hb hJ).mono ?_
    rintro e w' ⟨he, h9, h10⟩
    refine ⟨he, h9, ?_⟩
    rw [show ((j * Wn + i + 1 : Nat) : Int) - 1 = ((j * Wn + i : Nat) : Int) by omega]
    exact h10
  · rintro e w' ⟨h9, h10, _⟩
    exact ⟨h9, h10.lowp (by omega)⟩

/-- the number of a cell by its row and column -/
theorem cell_ij {X Y : Int} {Wn : Nat} {i j k : Nat} (h : k = j * Wn + i) : (cellNo X Y Wn (X + (i : Int)) (Y + (j : Int))).toNat = k := by
  unfold cellNo
  rw [show Y + (j : Int) - Y = (j : Int) by omega, ← Int.natCast_mul]
  omega
theorem cell_lt {Wn Hn i j k : Nat} (hi : i < Wn) (hj : j < Hn) (h : k = j * Wn + i) : k < Hn * Wn := by
  have := Nat.mul_le_mul_right Wn (show j + 1 ≤ Hn from hj)
  rw [Nat.add_mul, Nat.one_mul] at this
  omega

/-! ### Ease of a share -/
theorem shareE_of {t : Nat} (h : Share t) : shareE t = 0 := by
  refine shareE_ok h.1 ?_
  have a : lss t 0 = false := by
    have : lss t 0 = decide (Ieee.single.V t < Ieee.single.V 0) := Ieee.single.order_lt h.1 Ieee.Format.const_0.1
    rw [this, Ieee.Format.const_0.2.1]; have := h.2.1; simp; grind
  have b : gtr t 1065353216 = false := by
    have : gtr t 1065353216 = decide (Ieee.single.V 1065353216 < Ieee.single.V t) := Ieee.single.order_gt h.1 Ieee.Format.const_1.1
    rw [this, Ieee.Format.const_1.2.1]; have := h.2.2; simp; grind
  rw [a, b]; rfl
theorem shapeease_any (t : Nat) (ht : t < 4294967296) (h : Share t) (w : World) : Calls Try.prog 212 #[.float .f32 t] w fun e w' => e = .returned (.float .f32 (easeF t)) ∧ Below w.heap.size w w' := by
  have K := Lib.hid (fun w => Ease_yes t ht (shareE_of h) h w)
  clear ht h
  go_enter Try.func212, Try.ntmps212
  go_wp2_with fail
  refine (K.out _).mono ?_
  rintro e w1 ⟨rfl, b1⟩
  have HB := Lib.hid b1
  clear b1
  go_wp2_with fail
  go_ret
  exact ⟨rfl, HB.out⟩
end Go.Proofs.Ytnfebeebjelgbaa
