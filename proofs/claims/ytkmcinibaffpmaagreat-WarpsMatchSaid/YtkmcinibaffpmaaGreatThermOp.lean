import Derived.Test.YtkmcinibaffpmaaGreatThermFn
namespace Go.Proofs.YtkmcinibaffpmaaGreat
open Go.ChangeShapes Go.WideShapes Go.ChangeAt Go.RowKit
open Ieee.Format (fin finE htE allFin allHt all_true all_false mulF subF addF Ht Bd divF rootF floorF easeF mixF)
set_option linter.unusedVariables false
open Ieee.Format (addF_lt)

/-- three boxes: a field, something, an empty field -/
theorem box_fbz (w : World) (X Y W H : Int) (v : Value) (cs : Array Value) (t : TypeId) : ∀ W0, W0 = ((w.alloc (.cells #[.int .i64 X, .int .i64 Y, .int .i64 W, .int .i64 H, v] 32)).alloc (.cells cs t)).alloc (.cells #[.int .i64 0, .int .i64 0, .int .i64 0, .int .i64 0, .slice none 0 0] 32) →
    Fld W0 w.heap.size X Y W H v ∧ Blk W0 (w.heap.size + 1) cs t ∧ Fld W0 (w.heap.size + 1 + 1) 0 0 0 0 (.slice none 0 0) ∧ Below w.heap.size w W0 ∧ W0.heap.size = w.heap.size + 3 := by
  rintro _ rfl
  refine ⟨((Fld.new w X Y W H v).alloc _).alloc _, ?_, ?_, (by repeat (first | with_reducible exact Below.refl _ _ | with_reducible apply Below.drew | with_reducible refine below_drewN ?_ _ | (with_reducible refine Below.setCell ?_ ?_ _; rotate_left; focus (first | omega | (simp <;> omega))) | (with_reducible refine Below.alloc ?_ ?_ _; rotate_left; focus (first | omega | (simp <;> omega))))), by simp⟩
  · have := (Blk.new (w.alloc (.cells #[.int .i64 X, .int .i64 Y, .int .i64 W, .int .i64 H, v] 32)) cs t).alloc (.cells #[.int .i64 0, .int .i64 0, .int .i64 0, .int .i64 0, .slice none 0 0] 32)
    simpa using this
  · have := Fld.new ((w.alloc (.cells #[.int .i64 X, .int .i64 Y, .int .i64 W, .int .i64 H, v] 32)).alloc (.cells cs t)) 0 0 0 0 (.slice none 0 0)
    simpa using this

theorem OutV.base {c X Y W H : Int} {m : List Nat} {w : World} {B B' : Nat} {x y p q : Int} {a : Option Addr} {n k : Nat} (h : OutV c X Y W H m w B x y p q a n k) (hb : B' ≤ B) : OutV c X Y W H m w B' x y p q a n k := by
  rcases h with h | ⟨h0, h1, h2, h3, h4, g, h5, h6, h7⟩
  · exact .inl h
  · exact .inr ⟨h0, h1, h2, h3, h4, g, h5, h6, h7.base hb⟩

def ThP (i x : Nat) : Prop := Bd (20 + 8 * i) x ∧ x < 4294967296
theorem ThP.zero (i : Nat) : ThP i 0 := ⟨(Ieee.Format.Ht.bd (show Ht 0 by decide)).mono (by omega), by decide⟩
theorem ThP.next {T R i n s e w v : Nat} (hW : WearOk T R) (hi : i ≤ 7) (hn : ThP i n) (hs : ThP i s) (he : ThP i e) (hw : ThP i w) (hv : ThP i v) : ThP (i + 1) (thermalF T R n s e w v) :=
  ⟨(addT_bd hW hn.1 hs.1 he.1 hw.1 hv.1 (by omega) (by omega) 4 (by omega)).mono (by omega), addF_lt _ _⟩
theorem ThP.all {X Y : Int} {Wn Hn : Nat} {l : List Nat} (hr : Right X Y Wn Hn l) (h : ∀ x ∈ l, x < 4294967296) : ∀ x ∈ l, ThP 0 x := fun x hx => ⟨(hr.ht x hx).bd, h x hx⟩

def thermC (T R : Nat) (X Y : Int) (Wn Hn : Nat) (l : List Nat) (N : Nat) : Int :=
  if Wn < 1 + 2 * N ∨ Hn < 1 + 2 * N then 10 else if allHt (stepsL (thermalF T R) X Y Wn Hn l N) = true then 0 else 3

def movedE (T R : Nat) (n : Int) (a b : Nat) : Int := if wearE T R n ≠ 0 then wearE T R n else htE [a, b]
def movedV (T R : Nat) (n : Int) (a b : Nat) : Nat := if movedE T R n a b = 0 then movedF T R a b else 0
theorem movedF_ht {T R a b : Nat} (hW : WearOk T R) (ha : Ht a) (hb : Ht b) : Ht (movedF T R a b) := by
  have := (moved_bd hW (Ieee.Format.Ht.bd ha) (Ieee.Format.Ht.bd hb) (by omega) (by omega)).2.2.2
  exact Ieee.Format.Ht.of ⟨this.2.1, this.2.2⟩
theorem movedE_w {T R : Nat} {n : Int} {a b : Nat} (h : wearE T R n ≠ 0) : movedE T R n a b = wearE T R n ∧ movedV T R n a b = 0 := by
  have e : movedE T R n a b = wearE T R n := by unfold movedE; rw [if_pos h]
  exact ⟨e, by unfold movedV; rw [e, if_neg h]⟩
theorem movedE_h {T R : Nat} {n : Int} {a b : Nat} (h : wearE T R n = 0) (h2 : htE [a, b] ≠ 0) : movedE T R n a b = htE [a, b] ∧ movedV T R n a b = 0 := by
  have e : movedE T R n a b = htE [a, b] := by unfold movedE; rw [if_neg (by omega)]
  exact ⟨e, by unfold movedV; rw [e, if_neg h2]⟩
theorem movedE_ok {T R : Nat} {n : Int} {a b : Nat} (h : wearE T R n = 0) (h2 : htE [a, b] = 0) : movedE T R n a b = 0 ∧ movedV T R n a b = movedF T R a b := by
  have e : movedE T R n a b = 0 := by unfold movedE; rw [if_neg (by omega)]; exact h2
  exact ⟨e, by unfold movedV; rw [e, if_pos rfl]⟩
theorem ret_f32e2 {x y : Nat} {c d : Int} (h : x = y) (h' : c = d) : Ending.returned (.tuple #[.float .f32 x, .int .i64 c]) = .returned (.tuple #[.float .f32 y, .int .i64 d]) := by rw [h, h']
end Go.Proofs.YtkmcinibaffpmaaGreat
