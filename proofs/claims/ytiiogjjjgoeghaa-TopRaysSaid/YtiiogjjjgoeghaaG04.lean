import Derived.Test.YtiiogjjjgoeghaaG03
import Derived.Test.YtiiogjjjgoeghaaRows
import Derived.Test.YtiiogjjjgoeghaaG01
import Derived.WalkKit
import Derived.ProofKit
import Derived.OpenShut
import Derived.WalkLawsBesides
import Derived.WalkSpells
import Derived.Deep.QuietTactic
import Derived.BigQuiet
import Derived.Lib.Hide
import Derived.Laws.Externs
import Derived.WalkSmall
import Derived.Deep.Draws
import Derived.Laws.BitsAllLaws
import Derived.Outline
import Derived.RegionTactic
import Derived.ChangeAlike
import Derived.BigRegion
import Derived.Deep.Cut
import Derived.Laws.StructEq
import Derived.OwnWalk
import Derived.Laws.OwnMore
import Derived.Deep.RegionHeld3
import Derived.Deep.RegionWith
import Derived.StillTailTactics
import Derived.Shelf.Abstract
namespace Ieee
namespace Format
open Go
set_option linter.unusedVariables false
set_option linter.unusedSimpArgs false

/-! ### the best of the strikes -/
/-- behind one more cell -/
def upB (S : Option (Nat × Nat)) (k : Nat) (o : Option Nat) : Option (Nat × Nat) :=
  match o with
  | none => S
  | some t => match S with
    | none => some (k, t)
    | some (k0, t0) => if single.V t < single.V t0 ∨ (single.V t = single.V t0 ∧ k < k0) then some (k, t) else S
/-- the best strike of a set of cells -/
def Mn (st : Nat → Option Nat) (P : Nat → Prop) (S : Option (Nat × Nat)) : Prop :=
  match S with
  | none => ∀ k, P k → st k = none
  | some (k0, t0) => P k0 ∧ st k0 = some t0 ∧ ∀ k t, P k → st k = some t → single.V t0 < single.V t ∨ (single.V t0 = single.V t ∧ k0 ≤ k)
theorem Mn.iff {st : Nat → Option Nat} {P Q : Nat → Prop} {S : Option (Nat × Nat)} (h : Mn st P S) (hPQ : ∀ k, P k ↔ Q k) : Mn st Q S := by
  obtain rfl : P = Q := funext fun k => propext (hPQ k)
  exact h
theorem Mn.unique {st : Nat → Option Nat} {P : Nat → Prop} {S T : Option (Nat × Nat)} (h : Mn st P S) (h' : Mn st P T) : S = T := by
  match S, T, h, h' with
  | none, none, _, _ => rfl
  | none, some (k, t), h, h' => have := h k h'.1; rw [h'.2.1] at this; cases this
  | some (k, t), none, h, h' => have := h' k h.1; rw [h.2.1] at this; cases this
  | some (k, t), some (k', t'), h, h' =>
    have a := h.2.2 k' t' h'.1 h'.2.1
    have b := h'.2.2 k t h.1 h.2.1
    have hk : k = k' := by
      rcases a with a | a
      · rcases b with b | b
        · grind
        · grind
      · rcases b with b | b
        · grind
        · omega
    subst hk
    have e := h.2.1.symm.trans h'.2.1
    rw [Option.some.inj e]
theorem Mn.start (st : Nat → Option Nat) : Mn st (fun _ => False) none := fun k h => h.elim
/-- one more cell -/
theorem Mn.up {st : Nat → Option Nat} {P : Nat → Prop} {S : Option (Nat × Nat)} (h : Mn st P S) (k : Nat) : Mn st (fun j => P j ∨ j = k) (upB S k (st k)) := by
  unfold upB
  cases ho : st k with
  | none =>
    match S, h with
    | none, h => exact fun j hj => hj.elim (h j) (fun e => by rw [e]; exact ho)
    | some (k0, t0), h =>
      refine ⟨.inl h.1, h.2.1, fun j t hj ht => ?_⟩
      rcases hj with hj | rfl
      · exact h.2.2 j t hj ht
      · rw [ho] at ht; cases ht
  | some t =>
    match S, h with
    | none, h =>
      refine ⟨.inr rfl, ho, fun j t' hj ht => ?_⟩
      rcases hj with hj | rfl
      · rw [h j hj] at ht; cases ht
      · rw [ho] at ht
        obtain rfl := Option.some.inj ht
        exact .inr ⟨rfl, Nat.le_refl _⟩
    | some (k0, t0), h =>
      obtain ⟨h1, h2, h3⟩ := h
      dsimp only
      by_cases hc : single.V t < single.V t0 ∨ (single.V t = single.V t0 ∧ k < k0)
      · rw [if_pos hc]
        refine ⟨.inr rfl, ho, fun j t' hj ht => ?_⟩
        rcases hj with hj | rfl
        · have := h3 j t' hj ht
          rcases hc with hc | ⟨hc, hk⟩
          · rcases this with a | ⟨a, _⟩
            · exact .inl (by grind)
            · exact .inl (by grind)
          · rcases this with a | ⟨a, b⟩
            · exact .inl (by grind)
            · exact .inr ⟨by grind, by omega⟩
        · rw [ho] at ht
          obtain rfl := Option.some.inj ht
          exact .inr ⟨rfl, Nat.le_refl _⟩
      · rw [if_neg hc]
        refine ⟨.inl h1, h2, fun j t' hj ht => ?_⟩
        rcases hj with hj | rfl
        · exact h3 j t' hj ht
        · rw [ho] at ht
          obtain rfl := Option.some.inj ht
          rcases rat_tri (single.V t) (single.V t0) with c | c | c
          · exact absurd (.inl c) hc
          · exact .inr ⟨c.symm, by
              rcases Nat.lt_or_ge j k0 with q | q
              · exact absurd (.inr ⟨c, q⟩) hc
              · exact q⟩
          · exact .inl c
/-- cells that are no better than what is found -/
theorem Mn.skip {st : Nat → Option Nat} {P Q : Nat → Prop} {S : Option (Nat × Nat)} (h : Mn st P S) (hq : ∀ k t, Q k → st k = some t → ∃ k0 t0, S = some (k0, t0) ∧ single.V t0 < single.V t) : Mn st (fun j => P j ∨ Q j) S := by
  match S, h with
  | none, h =>
    intro j hj
    rcases hj with hj | hj
    · exact h j hj
    · cases ho : st j with
      | none => rfl
      | some t =>
        obtain ⟨k0, t0, e, _⟩ := hq j t hj ho
        cases e
  | some (k0, t0), h =>
    refine ⟨.inl h.1, h.2.1, fun j t hj ht => ?_⟩
    rcases hj with hj | hj
    · exact h.2.2 j t hj ht
    · obtain ⟨k1, t1, e, hl⟩ := hq j t hj ht
      cases e
      exact .inl hl
theorem Mn.none {st : Nat → Option Nat} {P Q : Nat → Prop} {S : Option (Nat × Nat)} (h : Mn st P S) (hq : ∀ k, Q k → st k = none) : Mn st (fun j => P j ∨ Q j) S :=
  h.skip fun k t hk ht => by rw [hq k hk] at ht; cases ht

/-! ### levels of boxes -/
/-- how many boxes there are at a level -/
def lvN (n : Nat) : Nat → Nat
  | 0 => n
  | l + 1 => (lvN n l + 1) / 2
/-- where a box begins -/
def ed (n l j : Nat) : Nat := min (j * 2 ^ l) n
theorem lvN_le {n : Nat} : ∀ l, n ≤ lvN n l * 2 ^ l
  | 0 => by simp [lvN]
  | l + 1 => by
    have ih := @lvN_le n l
    have h : lvN n l ≤ (lvN n l + 1) / 2 * 2 := by omega
    have := Nat.mul_le_mul_right (2 ^ l) h
    show n ≤ (lvN n l + 1) / 2 * 2 ^ (l + 1)
    rw [Nat.pow_succ, Nat.mul_comm (2 ^ l) 2, ← Nat.mul_assoc]
    omega
theorem lvN_pos {n : Nat} (h : 1 ≤ n) : ∀ l, 1 ≤ lvN n l
  | 0 => h
  | l + 1 => by have := lvN_pos h l; unfold lvN; omega
/-- each box of a level holds a cell -/
theorem lvN_lt {n : Nat} (h : 1 ≤ n) : ∀ l j, j < lvN n l → j * 2 ^ l < n
  | 0, j, hj => by simpa [lvN] using hj
  | l + 1, j, hj => by
    have h2 : 2 * j < lvN n l := by unfold lvN at hj; omega
    have := lvN_lt h l (2 * j) h2
    rw [Nat.pow_succ]
    have e : j * (2 ^ l * 2) = 2 * j * 2 ^ l := by rw [Nat.mul_comm (2 ^ l) 2, ← Nat.mul_assoc, Nat.mul_comm j 2]
    omega
theorem ed_two (n l j : Nat) : ed n (l + 1) j = ed n l (2 * j) := by
  unfold ed
  rw [Nat.pow_succ, Nat.mul_comm (2 ^ l) 2, ← Nat.mul_assoc, Nat.mul_comm j 2]
theorem ed_mono {n l i j : Nat} (h : i ≤ j) : ed n l i ≤ ed n l j := by
  unfold ed
  have := Nat.mul_le_mul_right (2 ^ l) h
  omega
theorem ed_le (n l j : Nat) : ed n l j ≤ n := Nat.min_le_right _ _
theorem ed_end {n l j : Nat} (h : lvN n l ≤ j) : ed n l j = n := by
  unfold ed
  have a := @lvN_le n l
  have := Nat.mul_le_mul_right (2 ^ l) h
  omega
/-- the last of a box's parts ends where the box ends -/
theorem ed_last {n l j : Nat} : ed n l (min (2 * j + 2) (lvN n l)) = ed n (l + 1) (j + 1) := by
  rw [ed_two, show 2 * (j + 1) = 2 * j + 2 by omega]
  rcases Nat.lt_or_ge (lvN n l) (2 * j + 2) with h | h
  · rw [Nat.min_eq_right (by omega), ed_end (Nat.le_refl _), ed_end (by omega)]
  · rw [Nat.min_eq_left h]
/-- a box's first column, and how many it has, as the program reckons them -/
theorem ed_prog {n l j : Nat} (hn : 1 ≤ n) (hj : j < lvN n l) : ed n l j = j * 2 ^ l ∧ ed n l (j + 1) = j * 2 ^ l + min (2 ^ l) (n - j * 2 ^ l) ∧ ed n l j < ed n l (j + 1) := by
  have h := lvN_lt hn l j hj
  have p : 0 < 2 ^ l := Nat.pow_pos (by omega)
  unfold ed
  rw [Nat.add_mul, Nat.one_mul]
  refine ⟨by omega, by omega, by omega⟩
/-- the cells of a rectangle of a field of W columns -/
def Rc (W a b c d k : Nat) : Prop := ∃ i j, k = j * W + i ∧ (a ≤ i ∧ i < b) ∧ (c ≤ j ∧ j < d)
theorem Rc.empty_c {W a b c k : Nat} : ¬ Rc W a b c c k := fun ⟨i, j, _, _, h⟩ => by omega
theorem Rc.empty_a {W a c d k : Nat} : ¬ Rc W a a c d k := fun ⟨i, j, _, h, _⟩ => by omega
theorem Rc.right {W a b b2 c d k : Nat} (h1 : a ≤ b) (h2 : b ≤ b2) : Rc W a b2 c d k ↔ Rc W a b c d k ∨ Rc W b b2 c d k := by
  constructor
  · rintro ⟨i, j, hk, hi, hj⟩
    rcases Nat.lt_or_ge i b with q | q
    · exact .inl ⟨i, j, hk, ⟨hi.1, q⟩, hj⟩
    · exact .inr ⟨i, j, hk, ⟨q, hi.2⟩, hj⟩
  · rintro (⟨i, j, hk, hi, hj⟩ | ⟨i, j, hk, hi, hj⟩)
    · exact ⟨i, j, hk, ⟨hi.1, by omega⟩, hj⟩
    · exact ⟨i, j, hk, ⟨by omega, hi.2⟩, hj⟩
theorem Rc.under {W a b c d d2 k : Nat} (h1 : c ≤ d) (h2 : d ≤ d2) : Rc W a b c d2 k ↔ Rc W a b c d k ∨ Rc W a b d d2 k := by
  constructor
  · rintro ⟨i, j, hk, hi, hj⟩
    rcases Nat.lt_or_ge j d with q | q
    · exact .inl ⟨i, j, hk, hi, ⟨hj.1, q⟩⟩
    · exact .inr ⟨i, j, hk, hi, ⟨q, hj.2⟩⟩
  · rintro (⟨i, j, hk, hi, hj⟩ | ⟨i, j, hk, hi, hj⟩)
    · exact ⟨i, j, hk, hi, ⟨hj.1, by omega⟩⟩
    · exact ⟨i, j, hk, hi, ⟨by omega, hj.2⟩⟩
theorem Rc.one {W i j k : Nat} : Rc W i (i + 1) j (j + 1) k ↔ k = j * W + i := by
  constructor
  · rintro ⟨i', j', hk, hi, hj⟩
    obtain rfl : i' = i := by omega
    obtain rfl : j' = j := by omega
    exact hk
  · intro h
    exact ⟨i, j, h, ⟨Nat.le_refl _, by omega⟩, Nat.le_refl _, by omega⟩
theorem Rc.all {W H k : Nat} : Rc W 0 W 0 H k ↔ k < H * W := by
  constructor
  · rintro ⟨i, j, rfl, hi, hj⟩
    have := Nat.mul_le_mul_right W (show j + 1 ≤ H by omega)
    rw [Nat.add_mul, Nat.one_mul] at this
    omega
  · intro h
    have hW : 0 < W := by
      rcases Nat.eq_zero_or_pos W with e | e
      · subst e; simp at h
      · exact e
    refine ⟨k % W, k / W, ?_, ⟨Nat.zero_le _, Nat.mod_lt _ hW⟩, Nat.zero_le _, Nat.div_lt_of_lt_mul (by rw [Nat.mul_comm]; exact h)⟩
    have := Nat.div_add_mod k W
    rw [Nat.mul_comm]; exact this.symm
/-! ### the least and the greatest of values -/
def hiS (a : Nat) (l : List Nat) : Nat := l.foldl (fun h v => if single.V h < single.V v then v else h) a
def loS (a : Nat) (l : List Nat) : Nat := l.foldl (fun h v => if single.V v < single.V h then v else h) a
theorem hiS_append (a : Nat) (l : List Nat) (v : Nat) : hiS a (l ++ [v]) = if single.V (hiS a l) < single.V v then v else hiS a l := by unfold hiS; rw [List.foldl_append]; rfl
theorem loS_append (a : Nat) (l : List Nat) (v : Nat) : loS a (l ++ [v]) = if single.V v < single.V (loS a l) then v else loS a l := by unfold loS; rw [List.foldl_append]; rfl
theorem hiS_cons (a x : Nat) (l : List Nat) : hiS a (x :: l) = hiS (if single.V a < single.V x then x else a) l := rfl
theorem loS_cons (a x : Nat) (l : List Nat) : loS a (x :: l) = loS (if single.V x < single.V a then x else a) l := rfl
theorem hiS_ge : ∀ (l : List Nat) (a : Nat), single.V a ≤ single.V (hiS a l) ∧ ∀ v ∈ l, single.V v ≤ single.V (hiS a l)
  | [], a => ⟨Rat.le_refl, fun v hv => by cases hv⟩
  | x :: l, a => by
    rw [hiS_cons]
    obtain ⟨h1, h2⟩ := hiS_ge l (if single.V a < single.V x then x else a)
    have h3 : single.V a ≤ single.V (if single.V a < single.V x then x else a) ∧ single.V x ≤ single.V (if single.V a < single.V x then x else a) := by
      split
      · exact ⟨by grind, Rat.le_refl⟩
      · exact ⟨Rat.le_refl, by grind⟩
    refine ⟨by grind, fun v hv => ?_⟩
    rcases List.mem_cons.1 hv with rfl | q
    · grind
    · exact h2 v q
theorem hiS_mem : ∀ (l : List Nat) (a : Nat), hiS a l = a ∨ hiS a l ∈ l
  | [], a => .inl rfl
  | x :: l, a => by
    rw [hiS_cons]
    split
    · rcases hiS_mem l x with h | h
      · exact .inr (by rw [h]; simp)
      · exact .inr (List.mem_cons_of_mem _ h)
    · exact (hiS_mem l a).imp id (List.mem_cons_of_mem _)
theorem loS_mem : ∀ (l : List Nat) (a : Nat), loS a l = a ∨ loS a l ∈ l
  | [], a => .inl rfl
  | x :: l, a => by
    rw [loS_cons]
    split
    · rcases loS_mem l x with h | h
      · exact .inr (by rw [h]; simp)
      · exact .inr (List.mem_cons_of_mem _ h)
    · exact (loS_mem l a).imp id (List.mem_cons_of_mem _)
end Format
end Ieee

namespace Go.Proofs.Ytiiogjjjgoeghaa
open Go.ChangeShapes Go.WideShapes Go.ChangeAt Go.RowKit

theorem grown_trans {A B C : World} (h : RowKit.Grown A B) (h' : RowKit.Grown B C) : RowKit.Grown A C :=
  ⟨World.keptBut_trans h.1 h'.1, fun a => (h'.2.1 a).trans (h.2.1 a), Nat.le_trans h.2.2 h'.2.2⟩

def pick3 (x y n : Int) (j : Nat) : Int := if j = 0 then x else if j = 1 then y else n
def sh1 (a : Int) : Int := bits .xor .u32 a (a / 65536)
def sh2 (a : Int) : Int := bits .xor .u32 a (a / 8192)
def hstep (h k : Int) : Int := sh1 (sh2 (sh1 (bits .xor .u32 h (k % 4294967296)) * 2246822507 % 4294967296) * 3266489909 % 4294967296)
def hashTo (h x y n : Int) : Nat → Int
  | 0 => h
  | j + 1 => hstep (hashTo h x y n j) (pick3 x y n j)

end Go.Proofs.Ytiiogjjjgoeghaa

namespace Go.Proofs.Ytiiogjjjgoeghaa
open Go.ChangeShapes Go.WideShapes Go.ChangeAt Go.RowKit
open Ieee.Format (fin unitF signedF mulF subF addF)

theorem beq_cast (a b : Nat) : ((a : Int) == (b : Int)) = decide (a = b) := by
  rw [Bool.eq_iff_iff, beq_iff_eq, decide_eq_true_iff]; omega

end Go.Proofs.Ytiiogjjjgoeghaa

namespace Go.Proofs.Ytiiogjjjgoeghaa
open Go.ChangeShapes Go.WideShapes Go.ChangeAt Go.RowKit
theorem bcell {W w1 : World} (hb : Below W.heap.size W w1) : (∀ b o, b < W.heap.size → w1.cell? ⟨b, o, none⟩ = W.cell? ⟨b, o, none⟩) ∧ (∀ b o, b < W.heap.size → w1.frozen? ⟨b, o, none⟩ = W.frozen? ⟨b, o, none⟩) :=
  ⟨fun b o h => hb.cell (p := ⟨b, o, none⟩) h, fun b o h => hb.frozen (p := ⟨b, o, none⟩) h⟩
theorem ret_i64 {a b : Int} (h : a = b) : Ending.returned (.int .i64 a) = .returned (.int .i64 b) := by rw [h]

theorem ret_bool {a b : Bool} (h : a = b) : Ending.returned (.bool a) = .returned (.bool b) := by rw [h]

end Go.Proofs.Ytiiogjjjgoeghaa

namespace Go.Proofs.Ytiiogjjjgoeghaa
open Go.ChangeShapes Go.WideShapes Go.ChangeAt Go.RowKit
open Ieee.Format (fin heightE heightsE easeF ease1 ease2 ease3 mulF subF addF)
set_option linter.unusedVariables false

/-! ### what an operation on any floats gives: some float; a draw may have been made -/
theorem conv_some {P : Program} (src dst : TypeId) (s k : FloatKind) (b : Nat) (w : World) (hs : (P.underlying src).isSome = true) (hd : P.underlying dst = some (.float k)) :
    ∃ r n, (convert src dst (.float s b)).run P w = .ok (.float k r) (w.drewN n) := by
  obtain ⟨u, hs'⟩ := Option.isSome_iff_exists.1 hs
  have e : (convert src dst (.float s b)).run P w = (Conv.floatToFloat s b k).run P w := by
    cases u <;> simp [convert, run_underlying hs', run_underlying hd]
  rw [e]
  unfold Conv.floatToFloat
  split
  · exact ⟨b, 0, rfl⟩
  · split
    · exact ⟨_, 1, rfl⟩
    · exact ⟨_, 0, rfl⟩
    · dsimp only
      split
      · exact ⟨_, 1, rfl⟩
      · exact ⟨_, 0, rfl⟩
theorem arith_some {P : Program} (op : BinOp) (hop : op = .add ∨ op = .sub ∨ op = .mul ∨ op = .quo) (t : TypeId) (k : FloatKind) (x y : Nat) (w : World) :
    ∃ r n, (binOp op t (.float k x) (.float k y)).run P w = .ok (.float k r) (w.drewN n) := by
  rcases hop with rfl | rfl | rfl | rfl
  · cases hh : k.format.add x y with
    | some r => exact ⟨r, 0, by simp [binOp, Op.floatArith, hh]; rfl⟩
    | none => exact ⟨(Question.nanBits k x y).cut (w.tape w.drawn (.nanBits k x y)), 1, by simp [binOp, Op.floatArith, hh, Question.forced]; rfl⟩
  · cases hh : k.format.sub x y with
    | some r => exact ⟨r, 0, by simp [binOp, Op.floatArith, hh]; rfl⟩
    | none => exact ⟨(Question.nanBits k x y).cut (w.tape w.drawn (.nanBits k x y)), 1, by simp [binOp, Op.floatArith, hh, Question.forced]; rfl⟩
  · cases hh : k.format.mul x y with
    | some r => exact ⟨r, 0, by simp [binOp, Op.floatArith, hh]; rfl⟩
    | none => exact ⟨(Question.nanBits k x y).cut (w.tape w.drawn (.nanBits k x y)), 1, by simp [binOp, Op.floatArith, hh, Question.forced]; rfl⟩
  · cases hh : k.format.div x y with
    | some r => exact ⟨r, 0, by simp [binOp, Op.floatArith, hh]; rfl⟩
    | none => exact ⟨(Question.nanBits k x y).cut (w.tape w.drawn (.nanBits k x y)), 1, by simp [binOp, Op.floatArith, hh, Question.forced]; rfl⟩

/-- some single; nothing in memory has turned -/
def SomeF (w : World) (e : Ending) (w' : World) : Prop := ∃ r n, e = .returned (.float .f32 r) ∧ w' = w.drewN n

theorem finite_any (x : Nat) (w : World) : Calls Try.prog 24 #[.float .f32 x] w fun e w' => e = .returned (.bool (decide (fin Ieee.single x))) ∧ w = w' := by
  have ht := Ieee.Format.finite_test x
  rw [← ht]
  change Calls Try.prog 24 #[.float .f32 x] w fun e w' => e = .returned (.bool ((FloatKind.f32.format.order x 4286578687 == some .gt || FloatKind.f32.format.order x 4286578687 == some .eq) && (FloatKind.f32.format.order x 2139095039 == some .lt || FloatKind.f32.format.order x 2139095039 == some .eq))) ∧ w = w'
  clear ht
  rcases Bool.eq_false_or_eq_true (FloatKind.f32.format.order x 4286578687 == some .gt || FloatKind.f32.format.order x 4286578687 == some .eq) with h | h
  all_goals
    go_enter Try.func24, Try.ntmps24
    go_wp2
    go_ret
    exact ⟨by simp [h], rfl⟩
end Go.Proofs.Ytiiogjjjgoeghaa

namespace Go.Proofs.Ytiiogjjjgoeghaa
open Go.ChangeShapes Go.WideShapes Go.ChangeAt Go.RowKit
open Ieee.Format (fin finE htE allFin allHt all_true all_false finE_ok finE_bad htE_ok htE_far htE_bad dmag heightE heightsE easeF ease1 ease2 ease3 mulF subF addF)
set_option linter.unusedVariables false

/-- the singles 'l' lie at 'a' -/
def SRow (w : World) (a : Option Addr) (l : List Nat) : Prop :=
  (l.length ≤ 1099511627776 ∧ ∀ x ∈ l, x < 4294967296) ∧ (l = [] ∨ ∃ b o, a = some ⟨b, o, none⟩ ∧ ∀ i, i < l.length → w.cell? ⟨b, o + i, none⟩ = some (.float .f32 (l.getD i 0)))

theorem height_any (x : Nat) (w : World) : Calls Try.prog 25 #[.float .f32 x] w fun e w' => e = .returned (.bool (decide (x % 2147483648 ≤ 1233125376))) ∧ w = w' := by
  have ht := Ieee.Format.height_test x
  rw [← ht]
  change Calls Try.prog 25 #[.float .f32 x] w fun e w' => e = .returned (.bool ((FloatKind.f32.format.order x 3380609024 == some .gt || FloatKind.f32.format.order x 3380609024 == some .eq) && (FloatKind.f32.format.order x 1233125376 == some .lt || FloatKind.f32.format.order x 1233125376 == some .eq))) ∧ w = w'
  clear ht
  rcases Bool.eq_false_or_eq_true (FloatKind.f32.format.order x 3380609024 == some .gt || FloatKind.f32.format.order x 3380609024 == some .eq) with h | h
  all_goals
    go_enter Try.func25, Try.ntmps25
    go_wp2
    go_ret
    exact ⟨by simp [h], rfl⟩

theorem heights_any (a : Option Addr) (cap : Nat) (l : List Nat) (w : World) (hl : SRow w a l) :
    Calls Try.prog 16 #[.slice a l.length cap] w fun e w' => e = .returned (.int .i64 (htE l)) ∧ w = w' := by
  obtain ⟨⟨hm, hwf⟩, hl⟩ := hl
  have HWF := Lib.hid hwf
  clear hwf
  rcases hl with rfl | ⟨b, o, rfl, hc⟩
  · go_enter Try.func16, Try.ntmps16
    go_wp2
    refine wp_loop_rounds 1 ?_
    rw [rounds_succ]
    go_wp2
    refine wp_loop_rounds 1 ?_
    rw [rounds_succ]
    go_wp2
    go_ret
    exact ⟨rfl, rfl⟩
  · have HC := Lib.hid hc
    clear hc
    go_enter Try.func16, Try.ntmps16
    go_wp2
    go_loop [4, 9] (fun _ i => ∃ k : Nat, k ≤ l.length ∧ i = .int .i64 k ∧ ∀ j, j < k → fin Ieee.single (l.getD j 0)) (fun _ i => l.length - (intOf i).toNat)
    case atStart => exact ⟨0, by omega, rfl, by omega⟩
    case round =>
      obtain ⟨k, hk, rfl, hf⟩ := hrel
      have HF := Lib.hid hf
      clear hf
      by_cases hlt : k < l.length
      · have hcell := HC.out k hlt
        obtain ⟨x, hxe⟩ : ∃ x, x = l.getD k 0 := ⟨_, rfl⟩
        rw [← hxe] at hcell
        have HE := Lib.hid hxe
        clear hxe
        by_cases hx : fin Ieee.single x
        · have HX := Lib.hid hx
          have hxb : decide (fin Ieee.single x) = true := decide_eq_true hx
          clear hx
          go_wp2_with (go_at_call 24; refine (finite_any _ _).mono ?_; rintro e w' ⟨rfl, rfl⟩)
          go_round
          case rel => exact ⟨k + 1, by omega, by go_num, fun j hj => by by_cases c : j = k; (subst c; rw [← HE.out]; exact HX.out); exact HF.out j (by omega)⟩
          case measure => simp [intOf]; omega
        · have hxb : decide (fin Ieee.single x) = false := decide_eq_false hx
          have hfin := Lib.hid (htE_bad <| all_false (p := fun x => fin Ieee.single x) hlt (by rw [← HE.out]; exact hx))
          clear hx
          go_wp2_with (go_at_call 24; refine (finite_any _ _).mono ?_; rintro e w' ⟨rfl, rfl⟩)
          go_ret
          exact ⟨ret_i64 hfin.out.symm, rfl⟩
      · have hke : k = l.length := by omega
        have hall := Lib.hid (all_true (p := fun x => fin Ieee.single x) (l := l) (by rw [← hke]; exact HF.out))
        clear hke HF
        go_wp2
        go_loop [6, 19] (fun _ i => ∃ k : Nat, k ≤ l.length ∧ i = .int .i64 k ∧ ∀ j, j < k → (l.getD j 0) % 2147483648 ≤ 1233125376) (fun _ i => l.length - (intOf i).toNat)
        case atStart => exact ⟨0, by omega, rfl, by omega⟩
        case round =>
          clear hlt hk
          obtain ⟨k, hk, rfl, hf⟩ := hrel
          have HF := Lib.hid hf
          clear hf
          by_cases hlt : k < l.length
          · have hcell := HC.out k hlt
            obtain ⟨x, hxe⟩ : ∃ x, x = l.getD k 0 := ⟨_, rfl⟩
            rw [← hxe] at hcell
            have HE := Lib.hid hxe
            clear hxe
            by_cases hx : x % 2147483648 ≤ 1233125376
            · have HX := Lib.hid hx
              have hxb : decide (x % 2147483648 ≤ 1233125376) = true := decide_eq_true hx
              clear hx
              go_wp2_with (go_at_call 25; refine (height_any _ _).mono ?_; rintro e w' ⟨rfl, rfl⟩)
              go_round
              case rel => exact ⟨k + 1, by omega, by go_num, fun j hj => by by_cases c : j = k; (subst c; rw [← HE.out]; exact HX.out); exact HF.out j (by omega)⟩
              case measure => simp [intOf]; omega
            · have hxb : decide (x % 2147483648 ≤ 1233125376) = false := decide_eq_false hx
              have hfin := Lib.hid (htE_far hall.out <| all_false (p := fun x => x % 2147483648 ≤ 1233125376) hlt (by rw [← HE.out]; exact hx))
              clear hx
              go_wp2_with (go_at_call 25; refine (height_any _ _).mono ?_; rintro e w' ⟨rfl, rfl⟩)
              go_ret
              exact ⟨ret_i64 hfin.out.symm, rfl⟩
          · have hke : k = l.length := by omega
            have hfin := Lib.hid (htE_ok hall.out <| all_true (p := fun x => x % 2147483648 ≤ 1233125376) (l := l) (by rw [← hke]; exact HF.out))
            clear hke
            go_wp2
            go_ret
            exact ⟨ret_i64 hfin.out.symm, rfl⟩

/-! ### the reference's tests -/
theorem and_mag32 (x : Nat) (h : x < 4294967296) : bits .andNot .u32 (x : Int) 2147483648 = ((x % 2147483648 : Nat) : Int) := by
  have := u32_andNot_nat x 2147483648 h (by decide)
  rw [show ((2147483648 : Nat) : Int) = 2147483648 from rfl] at this
  rw [this]
  congr 1
  exact Nat.and_two_pow_sub_one_eq_mod x 31
theorem mag64 (x : Nat) (h : x < 2 ^ 64) : bits .andNot .u64 (x : Int) 9223372036854775808 = ((dmag x : Nat) : Int) := by
  have := u64_andNot_nat x 9223372036854775808 h (by decide)
  rw [show ((9223372036854775808 : Nat) : Int) = 9223372036854775808 from rfl] at this
  rw [this]
  congr 1
  unfold dmag Ieee.Format.rung
  rw [Ieee.Format.double_sw]
  exact Nat.and_two_pow_sub_one_eq_mod x 63
end Go.Proofs.Ytiiogjjjgoeghaa

namespace Go.Proofs.Ytiiogjjjgoeghaa
open Go.ChangeShapes Go.WideShapes Go.ChangeAt Go.RowKit
open Ieee.Format (fin finE htE allFin allHt all_true all_false finE_ok finE_bad htE_ok htE_far htE_bad dmag heightE heightsE easeF ease1 ease2 ease3 mulF subF addF)
set_option linter.unusedVariables false

theorem mag_gt_ht (x : Nat) (hx : fin Ieee.single x) : (FloatKind.f32.format.order (x % 2147483648) 1233125376 == some .gt) = !decide (x % 2147483648 ≤ 1233125376) := by
  change (Ieee.single.order (x % 2147483648) 1233125376 == some .gt) = _
  have hl : x % 2147483648 < 2147483648 := Nat.mod_lt _ (by decide)
  have e : x % 2147483648 = Ieee.single.word false (x % 2147483648) := rfl
  have hr : Ieee.single.rung (x % 2147483648) = x % 2147483648 := by rw [Ieee.Format.rung_lit]; omega
  have hs : Ieee.single.sgn (x % 2147483648) = false := by
    rw [Ieee.Format.sgn_lit, Nat.div_eq_of_lt hl]; rfl
  rw [Ieee.Format.fin_lit] at hx
  rw [Ieee.Format.mag_gt' Ieee.single Ieee.Format.single_bi hs (by rw [hr, Ieee.Format.single_inf]; omega) (c := 1233125376) (by decide) (by decide), hr, Bool.eq_iff_iff, show Ieee.single.rung 1233125376 = 1233125376 from by decide]
  simp

def outE (l : List Nat) : Int := if htE l = 0 then 0 else 3
end Go.Proofs.Ytiiogjjjgoeghaa

namespace Go.Proofs.Ytiiogjjjgoeghaa
open Go.ChangeShapes Go.WideShapes Go.ChangeAt Go.RowKit
def chk (X Y W H : Int) : Int :=
  if W < 1 ∨ 512 < W ∨ H < 1 ∨ 512 < H then 3 else if 65536 < W * H then 4
  else if X < -4194304 ∨ Y < -4194304 ∨ 4194304 - W < X ∨ 4194304 - H < Y then 5 else 0

theorem side_mul {W H : Int} (h1 : 1 ≤ W) (h2 : W ≤ 512) (h3 : 1 ≤ H) (h4 : H ≤ 512) : wrap64 (W * H) = W * H ∧ wrap64 (4194304 - H) = 4194304 - H := by
  have a := Int.mul_le_mul h2 h4 (by omega) (by omega)
  have b := Int.mul_le_mul h1 h3 (by omega) (by omega)
  unfold wrap64
  omega

abbrev reg (X Y W H : Int) : Value := .agg #[.int .i64 X, .int .i64 Y, .int .i64 W, .int .i64 H]

theorem check1 (X Y W H : Int) (w : World) : Calls Try.prog 8 #[reg X Y W H] w fun e w' => e = .returned (.int .i64 (chk X Y W H)) ∧ Below w.heap.size w w' := by
  go_enter Try.func8, Try.ntmps8
  go_wp2
  all_goals
    go_ret
    refine ⟨ret_i64 ?_, (by repeat (first | with_reducible exact Below.refl _ _ | with_reducible apply Below.drew | with_reducible refine below_drewN ?_ _ | (with_reducible refine Below.setCell ?_ ?_ _; rotate_left; focus (simp <;> omega)) | (with_reducible refine Below.alloc ?_ ?_ _; rotate_left; focus (simp <;> omega))))⟩
    have sm := @side_mul W H
    show _ = chk X Y W H
    unfold chk; revert sm; grind

theorem chk_zero {X Y W H : Int} (h : chk X Y W H = 0) : 1 ≤ W ∧ W ≤ 512 ∧ 1 ≤ H ∧ H ≤ 512 ∧ -4194304 ≤ X ∧ -4194304 ≤ Y ∧ X ≤ 4194304 - W ∧ Y ≤ 4194304 - H ∧ W * H ≤ 65536 := by
  unfold chk at h; split at h
  · omega
  · split at h
    · omega
    · split at h <;> omega

/-- what Grow returns -/
def growE (X Y W H n : Int) : Int := if chk X Y W H ≠ 0 then chk X Y W H else if n < -512 ∨ 512 < n then 3 else chk (X - n) (Y - n) (W + 2 * n) (H + 2 * n)
def growR (X Y W H n : Int) : Value := if growE X Y W H n = 0 then reg (X - n) (Y - n) (W + 2 * n) (H + 2 * n) else reg 0 0 0 0

theorem grow_a {X Y W H n : Int} (h : chk X Y W H ≠ 0) : growE X Y W H n = chk X Y W H ∧ growR X Y W H n = reg 0 0 0 0 := by
  unfold growR growE; rw [if_pos h, if_neg h]; exact ⟨rfl, rfl⟩
theorem grow_b {X Y W H n : Int} (h : chk X Y W H = 0) (hn : n < -512 ∨ 512 < n) : growE X Y W H n = 3 ∧ growR X Y W H n = reg 0 0 0 0 := by
  unfold growR growE; rw [if_neg (by simpa using h), if_pos hn]; exact ⟨rfl, rfl⟩
theorem grow_c {X Y W H n : Int} (h : chk X Y W H = 0) (hn : ¬ (n < -512 ∨ 512 < n)) (h2 : chk (X - n) (Y - n) (W + 2 * n) (H + 2 * n) ≠ 0) : growE X Y W H n = chk (X - n) (Y - n) (W + 2 * n) (H + 2 * n) ∧ growR X Y W H n = reg 0 0 0 0 := by
  unfold growR growE; rw [if_neg (by simpa using h), if_neg hn, if_neg h2]; exact ⟨rfl, rfl⟩
theorem grow_d {X Y W H n : Int} (h : chk X Y W H = 0) (hn : ¬ (n < -512 ∨ 512 < n)) (h2 : chk (X - n) (Y - n) (W + 2 * n) (H + 2 * n) = 0) : growE X Y W H n = 0 ∧ growR X Y W H n = reg (X - n) (Y - n) (W + 2 * n) (H + 2 * n) := by
  unfold growR growE; rw [if_neg (by simpa using h), if_neg hn, if_pos h2]; exact ⟨h2, rfl⟩

theorem ret_grow {r r' : Value} {a b : Int} (h : r = r') (h' : a = b) : Ending.returned (.tuple #[r, .int .i64 a]) = .returned (.tuple #[r', .int .i64 b]) := by rw [h, h']

end Go.Proofs.Ytiiogjjjgoeghaa

namespace Go.Proofs.Ytiiogjjjgoeghaa
open Go.ChangeShapes Go.WideShapes Go.ChangeAt Go.RowKit
end Go.Proofs.Ytiiogjjjgoeghaa

namespace Go.Proofs.Ytiiogjjjgoeghaa
open Go.ChangeShapes Go.WideShapes Go.ChangeAt Go.RowKit
set_option linter.unusedVariables false
def insB (a b c d e f g h : Int) : Bool := decide (e ≤ a ∧ f ≤ b ∧ a + c ≤ e + g ∧ b + d ≤ f + h)
def mn (a b : Int) : Int := if b < a then b else a
def mx (a b : Int) : Int := if a < b then b else a
def cmOk (a b c d e f g h : Int) : Bool := decide (1 ≤ mn (a + c) (e + g) - mx a e ∧ 1 ≤ mn (b + d) (f + h) - mx b f)
def cmR (a b c d e f g h : Int) : Value := if cmOk a b c d e f g h then reg (mx a e) (mx b f) (mn (a + c) (e + g) - mx a e) (mn (b + d) (f + h) - mx b f) else reg 0 0 0 0

theorem cm_parts {a b c d e f g h x y p q : Int} (hx : mx a e = x) (hy : mx b f = y) (hp : mn (a + c) (e + g) - x = p) (hq : mn (b + d) (f + h) - y = q) :
    (1 ≤ p ∧ 1 ≤ q → cmOk a b c d e f g h = true ∧ cmR a b c d e f g h = reg x y p q) ∧ (¬ (1 ≤ p ∧ 1 ≤ q) → cmOk a b c d e f g h = false ∧ cmR a b c d e f g h = reg 0 0 0 0) := by
  subst hx hy hp hq
  constructor
  · intro hh
    have : cmOk a b c d e f g h = true := by unfold cmOk; exact decide_eq_true hh
    unfold cmR; rw [this]; exact ⟨rfl, rfl⟩
  · intro hh
    have : cmOk a b c d e f g h = false := by unfold cmOk; exact decide_eq_false hh
    unfold cmR; rw [this]; exact ⟨rfl, rfl⟩

theorem ret_common {r r' : Value} {a b : Bool} (h : r = r') (h' : a = b) : Ending.returned (.tuple #[r, .bool a]) = .returned (.tuple #[r', .bool b]) := by rw [h, h']

end Go.Proofs.Ytiiogjjjgoeghaa

namespace Go.Proofs.Ytiiogjjjgoeghaa
open Go.ChangeShapes Go.WideShapes Go.ChangeAt Go.RowKit
set_option linter.unusedVariables false
def smallB (a b c d : Int) : Bool := decide (1 ≤ c ∧ c ≤ 1073741824 ∧ 1 ≤ d ∧ d ≤ 1073741824 ∧ -1073741824 ≤ a ∧ -1073741824 ≤ b ∧ a ≤ 1073741824 ∧ b ≤ 1073741824)

end Go.Proofs.Ytiiogjjjgoeghaa

namespace Go.Proofs.Ytiiogjjjgoeghaa
open Go.ChangeShapes Go.WideShapes Go.ChangeAt Go.RowKit
set_option linter.unusedVariables false
theorem eqReg (a b c d a' b' c' d' : Int) (w : World) : (Op.equalIn 10000 23 (reg a b c d) (reg a' b' c' d')).run Try.prog w = .ok (a == a' && b == b' && c == c' && d == d') w := by
  have u3 := Try.underlying3
  have a3 := Try.isAgg3
  have z3 := Try.sizeOf3
  have hS : Try.prog.underlying 23 = some (.struct (Try.prog.fieldsOf 23)) := by kernel_rfl
  have hp : Try.prog.stoodInHeld 23 = false := by kernel_rfl
  rw [show (10000 : Nat) = 9999 + 1 from rfl, run_equalIn_agg w 9999 23 _ _ hS hp]
  simp only [Program.fieldsOf, Try.underlying23]
  go_simp
  by_cases h1 : a = a' <;> by_cases h2 : b = b' <;> by_cases h3 : c = c' <;> by_cases h4 : d = d' <;> simp [h1, h2, h3, h4]
theorem guard30 : Try.prog.eqGuardType Try.prog.depth 23 = false := by kernel_rfl
theorem eqGuardReg (op : BinOp) (x y : Operand) (a b c d a' b' c' d' : Int) (w : World) : (eqGuard op 23 x y (reg a b c d) (reg a' b' c' d')).run Try.prog w = .ok () w := run_eqGuard_agg w op 23 x y _ _ guard30
theorem eqlReg (a b c d a' b' c' d' : Int) (w : World) : (binOp .eql 23 (reg a b c d) (reg a' b' c' d')).run Try.prog w = .ok (.bool (a == a' && b == b' && c == c' && d == d')) w := by
  rw [run_eql_struct, eqReg]; rfl
theorem neqReg (a b c d a' b' c' d' : Int) (w : World) : (binOp .neq 23 (reg a b c d) (reg a' b' c' d')).run Try.prog w = .ok (.bool (!(a == a' && b == b' && c == c' && d == d'))) w := by
  rw [run_neq_struct, eqReg]; rfl
end Go.Proofs.Ytiiogjjjgoeghaa

namespace Go.Proofs.Ytiiogjjjgoeghaa
open Go.ChangeShapes Go.WideShapes Go.ChangeAt Go.RowKit
open Ieee.Format (fin finE htE allFin allHt all_true all_false finE_ok finE_bad htE_ok htE_far htE_bad mulF subF addF)
set_option linter.unusedVariables false

theorem SRow.below {w w' : World} {a : Option Addr} {l : List Nat} (h : SRow w a l) (hb : Below w.heap.size w w') : SRow w' a l := by
  obtain ⟨h1, h2⟩ := h
  refine ⟨h1, ?_⟩
  rcases h2 with h2 | ⟨b, o, rfl, hc⟩
  · exact .inl h2
  · refine .inr ⟨b, o, rfl, fun i hi => ?_⟩
    have := hc i hi
    rw [hb.cell (p := ⟨b, o + i, none⟩) (World.block_lt_of_cell? w _ this)]
    exact this

/-- the value of a field -/
abbrev fldV (X Y W H : Int) (a : Option Addr) (n c : Nat) : Value := .agg #[.int .i64 X, .int .i64 Y, .int .i64 W, .int .i64 H, .slice a n c]

/-- the error of a field -/
def chkF (X Y W H : Int) (l : List Nat) : Int := if chk X Y W H ≠ 0 then chk X Y W H else if (l.length : Int) ≠ W * H then 2 else htE l

theorem chkF_region {X Y W H : Int} {l : List Nat} (h : chk X Y W H ≠ 0) : chkF X Y W H l = chk X Y W H := if_pos h
theorem chkF_len {X Y W H : Int} {l : List Nat} (h : chk X Y W H = 0) (h2 : (l.length : Int) ≠ W * H) : chkF X Y W H l = 2 := by
  unfold chkF; rw [if_neg (by simpa using h), if_pos h2]
theorem chkF_vals {X Y W H : Int} {l : List Nat} (h : chk X Y W H = 0) (h2 : (l.length : Int) = W * H) : chkF X Y W H l = htE l := by
  unfold chkF; rw [if_neg (by simpa using h), if_neg (by simpa using h2)]

theorem check_field (X Y W H : Int) (a : Option Addr) (c : Nat) (l : List Nat) (w : World) (hl : SRow w a l) :
    Calls Try.prog 9 #[fldV X Y W H a l.length c] w fun e w' => e = .returned (.int .i64 (chkF X Y W H l)) ∧ Below w.heap.size w w' := by
  have HL := Lib.hid hl
  clear hl
  have hA : Below w.heap.size w (w.alloc (.cells #[.int .i64 X, .int .i64 Y, .int .i64 W, .int .i64 H, .slice a l.length c] /-T-/26)) := (by repeat (first | with_reducible exact Below.refl _ _ | with_reducible apply Below.drew | with_reducible refine below_drewN ?_ _ | (with_reducible refine Below.setCell ?_ ?_ _; rotate_left; focus (first | omega | (simp <;> omega))) | (with_reducible refine Below.alloc ?_ ?_ _; rotate_left; focus (first | omega | (simp <;> omega)))))
  have hcase : chk X Y W H ≠ 0 ∨ (chk X Y W H = 0 ∧ ((l.length : Int) ≠ W * H ∨ (l.length : Int) = W * H)) := by omega
  rcases hcase with h1 | ⟨h1, h2 | h2⟩
  · have E := Lib.hid (chkF_region (l := l) h1)
    have hb : (chk X Y W H != 0) = true := by rw [bne_iff_ne]; exact h1
    clear h1
    have E2 : Hid (chkF X Y W H l = chk X Y W H) := E.out
    have K := Lib.hid (fun w => check1 X Y W H w)
    generalize chk X Y W H = q at *
    generalize chkF X Y W H l = r at *
    go_enter Try.func9, Try.ntmps9
    go_wp2_with fail
    refine (K.out _).mono ?_
    rintro e w1 ⟨rfl, b1⟩
    have B1 := hA.trans (b1.mono hA.size)
    clear b1
    go_wp2
    go_ret
    exact ⟨ret_i64 E2.out.symm, B1⟩
  · have E := Lib.hid (chkF_len h1 h2)
    obtain ⟨z1, z2, z3, z4, z5, z6, z7, z8, z9⟩ := chk_zero h1
    have zp : 1 ≤ W * H := by have := Int.mul_le_mul z1 z3 (by omega) (by omega); omega
    have hb : ((l.length : Int) != W * H) = true := by rw [bne_iff_ne]; exact h2
    have H1 := Lib.hid h1
    clear h1 h2
    generalize chkF X Y W H l = r at *
    go_enter Try.func9, Try.ntmps9
    go_wp2_with fail
    refine (check1 _ _ _ _ _).mono ?_
    rintro e w1 ⟨rfl, b1⟩
    rw [H1.out]
    have B1 := hA.trans (b1.mono hA.size)
    obtain ⟨hcc, hf⟩ := bcell b1
    clear b1
    go_wp2_with fail
    go_ret
    exact ⟨ret_i64 E.out.symm, B1⟩
  · have E := Lib.hid (chkF_vals h1 h2)
    obtain ⟨z1, z2, z3, z4, z5, z6, z7, z8, z9⟩ := chk_zero h1
    have zp : 1 ≤ W * H := by have := Int.mul_le_mul z1 z3 (by omega) (by omega); omega
    have hb : ((l.length : Int) != W * H) = false := by rw [bne_eq_false_iff_eq]; exact h2
    have H1 := Lib.hid h1
    clear h1 h2
    have K := Lib.hid (fun w h => heights_any a c l w h)
    generalize chkF X Y W H l = r at *
    generalize htE l = q at *
    go_enter Try.func9, Try.ntmps9
    go_wp2_with fail
    refine (check1 _ _ _ _ _).mono ?_
    rintro e w1 ⟨rfl, b1⟩
    rw [H1.out]
    have B1 := hA.trans (b1.mono hA.size)
    obtain ⟨hcc, hf⟩ := bcell b1
    clear b1
    go_wp2_with fail
    refine (K.out _ (HL.out.below B1)).mono ?_
    rintro e w2 ⟨rfl, rfl⟩
    go_wp2_with fail
    go_ret
    exact ⟨ret_i64 E.out.symm, B1⟩

end Go.Proofs.Ytiiogjjjgoeghaa

namespace Go.Proofs.Ytiiogjjjgoeghaa
open Go.ChangeShapes Go.WideShapes Go.ChangeAt Go.RowKit
open Ieee.Format (fin finE htE allFin allHt all_true all_false finE_ok finE_bad htE_ok htE_far htE_bad mulF subF addF)
set_option linter.unusedVariables false

def fls (l : List Nat) : List Value := l.map (Value.float .f32)
theorem info24 : (Try.prog.info? /-T-/27).map (fun i => (i.zero, i.size, i.bytes)) = some (some (.float .f32 0), 1, 4) := by kernel_rfl

/-- the singles 'l' lie in a row of the call's own, from block 'B' on -/
def OwnF (w : World) (B g cap : Nat) (l : List Nat) : Prop := w.ownsRow B /-T-/27 1 (.slice (some ⟨g, 0, none⟩) l.length cap) l.length (fls l) ∧ ∀ x ∈ l, x < 4294967296

theorem OwnF.lt {w : World} {B g cap : Nat} {l : List Nat} (h : OwnF w B g cap l) : B ≤ g ∧ g < w.heap.size := h.1.lt g rfl
theorem OwnF.row {w : World} {B g cap : Nat} {l : List Nat} (h : OwnF w B g cap l) (hl : l.length ≤ 1099511627776) : SRow w (some ⟨g, 0, none⟩) l := by
  refine ⟨⟨hl, h.2⟩, .inr ⟨g, 0, rfl, fun i hi => ?_⟩⟩
  rw [Nat.zero_add, h.1.cellAt i (by omega)]
  unfold fls
  rw [List.getElem?_map, List.getD_eq_getElem?_getD, List.getElem?_eq_getElem hi]
  rfl
theorem OwnF.below {w w' : World} {B B' g cap : Nat} {l : List Nat} (h : OwnF w B g cap l) (hb : Below B' w w') (hg : g < B') : OwnF w' B g cap l := by
  refine ⟨?_, h.2⟩
  obtain ⟨h1, h2⟩ := h.1
  refine ⟨h1, ?_⟩
  rcases h2 with h2 | ⟨g', cap', cur, hv, hB, hh, r⟩
  · exact .inl h2
  · right
    have : g' = g := by simp at hv; exact hv.1.symm
    subst this
    exact ⟨g', cap', cur, hv, hB, (hb.block g' hg).trans hh, r⟩
theorem OwnF.base {w : World} {B B' g cap : Nat} {l : List Nat} (h : OwnF w B g cap l) (hB : B' ≤ B) : OwnF w B' g cap l := by
  refine ⟨⟨h.1.1, ?_⟩, h.2⟩
  rcases h.1.2 with h2 | ⟨g', cap', cur, hv, hb, r⟩
  · exact .inl h2
  · exact .inr ⟨g', cap', cur, hv, Nat.le_trans hB hb, r⟩
theorem OwnF.setCell {w : World} {B g cap : Nat} {l : List Nat} (h : OwnF w B g cap l) {p : Addr} (hp : g ≠ p.block) (u : Value) : OwnF (w.setCell p u) B g cap l := by
  refine ⟨⟨h.1.1, ?_⟩, h.2⟩
  rcases h.1.2 with h2 | ⟨g', cap', cur, hv, hb, hh, r⟩
  · exact .inl h2
  · have : g' = g := by simp at hv; exact hv.1.symm
    subst this
    exact .inr ⟨g', cap', cur, hv, hb, (Below.heap_setCell w p u g' hp).trans hh, r⟩
theorem OwnF.drew {w : World} {B g cap : Nat} {l : List Nat} (h : OwnF w B g cap l) : OwnF w.drew B g cap l := h
theorem OwnF.drewN {w : World} {B g cap : Nat} {l : List Nat} (h : OwnF w B g cap l) (n : Nat) : OwnF (w.drewN n) B g cap l := h
theorem OwnF.alloc {w : World} {B g cap : Nat} {l : List Nat} (h : OwnF w B g cap l) (o : Obj) : OwnF (w.alloc o) B g cap l := ⟨h.1.alloc o, h.2⟩
theorem OwnF.grown_below {w w' : World} {B : Nat} {row : Option Nat} (hg : w.grownBy w' row) (hr : ∀ k, row = some k → B ≤ k) (hB : B ≤ w.heap.size) : Below B w w' :=
  (Below.refl B w).grown hg hB hr

theorem SRow.drew {w : World} {a : Option Addr} {l : List Nat} (h : SRow w a l) : SRow w.drew a l := h
theorem SRow.drewN {w : World} {a : Option Addr} {l : List Nat} (h : SRow w a l) (n : Nat) : SRow (w.drewN n) a l := h

/-- a field with these values, in memory made since 'B' -/
def NewF (B : Nat) (X Y W H : Int) (l : List Nat) (w : World) (e : Ending) (w' : World) : Prop :=
  ∃ g cap, e = .returned (fldV X Y W H (some ⟨g, 0, none⟩) l.length cap) ∧ OwnF w' B g cap l ∧ Below w.heap.size w w'

end Go.Proofs.Ytiiogjjjgoeghaa

namespace Go.Proofs.Ytiiogjjjgoeghaa
open Go.ChangeShapes Go.WideShapes Go.ChangeAt Go.RowKit
set_option linter.unusedVariables false

theorem run_store_float (P : Program) (w : World) (a : Addr) (m : Mode) (k : FloatKind) (n : Nat) : (store a (.float k n) m).run P w = stored P w a (.float k n) m := run_store P w a _ m rfl
attribute [go_sem] run_store_float

/-- block 'k' is just a field -/
def Fld (w : World) (k : Nat) (X Y W H : Int) (v : Value) : Prop := w.heap[k]? = some (.cells #[.int .i64 X, .int .i64 Y, .int .i64 W, .int .i64 H, v] /-T-/26 (0, 0))
section
variable {w w' : World} {k : Nat} {X Y W H : Int} {v : Value}
theorem Fld.lt (h : Fld w k X Y W H v) : k < w.heap.size := by
  rcases Nat.lt_or_ge k w.heap.size with hlt | hge
  · exact hlt
  · unfold Fld at h; rw [Array.getElem?_eq_none hge] at h; cases h
theorem Fld.cell (h : Fld w k X Y W H v) (i : Nat) : w.cell? ⟨k, i, none⟩ = (#[.int .i64 X, .int .i64 Y, .int .i64 W, .int .i64 H, v] : Array Value)[i]? := cell_of_row w k i _ _ _ h
theorem Fld.cells (h : Fld w k X Y W H v) : w.cell? ⟨k, 0, none⟩ = some (.int .i64 X) ∧ w.cell? ⟨k, 1, none⟩ = some (.int .i64 Y) ∧ w.cell? ⟨k, 2, none⟩ = some (.int .i64 W) ∧ w.cell? ⟨k, 3, none⟩ = some (.int .i64 H) ∧ w.cell? ⟨k, 4, none⟩ = some v :=
  ⟨h.cell 0, h.cell 1, h.cell 2, h.cell 3, h.cell 4⟩
theorem Fld.frozen (h : Fld w k X Y W H v) (i : Nat) : w.frozen? ⟨k, i, none⟩ = false := frozen_of_row w k i _ _ h
theorem Fld.below {B : Nat} (h : Fld w k X Y W H v) (hb : Below B w w') (hk : k < B) : Fld w' k X Y W H v := (hb.block k hk).trans h
theorem Fld.new (w : World) (X Y W H : Int) (v : Value) : Fld (w.alloc (.cells #[.int .i64 X, .int .i64 Y, .int .i64 W, .int .i64 H, v] /-T-/26)) w.heap.size X Y W H v := heap_alloc_new w _
theorem Fld.alloc (h : Fld w k X Y W H v) (o : Obj) : Fld (w.alloc o) k X Y W H v := (Below.heap_alloc w o k h.lt).trans h
theorem Fld.drew (h : Fld w k X Y W H v) : Fld w.drew k X Y W H v := h
theorem Fld.drewN (h : Fld w k X Y W H v) (n : Nat) : Fld (w.drewN n) k X Y W H v := h
theorem Fld.setCell (h : Fld w k X Y W H v) {p : Addr} (hp : k ≠ p.block) (u : Value) : Fld (w.setCell p u) k X Y W H v := (Below.heap_setCell w p u k hp).trans h
theorem Fld.grown {row : Option Nat} (h : Fld w k X Y W H v) (hb : w.grownBy w' row) (hg : some k ≠ row) : Fld w' k X Y W H v := (hb.block k h.lt hg).trans h
theorem Fld.set0 (h : Fld w k X Y W H v) (u : Int) : Fld (w.setCell ⟨k, 0, none⟩ (.int .i64 u)) k u Y W H v := by
  unfold Fld at *; exact heap_setCell_same w k 0 _ _ _ h
theorem Fld.set1 (h : Fld w k X Y W H v) (u : Int) : Fld (w.setCell ⟨k, 1, none⟩ (.int .i64 u)) k X u W H v := by
  unfold Fld at *; exact heap_setCell_same w k 1 _ _ _ h
theorem Fld.set2 (h : Fld w k X Y W H v) (u : Int) : Fld (w.setCell ⟨k, 2, none⟩ (.int .i64 u)) k X Y u H v := by
  unfold Fld at *; exact heap_setCell_same w k 2 _ _ _ h
theorem Fld.set3 (h : Fld w k X Y W H v) (u : Int) : Fld (w.setCell ⟨k, 3, none⟩ (.int .i64 u)) k X Y W u v := by
  unfold Fld at *; exact heap_setCell_same w k 3 _ _ _ h
theorem Fld.set4 (h : Fld w k X Y W H v) (u : Value) : Fld (w.setCell ⟨k, 4, none⟩ u) k X Y W H u := by
  unfold Fld at *; exact heap_setCell_same w k 4 _ _ _ h
end
theorem two_fields (w : World) (X Y W H : Int) (v : Value) : ∀ W0, W0 = (w.alloc (.cells #[.int .i64 X, .int .i64 Y, .int .i64 W, .int .i64 H, v] /-T-/26)).alloc (.cells #[.int .i64 0, .int .i64 0, .int .i64 0, .int .i64 0, .slice none 0 0] /-T-/26) →
    Fld W0 w.heap.size X Y W H v ∧ Fld W0 (w.heap.size + 1) 0 0 0 0 (.slice none 0 0) ∧ Below w.heap.size w W0 ∧ W0.heap.size = w.heap.size + 2 := by
  rintro _ rfl
  refine ⟨(Fld.new w X Y W H v).alloc _, ?_, (by repeat (first | with_reducible exact Below.refl _ _ | with_reducible apply Below.drew | with_reducible refine below_drewN ?_ _ | (with_reducible refine Below.setCell ?_ ?_ _; rotate_left; focus (first | omega | (simp <;> omega))) | (with_reducible refine Below.alloc ?_ ?_ _; rotate_left; focus (first | omega | (simp <;> omega))))), by simp⟩
  have := Fld.new (w.alloc (.cells #[.int .i64 X, .int .i64 Y, .int .i64 W, .int .i64 H, v] /-T-/26)) 0 0 0 0 (.slice none 0 0)
  simpa using this
end Go.Proofs.Ytiiogjjjgoeghaa

namespace Go.Proofs.Ytiiogjjjgoeghaa
open Go.ChangeShapes Go.WideShapes Go.ChangeAt Go.RowKit
open Ieee.Format (fin finE htE allFin allHt all_true all_false finE_ok finE_bad htE_ok htE_far htE_bad mulF subF addF)
set_option linter.unusedVariables false

theorem OwnF.store {w : World} {B g cap : Nat} {m : List Nat} (h : OwnF w B g cap m) (k x : Nat) (hx : x < 4294967296) : OwnF (w.setCell ⟨g, k, none⟩ (.float .f32 x)) B g cap (m.set k x) := by
  refine ⟨?_, fun y hy => ?_⟩
  · have := (h.1.stored k (.float .f32 x)).1
    rw [List.length_set]
    have e : fls (m.set k x) = (fls m).set k (.float .f32 x) := by unfold fls; rw [List.map_set]
    rw [e]; exact this
  · rcases List.mem_or_eq_of_mem_set hy with hy | hy
    · exact h.2 y hy
    · rw [hy]; exact hx
theorem OwnF.at_ {w : World} {B g cap : Nat} {m : List Nat} (h : OwnF w B g cap m) {k : Nat} (hk : k < m.length) : w.cell? ⟨g, k, none⟩ = some (.float .f32 (m.getD k 0)) ∧ w.frozen? ⟨g, k, none⟩ = false := by
  refine ⟨?_, h.1.frozenAt k⟩
  rw [h.1.cellAt k (by omega)]
  unfold fls
  rw [List.getElem?_map, List.getD_eq_getElem?_getD, List.getElem?_eq_getElem hk]
  rfl
theorem SRow.at_ {w : World} {b o : Nat} {l : List Nat} (h : SRow w (some ⟨b, o, none⟩) l) {k : Nat} (hk : k < l.length) : w.cell? ⟨b, o + k, none⟩ = some (.float .f32 (l.getD k 0)) := by
  rcases h.2 with h | ⟨b', o', e, hc⟩
  · subst h; simp at hk
  · cases e; exact hc k hk

/-- the first 'k' have been turned -/
def upTo (φ : Nat → Nat) (l : List Nat) (k : Nat) : List Nat := (l.take k).map φ ++ l.drop k
theorem upTo_zero (φ : Nat → Nat) (l : List Nat) : upTo φ l 0 = l := by simp [upTo]
theorem upTo_all (φ : Nat → Nat) (l : List Nat) : upTo φ l l.length = l.map φ := by simp [upTo]
theorem upTo_len (φ : Nat → Nat) (l : List Nat) (k : Nat) : (upTo φ l k).length = l.length := by
  unfold upTo; rw [List.length_append, List.length_map, List.length_take, List.length_drop]; omega
theorem upTo_succ (φ : Nat → Nat) (l : List Nat) (k : Nat) (hk : k < l.length) : (upTo φ l k).set k (φ (l.getD k 0)) = upTo φ l (k + 1) := by
  unfold upTo
  have h1 : ((l.take k).map φ).length = k := by rw [List.length_map, List.length_take]; omega
  have hd := List.drop_eq_getElem_cons hk
  rw [List.set_append_right _ _ (by omega), h1, Nat.sub_self, List.take_succ_eq_append_getElem hk, List.map_append, List.append_assoc]
  rw [List.getD_eq_getElem?_getD, List.getElem?_eq_getElem hk, hd]
  rfl

structure EachInv (w wr : World) (k5 g cap : Nat) (X Y W H : Int) (n : Nat) (m : List Nat) : Prop where
  fc : Fld wr k5 X Y W H (.slice (some ⟨g, 0, none⟩) n cap)
  fb : Fld wr (w.heap.size + 1) 0 0 0 0 (.slice none 0 0)
  own : OwnF wr w.heap.size g cap m
  below : Below w.heap.size w wr
theorem EachInv.store {w wr : World} {k5 g cap n : Nat} {X Y W H : Int} {m : List Nat} (h : EachInv w wr k5 g cap X Y W H n m) (hg : g ≠ k5) (hg1 : w.heap.size + 1 < g) (k x : Nat) (hx : x < 4294967296) :
    EachInv w (wr.setCell ⟨g, k, none⟩ (.float .f32 x)).drew k5 g cap X Y W H n (m.set k x) :=
  ⟨(h.fc.setCell (p := ⟨g, k, none⟩) (Ne.symm hg) _).drew, (h.fb.setCell (p := ⟨g, k, none⟩) (by show w.heap.size + 1 ≠ g; omega) _).drew, (h.own.store k x hx).drew, (h.below.setCell (p := ⟨g, k, none⟩) (by show w.heap.size ≤ g; omega) _).drew⟩

end Go.Proofs.Ytiiogjjjgoeghaa

namespace Go.Proofs.Ytiiogjjjgoeghaa
open Go.ChangeShapes Go.WideShapes Go.ChangeAt Go.RowKit
open Ieee.Format (fin finE htE allFin allHt all_true all_false finE_ok finE_bad htE_ok htE_far htE_bad mulF subF addF)
set_option linter.unusedVariables false

end Go.Proofs.Ytiiogjjjgoeghaa

namespace Go.Proofs.Ytiiogjjjgoeghaa
open Go.ChangeShapes Go.WideShapes Go.ChangeAt Go.RowKit
open Ieee.Format (fin finE htE allFin allHt all_true all_false finE_ok finE_bad htE_ok htE_far htE_bad mulF subF addF)
set_option linter.unusedVariables false

theorem ret_f32 {a b : Nat} (h : a = b) : Ending.returned (.float .f32 a) = .returned (.float .f32 b) := by rw [h]

/-- the number of a cell -/
def cellNo (X Y W x y : Int) : Int := (y - Y) * W + x - X

theorem cellNo_in {X Y W H x y : Int} (h1 : 1 ≤ W) (h2 : W ≤ 512) (h3 : 1 ≤ H) (h4 : H ≤ 512) (hx : X ≤ x) (hx' : x < X + W) (hy : Y ≤ y) (hy' : y < Y + H) :
    0 ≤ (y - Y) * W ∧ (y - Y) * W ≤ 262144 ∧ 0 ≤ cellNo X Y W x y ∧ cellNo X Y W x y < W * H := by
  have a := Int.mul_nonneg (show 0 ≤ y - Y by omega) (show 0 ≤ W by omega)
  have b := Int.mul_le_mul (show y - Y ≤ 511 by omega) h2 (by omega) (by omega)
  have c := Int.mul_le_mul_of_nonneg_right (show y - Y ≤ H - 1 by omega) (show 0 ≤ W by omega)
  have d : (H - 1) * W = W * H - W := by rw [Int.sub_mul, Int.one_mul, Int.mul_comm]
  unfold cellNo
  refine ⟨a, by omega, by omega, by omega⟩

theorem list_eq_of {l m : List Nat} (hn : l.length = m.length) (h : ∀ j, j < l.length → l.getD j 0 = m.getD j 0) : l = m := by
  refine List.ext_getElem hn fun i h1 h2 => ?_
  have := h i h1
  rwa [List.getD_eq_getElem?_getD, List.getD_eq_getElem?_getD, List.getElem?_eq_getElem h1, List.getElem?_eq_getElem h2] at this

end Go.Proofs.Ytiiogjjjgoeghaa

namespace Go.Proofs.Ytiiogjjjgoeghaa
open Go.ChangeShapes Go.WideShapes Go.ChangeAt Go.RowKit
open Ieee.Format (fin finE htE allFin allHt all_true all_false finE_ok finE_bad htE_ok htE_far htE_bad mulF subF addF)
set_option linter.unusedVariables false

end Go.Proofs.Ytiiogjjjgoeghaa
