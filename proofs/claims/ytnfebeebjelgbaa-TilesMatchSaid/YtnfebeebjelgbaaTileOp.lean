import Derived.Test.YtnfebeebjelgbaaTileFn
namespace Go.Proofs.Ytnfebeebjelgbaa
open Go.ChangeShapes Go.WideShapes Go.ChangeAt Go.RowKit
open Ieee.Format (fin finE htE allFin allHt all_true all_false mulF subF addF Ht Bd divF rootF floorF easeF mixF)
set_option linter.unusedVariables false

theorem Try.infoReg : (Try.prog.info? 23).map (fun i => (i.zero, i.size, i.bytes)) = some (some (.agg #[.int .i64 0, .int .i64 0, .int .i64 0, .int .i64 0]), 4, 32) := by kernel_rfl

/-! ### slices of regions -/
def rAt (L : List Rg) (i : Nat) : Rg := L.getD i (0, 0, 0, 0)
theorem rgs_get (L : List Rg) (i : Nat) (hi : i < L.length) : (rgs L)[i * 4]? = some (.int .i64 (rAt L i).1) ∧ (rgs L)[i * 4 + 1]? = some (.int .i64 (rAt L i).2.1) ∧ (rgs L)[i * 4 + 2]? = some (.int .i64 (rAt L i).2.2.1) ∧ (rgs L)[i * 4 + 3]? = some (.int .i64 (rAt L i).2.2.2) := by
  induction L generalizing i with
  | nil => simp at hi
  | cons a L ih =>
    have e : rgs (a :: L) = rgV a ++ rgs L := rfl
    rw [e]
    cases i with
    | zero => exact ⟨rfl, rfl, rfl, rfl⟩
    | succ i =>
      have h := ih i (by simpa using hi)
      have hl : (rgV a).length = 4 := rfl
      have f : ∀ t, (rgV a ++ rgs L)[(i + 1) * 4 + t]? = (rgs L)[i * 4 + t]? := fun t => by
        rw [List.getElem?_append_right (by rw [hl]; omega), hl]
        congr 1; omega
      have f0 := f 0
      simp only [Nat.add_zero] at f0
      rw [f0, f 1, f 2, f 3]
      exact h
/-- a slice of regions -/
def RgRow (w : World) (a : Option Addr) (L : List Rg) : Prop := L.length ≤ 1024 ∧ (L = [] ∨ ∃ g, a = some ⟨g, 0, none⟩ ∧ g < w.heap.size ∧ ∀ i, i < L.length → w.cell? ⟨g, i * 4, none⟩ = some (.int .i64 (rAt L i).1) ∧ w.cell? ⟨g, i * 4 + 1, none⟩ = some (.int .i64 (rAt L i).2.1) ∧ w.cell? ⟨g, i * 4 + 2, none⟩ = some (.int .i64 (rAt L i).2.2.1) ∧ w.cell? ⟨g, i * 4 + 3, none⟩ = some (.int .i64 (rAt L i).2.2.2))
theorem RgRow.nil (w : World) (a : Option Addr) : RgRow w a [] := ⟨by simp, .inl rfl⟩
theorem RgRow.below {w w' : World} {a : Option Addr} {L : List Rg} (h : RgRow w a L) (hb : Below w.heap.size w w') : RgRow w' a L := by
  obtain ⟨h1, h2⟩ := h
  refine ⟨h1, ?_⟩
  rcases h2 with h2 | ⟨g, e, hg, hc⟩
  · exact .inl h2
  · refine .inr ⟨g, e, Nat.lt_of_lt_of_le hg hb.size, fun i hi => ?_⟩
    rw [hb.cell (p := ⟨g, i * 4, none⟩) hg, hb.cell (p := ⟨g, i * 4 + 1, none⟩) hg, hb.cell (p := ⟨g, i * 4 + 2, none⟩) hg, hb.cell (p := ⟨g, i * 4 + 3, none⟩) hg]
    exact hc i hi
theorem rgrow_of {w : World} {B g cap : Nat} {L : List Rg} (h : w.ownsRow B 23 4 (.slice (some ⟨g, 0, none⟩) L.length cap) L.length (rgs L)) (hl : L.length ≤ 1024) : RgRow w (some ⟨g, 0, none⟩) L := by
  refine ⟨hl, .inr ⟨g, rfl, (h.lt g rfl).2, fun i hi => ?_⟩⟩
  rw [h.cellAt (i * 4) (by omega), h.cellAt (i * 4 + 1) (by omega), h.cellAt (i * 4 + 2) (by omega), h.cellAt (i * 4 + 3) (by omega)]
  exact rgs_get L i hi
/-- what Tiles gives -/
def TilesP (C : Int) (L : List Rg) (w : World) (e : Ending) (w' : World) : Prop :=
  (∃ a cap, e = .returned (.tuple #[.slice a L.length cap, .int .i64 C]) ∧ RgRow w' a L) ∧ Below w.heap.size w w'

structure TilesInv (w wr : World) (B k7 k8 : Nat) (X Y W H fx fy lx ly s : Int) (v : Value) (m : List Rg) : Prop where
  rg : Reg wr w.heap.size X Y W H
  r7 : Reg wr k7 fx fy s s
  r8 : Reg wr k8 lx ly s s
  l0 : w.heap.size < B
  l7 : k7 < B
  l8 : k8 < B
  bz : B ≤ wr.heap.size
  own : wr.ownsRow B 23 4 v m.length (rgs m)
  below : Below w.heap.size w wr

section
variable {w wr w2 w3 : World} {B k7 k8 : Nat} {X Y W H fx fy lx ly s : Int} {v v' : Value} {m : List Rg}
theorem TilesInv.call (h : TilesInv w wr B k7 k8 X Y W H fx fy lx ly s v m) (hb : Below wr.heap.size wr w2) : TilesInv w w2 B k7 k8 X Y W H fx fy lx ly s v m :=
  ⟨h.rg.below hb h.rg.lt, h.r7.below hb h.r7.lt, h.r8.below hb h.r8.lt, h.l0, h.l7, h.l8, Nat.le_trans h.bz hb.size, ownsRow_below h.own hb (fun k hk => (h.own.lt k hk).2), h.below.trans (hb.mono h.below.size)⟩
theorem TilesInv.alloc (h : TilesInv w wr B k7 k8 X Y W H fx fy lx ly s v m) (o : Obj) : TilesInv w (wr.alloc o) B k7 k8 X Y W H fx fy lx ly s v m :=
  h.call ((Below.refl _ _).alloc (Nat.le_refl _) _)
theorem TilesInv.app {r : Rg} {o : Obj} (h : TilesInv w w2 B k7 k8 X Y W H fx fy lx ly s v m)
    (hown : w3.ownsRow B 23 4 v' (m.length + 1) (rgs m ++ rgV r)) (hg : (w2.alloc o).grownBy w3 v.ownBlock) : TilesInv w w3 B k7 k8 X Y W H fx fy lx ly s v' (m ++ [r]) := by
  have hne : ∀ k, k < B → some k ≠ v.ownBlock := fun k hk e => by
    have := (h.own.lt k e.symm).1; omega
  have hA := h.alloc o
  refine ⟨hA.rg.grown hg (hne _ h.l0), hA.r7.grown hg (hne _ h.l7), hA.r8.grown hg (hne _ h.l8), h.l0, h.l7, h.l8, Nat.le_trans hA.bz hg.size, ?_, ?_⟩
  · rw [rgs_append, rgs_one]; simpa using hown
  · refine hA.below.grown hg (by have := hA.below.size; exact this) (fun k hk => ?_)
    have := (h.own.lt k hk).1
    have := h.l0
    omega
end

theorem tiles_bad (X Y W H s C : Int) (w : World) (h : chk X Y W H = C ∧ C ≠ 0 ∨ chk X Y W H = 0 ∧ (s < 1 ∨ 256 < s) ∧ C = 3) :
    Calls Try.prog 18 #[reg X Y W H, .int .i64 s] w fun e w' => TilesP C [] w e w' := by
  have KC := Lib.hid (fun w => check1 X Y W H w)
  rcases h with ⟨h1, h2⟩ | ⟨h1, h2, rfl⟩
  · rw [h1] at KC
    clear h1
    go_enter Try.func18, Try.ntmps18
    go_wp2_with fail
    refine (KC.out _).mono ?_
    rintro e w1 ⟨rfl, b1⟩
    have B1 : Below w.heap.size w w1 := (show Below w.heap.size w (w.alloc (.cells #[.int .i64 X, .int .i64 Y, .int .i64 W, .int .i64 H] 23)) from (by repeat (first | with_reducible exact Below.refl _ _ | with_reducible apply Below.drew | with_reducible refine below_drewN ?_ _ | (with_reducible refine Below.setCell ?_ ?_ _; rotate_left; focus (first | omega | (simp <;> omega))) | (with_reducible refine Below.alloc ?_ ?_ _; rotate_left; focus (first | omega | (simp <;> omega)))))).trans (b1.mono (by simp))
    clear b1
    go_wp2_with fail
    go_ret2
    exact ⟨⟨none, 0, rfl, RgRow.nil _ _⟩, B1⟩
  · rw [h1] at KC
    clear h1
    have t : s < 1 ∨ ¬ s < 1 ∧ 256 < s := by omega
    clear h2
    rcases t with t | ⟨t1, t2⟩
    all_goals
      go_enter Try.func18, Try.ntmps18
      go_wp2_with fail
      refine (KC.out _).mono ?_
      rintro e w1 ⟨rfl, b1⟩
      have B1 : Below w.heap.size w w1 := (show Below w.heap.size w (w.alloc (.cells #[.int .i64 X, .int .i64 Y, .int .i64 W, .int .i64 H] 23)) from (by repeat (first | with_reducible exact Below.refl _ _ | with_reducible apply Below.drew | with_reducible refine below_drewN ?_ _ | (with_reducible refine Below.setCell ?_ ?_ _; rotate_left; focus (first | omega | (simp <;> omega))) | (with_reducible refine Below.alloc ?_ ?_ _; rotate_left; focus (first | omega | (simp <;> omega)))))).trans (b1.mono (by simp))
      clear b1
      go_wp2_with fail
      go_ret2
      exact ⟨⟨none, 0, rfl, RgRow.nil _ _⟩, B1⟩

/-- the tiles of a side: begin, end, and in between -/
structure Side (X W s f l : Int) (n : Nat) : Prop where
  fe : f = tq X s
  ne : n = tnm X W s
  f1 : -8388864 ≤ f
  l2 : l ≤ 8388608
  fl : f ≤ l
  lt : ∀ i, i < n → f + (i : Int) * s ≤ l
  ge : ∀ i, ¬ i < n → l < f + (i : Int) * s
  qt : (l - f) / s + 1 = n
  l1 : l ≤ X + W - 1
  f2 : X < f + s
theorem side_of (X W s : Int) (hs : 1 ≤ s) (hs2 : s ≤ 256) (hw : 1 ≤ W) (hw2 : W ≤ 512) (hx : -4194304 ≤ X) (hx2 : X ≤ 4194304 - W) : Side X W s (tq X s) (tq (X + W - 1) s) (tnm X W s) := by
  have h1 := div_parts X s hs
  have h2 := div_parts (X + W - 1) s hs
  obtain ⟨h3, h4⟩ := tnm_pos X W s hs hw
  have h5 := div_mono X (X + W - 1) s hs (by omega)
  have h6 : X / s * s ≤ (X + W - 1) / s * s := Int.mul_le_mul_of_nonneg_right h5 (by omega)
  refine ⟨rfl, rfl, ?_, ?_, h6, fun i hi => ?_, fun i hi => ?_, ?_, ?_, ?_⟩
  · unfold tq; omega
  · unfold tq; omega
  · have : (X / s + (i : Int)) * s ≤ (X + W - 1) / s * s := Int.mul_le_mul_of_nonneg_right (by omega) (by omega)
    rw [Int.add_mul] at this
    exact this
  · have : ((X + W - 1) / s + 1) * s ≤ (X / s + (i : Int)) * s := Int.mul_le_mul_of_nonneg_right (by omega) (by omega)
    rw [Int.add_mul, Int.add_mul, Int.one_mul] at this
    unfold tq
    omega
  · rw [h4]
    unfold tq
    rw [← Int.sub_mul, Int.mul_ediv_cancel _ (by omega)]
  · unfold tq; omega
  · unfold tq; omega
theorem common_tile (X Y W H s : Int) (n m i j : Nat) (hc : chk X Y W H = 0) (hs : 1 ≤ s) (hs2 : s ≤ 256) (hi : i < tnm X W s) (hj : j < tnm Y H s) :
    cmR X Y W H (tq X s + (i : Int) * s) (tq Y s + (j : Int) * s) s s = reg (tlo X s i) (tlo Y s j) (twd X W s i) (twd Y H s j) ∧ cmR (tq X s + (i : Int) * s) (tq Y s + (j : Int) * s) s s X Y W H = reg (tlo X s i) (tlo Y s j) (twd X W s i) (twd Y H s j) := by
  obtain ⟨c1, c2, c3, c4, _⟩ := chk_zero hc
  have b1 := twd_bd X W s i hs c1 hi
  have b2 := twd_bd Y H s j hs c3 hj
  have e1 : ∀ a b : Int, mx a b = max a b := fun a b => by unfold mx; split <;> omega
  have e2 : ∀ a b : Int, mn a b = min a b := fun a b => by unfold mn; split <;> omega
  constructor
  · exact ((cm_parts (by rw [e1]; rfl) (by rw [e1]; rfl) (by rw [e2]; unfold twd tlo tq; omega) (by rw [e2]; unfold twd tlo tq; omega)).1 ⟨b1.2.1, b2.2.1⟩).2
  · refine ((cm_parts (x := tlo X s i) (y := tlo Y s j) (by rw [e1]; unfold tlo tq; omega) (by rw [e1]; unfold tlo tq; omega) (by rw [e2]; unfold twd tq; omega) (by rw [e2]; unfold twd tq; omega)).1 ⟨b1.2.1, b2.2.1⟩).2
/-- how far the tiles of a side reach -/
theorem side_n {X W s f l : Int} {n : Nat} (h : Side X W s f l n) (hs : 1 ≤ s) (i : Nat) : (i < n → f + (i : Int) * s ≤ l ∧ -8388864 ≤ f + (i : Int) * s ∧ f + (i : Int) * s ≤ 8388608 ∧ f + ((i + 1 : Nat) : Int) * s = f + (i : Int) * s + s) ∧ (i = n → l < f + (i : Int) * s) := by
  refine ⟨fun hi => ?_, fun hi => h.ge i (by omega)⟩
  have h1 := h.lt i hi
  have h2 : 0 ≤ (i : Int) * s := Int.mul_nonneg (by omega) (by omega)
  have h3 := h.f1
  have h4 := h.l2
  refine ⟨h1, by omega, by omega, ?_⟩
  rw [Int.natCast_add, Int.add_mul]
  simp
  omega

end Go.Proofs.Ytnfebeebjelgbaa
