import Derived.Test.YtfmbekdfigbfiaaM6
import Derived.Test.YtfmbekdfigbfiaaM1
import Derived.Test.YtfmbekdfigbfiaaM5
import Derived.Deep.RegionHeld3
import Derived.Test.YtfmbekdfigbfiaaM3
import Derived.OwnWalk
import Derived.Deep.AppendLies
namespace Go.Proofs.Ytfmbekdfigbfiaa
open Go.Shelf
open Go.ChangeShapes Go.WideShapes Go.ChangeAt Go.RowKit
open Ieee.Format (fin finE htE allFin allHt all_true all_false mulF subF addF Ht Bd smoothF smooth2 smooth_bd const_eighth const_2nd)
set_option linter.unusedVariables false

/-- the reference's At by the cell's number -/
theorem refat_k (X Y : Int) (Wn Hn : Nat) (x y : Int) (b o c k : Nat) (l : List Nat) (w : World) (hl : SRow w (some ⟨b, o, none⟩) l) (hn : l.length = Hn * Wn) (hw : 1 ≤ Wn) (hw2 : Wn ≤ 512) (hh : 1 ≤ Hn) (hh2 : Hn ≤ 512) (hx0 : -8388608 ≤ X) (hx1 : X ≤ 8388608) (hy0 : -8388608 ≤ Y) (hy1 : Y ≤ 8388608)
    (hx : X ≤ x) (hx' : x < X + Wn) (hy : Y ≤ y) (hy' : y < Y + Hn) (hk : cellNo X Y Wn x y = (k : Int)) :
    Calls Try.prog 23 #[fldV X Y Wn Hn (some ⟨b, o, none⟩) l.length c, .int .i64 x, .int .i64 y] w fun e w' => e = .returned (.float .f32 (l.getD k 0)) ∧ Below w.heap.size w w' := by
  have h := refat_any X Y Wn Hn x y b o c l w hl (by rw [hn, Int.natCast_mul, Int.mul_comm]) (by omega) (by omega) (by omega) (by omega) hx0 hx1 hy0 hy1 hx hx' hy hy'
  rw [hk, Int.toNat_natCast] at h
  exact h

set_option maxRecDepth 100000 in
set_option maxHeartbeats 4000000 in
/-- the reference's around -/
theorem refaround_any (X Y : Int) (Wn Hn : Nat) (x y : Int) (b o c k : Nat) (l : List Nat) (w : World) (hl : SRow w (some ⟨b, o, none⟩) l) (hn : l.length = Hn * Wn) (hw : 1 ≤ Wn) (hw2 : Wn ≤ 512) (hh : 1 ≤ Hn) (hh2 : Hn ≤ 512) (hx0 : -8388608 ≤ X) (hx1 : X ≤ 8388608) (hy0 : -8388608 ≤ Y) (hy1 : Y ≤ 8388608)
    (hx : X + 1 ≤ x) (hx' : x < X + Wn - 1) (hy : Y + 1 ≤ y) (hy' : y < Y + Hn - 1) (hk : cellNo X Y Wn x y = (k : Int)) :
    Calls Try.prog 162 #[fldV X Y Wn Hn (some ⟨b, o, none⟩) l.length c, .int .i64 x, .int .i64 y] w fun e w' => e = .returned (.tuple #[.float .f32 (l.getD k 0), .float .f32 (l.getD (k - Wn) 0), .float .f32 (l.getD (k + Wn) 0), .float .f32 (l.getD (k + 1) 0), .float .f32 (l.getD (k - 1) 0)]) ∧ Below w.heap.size w w' := by
  have kw : (Wn : Int) + 1 ≤ k := by
    rw [← hk]; unfold cellNo
    have h := Int.mul_le_mul_of_nonneg_right (show 1 ≤ y - Y by omega) (show (0 : Int) ≤ Wn by omega)
    omega
  have e1 : cellNo X Y Wn x (y - 1) = ((k - Wn : Nat) : Int) := by
    unfold cellNo at *
    rw [show y - 1 - Y = (y - Y) - 1 from by omega, Int.sub_mul, Int.one_mul]; omega
  have e2 : cellNo X Y Wn x (y + 1) = ((k + Wn : Nat) : Int) := by
    unfold cellNo at *
    rw [show y + 1 - Y = (y - Y) + 1 from by omega, Int.add_mul, Int.one_mul]; omega
  have e3 : cellNo X Y Wn (x + 1) y = ((k + 1 : Nat) : Int) := by unfold cellNo at *; omega
  have e4 : cellNo X Y Wn (x - 1) y = ((k - 1 : Nat) : Int) := by unfold cellNo at *; omega
  obtain ⟨vf, hvf⟩ : ∃ vf : Int → Int → Nat, vf = fun i j => l.getD (cellNo X Y Wn i j).toNat 0 := ⟨_, rfl⟩
  have KA : Hid (∀ (i j : Int) (w' : World), SRow w' (some ⟨b, o, none⟩) l → X ≤ i → i < X + Wn → Y ≤ j → j < Y + Hn → Calls Try.prog 23 #[fldV X Y Wn Hn (some ⟨b, o, none⟩) l.length c, .int .i64 i, .int .i64 j] w' fun e w2 => e = .returned (.float .f32 (vf i j)) ∧ Below w'.heap.size w' w2) := by
    intro i j w' hl' g1 g2 g3 g4
    rw [hvf]
    exact refat_any X Y Wn Hn i j b o c l w' hl' (by rw [hn, Int.natCast_mul, Int.mul_comm]) (by omega) (by omega) (by omega) (by omega) hx0 hx1 hy0 hy1 g1 g2 g3 g4
  have R1 : Hid (IntKind.i64.wrap (y - 1) = y - 1) := by unfold Hid; rw [IntKind.wrap_i64]; omega
  have R2 : Hid (IntKind.i64.wrap (y + 1) = y + 1) := by unfold Hid; rw [IntKind.wrap_i64]; omega
  have R3 : Hid (IntKind.i64.wrap (x + 1) = x + 1) := by unfold Hid; rw [IntKind.wrap_i64]; omega
  have R4 : Hid (IntKind.i64.wrap (x - 1) = x - 1) := by unfold Hid; rw [IntKind.wrap_i64]; omega
  have E0 : Hid (vf x y = l.getD k 0) := by unfold Hid; rw [hvf]; simp only; rw [hk, Int.toNat_natCast]
  have E1 : Hid (vf x (IntKind.i64.wrap (y - 1)) = l.getD (k - Wn) 0) := by unfold Hid; rw [R1.out, hvf]; simp only; rw [e1, Int.toNat_natCast]
  have E2 : Hid (vf x (IntKind.i64.wrap (y + 1)) = l.getD (k + Wn) 0) := by unfold Hid; rw [R2.out, hvf]; simp only; rw [e2, Int.toNat_natCast]
  have E3 : Hid (vf (IntKind.i64.wrap (x + 1)) y = l.getD (k + 1) 0) := by unfold Hid; rw [R3.out, hvf]; simp only; rw [e3, Int.toNat_natCast]
  have E4 : Hid (vf (IntKind.i64.wrap (x - 1)) y = l.getD (k - 1) 0) := by unfold Hid; rw [R4.out, hvf]; simp only; rw [e4, Int.toNat_natCast]
  have HL := Lib.hid hl
  have hF := (Fld.new w X Y Wn Hn (.slice (some ⟨b, o, none⟩) l.length c))
  have hB : Below w.heap.size w (w.alloc (.cells #[.int .i64 X, .int .i64 Y, .int .i64 Wn, .int .i64 Hn, .slice (some ⟨b, o, none⟩) l.length c] /-T-/26)) := (by repeat (first | with_reducible exact Below.refl _ _ | with_reducible apply Below.drew | with_reducible refine below_drewN ?_ _ | (with_reducible refine Below.setCell ?_ ?_ _; rotate_left; focus (first | omega | (simp <;> omega))) | (with_reducible refine Below.alloc ?_ ?_ _; rotate_left; focus (first | omega | (simp <;> omega)))))
  have x1 : -8388608 ≤ x := by omega
  have x2 : x ≤ 8389120 := by omega
  have y1 : -8388608 ≤ y := by omega
  have y2 : y ≤ 8389120 := by omega
  clear e1 e2 e3 e4 kw hk hn hl hvf
  go_enter Try.func162, Try.ntmps162
  go_wp2_with fail
  generalize (w.alloc (.cells #[.int .i64 X, .int .i64 Y, .int .i64 Wn, .int .i64 Hn, .slice (some ⟨b, o, none⟩) l.length c] /-T-/26)) = W0 at *
  have hkl := hF.lt
  obtain ⟨c0, c1, c2, c3, c4⟩ := hF.cells
  clear hF
  go_region_held3 (fun w' => w'.cell? ⟨w.heap.size, 0, none⟩ = some (.int .i64 X) ∧ w'.cell? ⟨w.heap.size, 1, none⟩ = some (.int .i64 Y) ∧ w'.cell? ⟨w.heap.size, 2, none⟩ = some (.int .i64 Wn) ∧ w'.cell? ⟨w.heap.size, 3, none⟩ = some (.int .i64 Hn) ∧ w'.cell? ⟨w.heap.size, 4, none⟩ = some (.slice (some ⟨b, o, none⟩) l.length c) ∧ w.heap.size < w'.heap.size ∧ Below w.heap.size w w')
    (first
      | exact ⟨c0, c1, c2, c3, c4, hkl, hB.drew⟩
      | (go_split_ands
         have hs := hb.size
         refine ⟨?_, ?_, ?_, ?_, ?_, ?_, ?_⟩
         all_goals first
           | (rw [hb.cell (by simp; omega)]; assumption)
           | exact Below.trans (by assumption) (hb.mono (by omega))
           | omega)
      | (go_split_ands; refine ⟨?_, ?_, ?_, ?_, ?_, ?_, ?_⟩ <;> assumption))
    (first
      | (go_at_call 23; go_split_ands; refine (KA.out _ _ _ (HL.out.below (by assumption)) ?_ ?_ ?_ ?_).mono ?_ <;> first | omega | (rw [R1.out]; omega) | (rw [R2.out]; omega) | (rw [R3.out]; omega) | (rw [R4.out]; omega) | skip
         rintro e2 w2 ⟨rfl, hb⟩))
  rename_i hHeld
  obtain ⟨_, _, _, _, _, _, hB2⟩ := hHeld
  go_wp2_with fail
  have z0 := E0.out
  have z1 := E1.out
  have z2 := E2.out
  have z3 := E3.out
  have z4 := E4.out
  refine bodyPost_ret (v := .tuple #[.float .f32 (vf x y), .float .f32 (vf x (IntKind.i64.wrap (y - 1))), .float .f32 (vf x (IntKind.i64.wrap (y + 1))), .float .f32 (vf (IntKind.i64.wrap (x + 1)) y), .float .f32 (vf (IntKind.i64.wrap (x - 1)) y)]) (by simp [results, Try.results162, go_sem]) rfl ⟨by rw [z0, z1, z2, z3, z4], hB2⟩

/-- the values at a cell and around it, given to a function -/
def nbr (φ : Nat → Nat → Nat → Nat → Nat → Nat) (l : List Nat) (Wn k : Nat) : Nat := φ (l.getD (k - Wn) 0) (l.getD (k + Wn) 0) (l.getD (k + 1) 0) (l.getD (k - 1) 0) (l.getD k 0)

end Go.Proofs.Ytfmbekdfigbfiaa

namespace Go.Proofs.Ytfmbekdfigbfiaa
open Go.Shelf
open Go.ChangeShapes Go.WideShapes Go.ChangeAt Go.RowKit
set_option linter.unusedVariables false

set_option maxRecDepth 100000 in
theorem stepfn_any (fn : Nat) (caps : Array Value) (φ : Nat → Nat → Nat → Nat → Nat → Nat) (X Y : Int) (Wn Hn : Nat) (x y : Int) (b o c k p q : Nat) (l : List Nat) (w : World) (hl : SRow w (some ⟨b, o, none⟩) l) (hw : 1 ≤ Wn) (hw2 : Wn ≤ 512) (hx0 : -8388608 ≤ X) (hx1 : X ≤ 8388608) (hy0 : -8388608 ≤ Y) (hy1 : Y ≤ 8388608) (hx : X ≤ x) (hx' : x < X + 512) (hy : Y ≤ y) (hy' : y < Y + 512)
    (hk : cellNo X Y Wn x y = (k : Int)) (k1 : Wn ≤ k) (k2 : k + Wn < l.length)
    (eg : ∀ args w, (callFunc fn args).run Try.prog w = .ok (.enter fn args) w)
    (hq : Fld w q X Y Wn Hn (.slice (some ⟨b, o, none⟩) l.length c)) (hp : w.cell? ⟨p, 0, none⟩ = some (.func (.func fn) #[] caps)) (pl : p < w.heap.size)
    (hf : ∀ W', Below w.heap.size w W' → Calls Try.prog fn (#[.agg #[.float .f32 (l.getD (k - Wn) 0), .float .f32 (l.getD (k + Wn) 0), .float .f32 (l.getD (k + 1) 0), .float .f32 (l.getD (k - 1) 0), .float .f32 (l.getD k 0)]] ++ caps) W' fun e w' => e = .returned (.float .f32 (nbr φ l Wn k)) ∧ Below W'.heap.size W' w') :
    Calls Try.prog 145 #[.int .i64 x, .int .i64 y, .pointer (some ⟨p, 0, none⟩), .pointer (some ⟨q, 0, none⟩)] w fun e w' => e = .returned (.float .f32 (nbr φ l Wn k)) ∧ Below w.heap.size w w' := by
  have K1 := Lib.hid (fun w' hl => around_any X Y Wn Hn x y b o c k l w' hl hw hw2 hx0 hx1 hy0 hy1 hx hx' hy hy' hk k1 k2)
  have HF := Lib.hid hf
  have HL := Lib.hid hl
  have ql := hq.lt
  obtain ⟨c0, c1, c2, c3, c4⟩ := hq.cells
  clear hf hl hq hk hx hx' hy hy' k1 k2
  generalize nbr φ l Wn k = z at *
  generalize l.getD k 0 = v at *
  generalize l.getD (k - Wn) 0 = n at *
  generalize l.getD (k + Wn) 0 = s at *
  generalize l.getD (k + 1) 0 = e at *
  generalize l.getD (k - 1) 0 = wv at *
  go_enter Try.func145, Try.ntmps145
  go_wp2_with fail
  go_region_held3 (fun w' => w'.cell? ⟨q, 0, none⟩ = some (.int .i64 X) ∧ w'.cell? ⟨q, 1, none⟩ = some (.int .i64 Y) ∧ w'.cell? ⟨q, 2, none⟩ = some (.int .i64 Wn) ∧ w'.cell? ⟨q, 3, none⟩ = some (.int .i64 Hn) ∧ w'.cell? ⟨q, 4, none⟩ = some (.slice (some ⟨b, o, none⟩) l.length c) ∧ w'.cell? ⟨p, 0, none⟩ = some (.func (.func fn) #[] caps) ∧ Below w.heap.size w w')
    (first
      | exact ⟨c0, c1, c2, c3, c4, hp, (Below.refl _ _).drew⟩
      | (go_split_ands
         have hs := (show Below w.heap.size w _ by assumption).size
         refine ⟨?_, ?_, ?_, ?_, ?_, ?_, ?_⟩
         all_goals first
           | (rw [hb.cell (by simp; omega)]; assumption)
           | exact Below.trans (by assumption) (hb.mono (by omega)))
      | (go_split_ands; refine ⟨?_, ?_, ?_, ?_, ?_, ?_, ?_⟩ <;> assumption))
    (first
      | (go_at_call 146; go_split_ands; refine (K1.out _ (HL.out.below (by assumption))).mono ?_; rintro e2 w2 ⟨rfl, hb⟩)
      | (go_at_fn fn; go_split_ands; refine (HF.out _ (by assumption)).mono ?_; rintro e2 w2 ⟨rfl, hb⟩))
  rename_i hHeld
  obtain ⟨_, _, _, _, _, _, hB⟩ := hHeld
  go_wp2_with fail
  go_ret
  exact ⟨rfl, hB⟩
end Go.Proofs.Ytfmbekdfigbfiaa

namespace Go.Proofs.Ytfmbekdfigbfiaa
open Go.Shelf
open Go.ChangeShapes Go.WideShapes Go.ChangeAt Go.RowKit
open Ieee.Format (fin finE htE allFin allHt all_true all_false mulF subF addF Ht)
set_option linter.unusedVariables false

/-- a field's values after 'i' steps -/
def stepsL (φ : Nat → Nat → Nat → Nat → Nat → Nat) (X Y : Int) (Wn Hn : Nat) (l : List Nat) : Nat → List Nat
  | 0 => l
  | i + 1 => madeL (fun x y => nbr φ (stepsL φ X Y Wn Hn l i) (Wn - 2 * i) (cellNo (X + i) (Y + i) ((Wn - 2 * i : Nat) : Int) x y).toNat) (X + i + 1) (Y + i + 1) (Wn - 2 * i - 2) ((Hn - 2 * i - 2) * (Wn - 2 * i - 2))

theorem stepsL_len (φ : Nat → Nat → Nat → Nat → Nat → Nat) (X Y : Int) (Wn Hn : Nat) (l : List Nat) (hn : l.length = Hn * Wn) (i : Nat) : (stepsL φ X Y Wn Hn l i).length = (Hn - 2 * i) * (Wn - 2 * i) := by
  cases i with
  | zero => simpa [stepsL] using hn
  | succ i =>
    show (madeL _ _ _ _ _).length = _
    rw [madeL_len, show Hn - 2 * (i + 1) = Hn - 2 * i - 2 from by omega, show Wn - 2 * (i + 1) = Wn - 2 * i - 2 from by omega]

theorem getD_all {P : Nat → Prop} (h0 : P 0) {l : List Nat} (h : ∀ x ∈ l, P x) (j : Nat) : P (l.getD j 0) := by
  rcases Nat.lt_or_ge j l.length with hlt | hge
  · rw [List.getD_eq_getElem?_getD, List.getElem?_eq_getElem hlt]; exact h _ (List.getElem_mem hlt)
  · rw [List.getD_eq_getElem?_getD, List.getElem?_eq_none hge]; exact h0

theorem stepsL_all (P : Nat → Nat → Prop) (φ : Nat → Nat → Nat → Nat → Nat → Nat) (X Y : Int) (Wn Hn : Nat) (l : List Nat) (N : Nat) (h0 : ∀ i, P i 0) (hl : ∀ x ∈ l, P 0 x)
    (hφ : ∀ i, i < N → ∀ n s e w v, P i n → P i s → P i e → P i w → P i v → P (i + 1) (φ n s e w v)) : ∀ i, i ≤ N → ∀ x ∈ stepsL φ X Y Wn Hn l i, P i x := by
  intro i
  induction i with
  | zero => exact fun _ => hl
  | succ i ih =>
    intro hi x hx
    have H := getD_all (h0 i) (ih (by omega))
    change x ∈ madeL _ _ _ _ _ at hx
    unfold madeL at hx
    obtain ⟨k, _, rfl⟩ := List.mem_map.1 hx
    exact hφ i (by omega) _ _ _ _ _ (H _) (H _) (H _) (H _) (H _)

theorem steps_world (w : World) (X Y W H : Int) (v u : Value) : ∀ W0, W0 = ((w.alloc (.cells #[.int .i64 X, .int .i64 Y, .int .i64 W, .int .i64 H, v] /-T-/26)).alloc (.cells #[u] /-T-/126)).alloc (.cells #[.int .i64 0, .int .i64 0, .int .i64 0, .int .i64 0, .slice none 0 0] /-T-/26) →
    Fld W0 w.heap.size X Y W H v ∧ W0.cell? ⟨w.heap.size + 1, 0, none⟩ = some u ∧ Fld W0 (w.heap.size + 1 + 1) 0 0 0 0 (.slice none 0 0) ∧ Below w.heap.size w W0 ∧ W0.heap.size = w.heap.size + 3 := by
  rintro _ rfl
  refine ⟨((Fld.new w X Y W H v).alloc _).alloc _, by simp [go_sem], ?_, (by repeat (first | with_reducible exact Below.refl _ _ | with_reducible apply Below.drew | with_reducible refine below_drewN ?_ _ | (with_reducible refine Below.setCell ?_ ?_ _; rotate_left; focus (first | omega | (simp <;> omega))) | (with_reducible refine Below.alloc ?_ ?_ _; rotate_left; focus (first | omega | (simp <;> omega))))), by simp⟩
  have := Fld.new ((w.alloc (.cells #[.int .i64 X, .int .i64 Y, .int .i64 W, .int .i64 H, v] /-T-/26)).alloc (.cells #[u] /-T-/126)) 0 0 0 0 (.slice none 0 0)
  simpa using this

set_option maxRecDepth 100000 in
theorem steps_no (N : Nat) (X Y : Int) (Wn Hn : Nat) (a : Option Addr) (n c : Nat) (w : World) (hw : 1 ≤ Wn) (hw2 : Wn ≤ 512) (hh : 1 ≤ Hn) (hh2 : Hn ≤ 512) (hN : N ≤ 64) (hx0 : -8388608 ≤ X) (hx1 : X ≤ 8388608) (hy0 : -8388608 ≤ Y) (hy1 : Y ≤ 8388608)
    (h : Wn < 1 + 2 * N ∨ Hn < 1 + 2 * N) (fn : Nat) (caps : Array Value) :
    Calls Try.prog 65 #[fldV X Y Wn Hn a n c, .int .i64 N, .func (.func fn) #[] caps] w fun e w' => e = .returned (.tuple #[fldV 0 0 0 0 none 0 0, .int .i64 10]) ∧ Below w.heap.size w w' := by
  have K := Lib.hid (fun w' => smaller_no X Y Wn Hn N w' (by omega) (by omega) hx0 hx1 hy0 hy1 (by omega) (by omega) (by omega) (by omega) (by omega))
  clear h hx0 hx1 hy0 hy1 hw hh
  go_enter Try.func65, Try.ntmps65
  go_wp2_with fail
  generalize hW0 : ((w.alloc (.cells #[.int .i64 X, .int .i64 Y, .int .i64 Wn, .int .i64 Hn, .slice a n c] /-T-/26)).alloc (.cells #[.func (.func fn) #[] caps] /-T-/126)).alloc (.cells #[.int .i64 0, .int .i64 0, .int .i64 0, .int .i64 0, .slice none 0 0] /-T-/26) = W0 at *
  obtain ⟨_, _, F0, B0, z0⟩ := steps_world w X Y Wn Hn (.slice a n c) (.func (.func fn) #[] caps) W0 hW0.symm
  clear hW0
  refine (K.out _).mono ?_
  rintro e w1 ⟨rfl, b1⟩
  have F1 := F0.below b1 F0.lt
  have B1 := Lib.hid (B0.trans (b1.mono B0.size))
  clear b1 B0 F0
  obtain ⟨d0, d1, d2, d3, d4⟩ := F1.cells
  have qf0 := F1.frozen 0
  have qf1 := F1.frozen 1
  have qf2 := F1.frozen 2
  have qf3 := F1.frozen 3
  have qf4 := F1.frozen 4
  have l1 := F1.lt
  clear F1
  go_wp2_with fail
  have B2 := B1.out
  exact bodyPost_ret (v := .tuple #[fldV 0 0 0 0 none 0 0, .int .i64 10]) (by simp [results, Try.results65, go_sem, *]) rfl ⟨rfl, (by have hszz := B2.size; repeat (first | with_reducible exact B2 | with_reducible apply Below.drew | with_reducible refine below_drewN ?_ _ | (with_reducible refine Below.setCell ?_ ?_ _; rotate_left; focus (first | omega | (simp <;> omega))) | (with_reducible refine Below.alloc ?_ ?_ _; rotate_left; focus (first | omega | (simp <;> omega)))))⟩

/-- the loop of 'steps' -/
structure StepInv (w wr : World) (kt : Nat) (u : Value) (X Y W H : Int) (m : List Nat) (g cap : Nat) : Prop where
  fo : Fld wr kt X Y W H (.slice (some ⟨g, 0, none⟩) m.length cap)
  rz : Fld wr (w.heap.size + 1 + 1) 0 0 0 0 (.slice none 0 0)
  fc : wr.cell? ⟨w.heap.size + 1, 0, none⟩ = some u
  own : OwnF wr w.heap.size g cap m
  kg : w.heap.size + 1 + 1 < kt
  ne : g ≠ kt
  gr : w.heap.size + 1 + 1 < g
  below : Below w.heap.size w wr
theorem StepInv.upto {w wr w2 : World} {kt : Nat} {u : Value} {X Y W H : Int} {m : List Nat} {g cap : Nat} (h : StepInv w wr kt u X Y W H m g cap) (hb : Below wr.heap.size wr w2) : StepInv w w2 kt u X Y W H m g cap := by
  have hk := h.fo.lt
  have hg := h.kg
  exact ⟨h.fo.below hb h.fo.lt, h.rz.below hb h.rz.lt, (hb.cell (p := ⟨w.heap.size + 1, 0, none⟩) (by simp; omega)).trans h.fc, h.own.below hb h.own.lt.2, h.kg, h.ne, h.gr, h.below.trans (hb.mono h.below.size)⟩
theorem StepInv.next {w wr : World} {kt : Nat} {u : Value} {X Y W H : Int} {m : List Nat} {g cap : Nat} (h : StepInv w wr kt u X Y W H m g cap) {X' Y' W' H' : Int} {m' : List Nat} {g' cap' : Nat} (ho : OwnF wr w.heap.size g' cap' m') (hg : g' ≠ kt) (hr : w.heap.size + 1 + 1 < g') :
    ∀ W6, W6 = ((((wr.setCell ⟨kt, 0, none⟩ (.int .i64 X')).setCell ⟨kt, 1, none⟩ (.int .i64 Y')).setCell ⟨kt, 2, none⟩ (.int .i64 W')).setCell ⟨kt, 3, none⟩ (.int .i64 H')).setCell ⟨kt, 4, none⟩ (.slice (some ⟨g', 0, none⟩) m'.length cap') →
    StepInv w W6 kt u X' Y' W' H' m' g' cap' := by
  intro W6 e
  obtain ⟨f, b, oo, ff, z⟩ := fld_store wr kt X Y W H _ X' Y' W' H' (.slice (some ⟨g', 0, none⟩) m'.length cap') h.fo W6 e
  have hk := h.kg
  refine ⟨f, ff _ _ _ _ _ _ h.rz (by omega), ?_, oo _ _ _ _ ho hg, hk, hg, hr, h.below.trans (b.mono (by omega))⟩
  exact (b.cell (p := ⟨w.heap.size + 1, 0, none⟩) (by simp; omega)).trans h.fc

set_option maxRecDepth 100000 in
set_option maxHeartbeats 4000000 in
theorem steps_yes (fn : Nat) (caps : Array Value) (φ : Nat → Nat → Nat → Nat → Nat → Nat) (P : Nat → Nat → Prop) (N : Nat) (X Y : Int) (Wn Hn : Nat) (b o c : Nat) (l : List Nat) (w : World) (hl : SRow w (some ⟨b, o, none⟩) l) (hn : l.length = Hn * Wn) (hw : 1 + 2 * N ≤ Wn) (hw2 : Wn ≤ 512) (hh : 1 + 2 * N ≤ Hn) (hh2 : Hn ≤ 512) (hN : N ≤ 64) (hx0 : -8388000 ≤ X) (hx1 : X ≤ 8388000) (hy0 : -8388000 ≤ Y) (hy1 : Y ≤ 8388000)
    (eg : ∀ args w, (callFunc fn args).run Try.prog w = .ok (.enter fn args) w)
    (h0 : ∀ i, P i 0) (hl0 : ∀ x ∈ l, P 0 x) (hφ : ∀ i, i < N → ∀ n s e w v, P i n → P i s → P i e → P i w → P i v → P (i + 1) (φ n s e w v)) (hlt : ∀ i x, P i x → x < 4294967296)
    (hf : ∀ i, i < N → ∀ n s e wv v, P i n → P i s → P i e → P i wv → P i v → ∀ W', Below w.heap.size w W' → Calls Try.prog fn (#[.agg #[.float .f32 n, .float .f32 s, .float .f32 e, .float .f32 wv, .float .f32 v]] ++ caps) W' fun e' w' => e' = .returned (.float .f32 (φ n s e wv v)) ∧ Below W'.heap.size W' w') :
    Calls Try.prog 65 #[fldV X Y Wn Hn (some ⟨b, o, none⟩) l.length c, .int .i64 N, .func (.func fn) #[] caps] w fun e w' => ResP (X + N) (Y + N) (Wn - 2 * N : Nat) (Hn - 2 * N : Nat) (stepsL φ X Y Wn Hn l N) w e w' := by
  have K := Lib.hid (fun w' => smaller_ok X Y Wn Hn N w' (by omega) (by omega) (by omega) (by omega) (by omega) (by omega) (by omega) (by omega) (by omega) (by omega))
  have HF := Lib.hid hf
  have HL := Lib.hid hl
  have HP := Lib.hid (stepsL_all P φ X Y Wn Hn l N h0 hl0 hφ)
  have HQ := Lib.hid (stepsL_len φ X Y Wn Hn l hn)
  have HH := Lib.hid hlt
  have HZ := Lib.hid h0
  have ne : l ≠ [] := by
    rintro rfl
    have := Nat.mul_le_mul (show 1 ≤ Hn by omega) (show 1 ≤ Wn by omega)
    simp at hn; omega
  have KC := Lib.hid (fun w' hl => copy_any X Y Wn Hn b o c l w' hl ne)
  have HS := Lib.hid hφ
  have hll : l.length ≤ 1099511627776 := hl.1.1
  clear hf hl hl0 hφ hlt h0 ne hn
  go_enter Try.func65, Try.ntmps65
  go_wp2_with fail
  generalize hW0 : ((w.alloc (.cells #[.int .i64 X, .int .i64 Y, .int .i64 Wn, .int .i64 Hn, .slice (some ⟨b, o, none⟩) l.length c] /-T-/26)).alloc (.cells #[.func (.func fn) #[] caps] /-T-/126)).alloc (.cells #[.int .i64 0, .int .i64 0, .int .i64 0, .int .i64 0, .slice none 0 0] /-T-/26) = W0 at *
  obtain ⟨E0, c0, F0, B0, z0⟩ := steps_world w X Y Wn Hn (.slice (some ⟨b, o, none⟩) l.length c) (.func (.func fn) #[] caps) W0 hW0.symm
  clear hW0
  refine (K.out _).mono ?_
  rintro e w1 ⟨rfl, b1⟩
  have E1 := E0.below b1 E0.lt
  have F1 := Lib.hid (F0.below b1 F0.lt)
  have FC := Lib.hid ((b1.cell (p := ⟨w.heap.size + 1, 0, none⟩) (by simp; omega)).trans c0)
  have B1 := Lib.hid (B0.trans (b1.mono B0.size))
  have l1 := E1.lt
  have z1 : W0.heap.size ≤ w1.heap.size := b1.size
  clear b1 B0 F0 E0 c0
  obtain ⟨d0, d1, d2, d3, d4⟩ := E1.cells
  clear E1
  go_wp2_with fail
  -- the copy
  generalize hW2 : w1.alloc (.cells #[.int .i64 (X + N), .int .i64 (Y + N), .int .i64 (Wn - 2 * N), .int .i64 (Hn - 2 * N)] /-T-/23) = W2 at *
  have B2 : Below w1.heap.size w1 W2 := by subst hW2; exact (by repeat (first | with_reducible exact Below.refl _ _ | with_reducible apply Below.drew | with_reducible refine below_drewN ?_ _ | (with_reducible refine Below.setCell ?_ ?_ _; rotate_left; focus (first | omega | (simp <;> omega))) | (with_reducible refine Below.alloc ?_ ?_ _; rotate_left; focus (first | omega | (simp <;> omega)))))
  have F2 := F1.out.below B2 F1.out.lt
  have FC2 := Lib.hid ((B2.cell (p := ⟨w.heap.size + 1, 0, none⟩) (by simp; omega)).trans FC.out)
  have HB2 := Lib.hid (B1.out.trans (B2.mono B1.out.size))
  have z2 : w1.heap.size ≤ W2.heap.size := B2.size
  clear hW2 B2 F1 FC B1 d0 d1 d2 d3 d4
  refine (KC.out _ (HL.out.below HB2.out)).mono ?_
  rintro e w3 ⟨g, cap, rfl, ho, b3⟩
  have F3 := F2.below b3 F2.lt
  have FC3 := Lib.hid ((b3.cell (p := ⟨w.heap.size + 1, 0, none⟩) (by simp; omega)).trans FC2.out)
  have HB3 := Lib.hid (HB2.out.trans (b3.mono HB2.out.size))
  have z3 : W2.heap.size ≤ w3.heap.size := b3.size
  have HO3 := Lib.hid ho
  have HF3 := Lib.hid F3
  clear F3 F2 FC2 HB2 b3 ho KC HL K
  go_wp2_with fail
  generalize hW4 : w3.alloc (.cells #[.int .i64 X, .int .i64 Y, .int .i64 Wn, .int .i64 Hn, .slice (some ⟨g, 0, none⟩) l.length cap] /-T-/26) = W4 at *
  have I0 : StepInv w W4 w3.heap.size (.func (.func fn) #[] caps) X Y Wn Hn l g cap := by
    subst hW4
    have h1 := HO3.out.lt
    have hb := HB3.out
    exact ⟨Fld.new _ _ _ _ _ _, HF3.out.alloc _, ((show Below w3.heap.size w3 (w3.alloc (.cells #[.int .i64 X, .int .i64 Y, .int .i64 Wn, .int .i64 Hn, .slice (some ⟨g, 0, none⟩) l.length cap] /-T-/26)) from (by repeat (first | with_reducible exact Below.refl _ _ | with_reducible apply Below.drew | with_reducible refine below_drewN ?_ _ | (with_reducible refine Below.setCell ?_ ?_ _; rotate_left; focus (first | omega | (simp <;> omega))) | (with_reducible refine Below.alloc ?_ ?_ _; rotate_left; focus (first | omega | (simp <;> omega)))))).cell (p := ⟨w.heap.size + 1, 0, none⟩) (by simp; omega)).trans FC3.out, (HO3.out.base (by omega)).alloc _, by omega, by omega, by omega, (by have hszz := hb.size; repeat (first | with_reducible exact hb | with_reducible apply Below.drew | with_reducible refine below_drewN ?_ _ | (with_reducible refine Below.setCell ?_ ?_ _; rotate_left; focus (first | omega | (simp <;> omega))) | (with_reducible refine Below.alloc ?_ ?_ _; rotate_left; focus (first | omega | (simp <;> omega)))))⟩
  clear hW4 HO3 HB3 HF3 FC3
  have J0 := Lib.hid I0
  have hk0 : Hid (w.heap.size + 1 + 1 < w3.heap.size) := I0.kg
  clear I0
  clear z0 z1 z2 z3 l1
  generalize w3.heap.size = kt at *
  generalize w1.heap.size = kr at *
  go_loopw [28] (fun vi wr => ∃ i : Nat, i ≤ N ∧ vi = .int .i64 i ∧ ∃ g cap, StepInv w wr kt (.func (.func fn) #[] caps) (X + i) (Y + i) (Wn - 2 * i : Nat) (Hn - 2 * i : Nat) (stepsL φ X Y Wn Hn l i) g cap) (fun vi _ => (N - intOf vi).toNat)
  case atStart => exact ⟨0, by omega, rfl, g, cap, by simpa [stepsL] using J0.out⟩
  case round =>
    obtain ⟨i, hi, rfl, g, cap, I⟩ := hrel
    clear J0
    by_cases hlt : i < N
    · have hm1 : Hid ((stepsL φ X Y Wn Hn l i).length = (Hn - 2 * i) * (Wn - 2 * i)) := HQ.out i
      have hP : Hid (∀ j, P i ((stepsL φ X Y Wn Hn l i).getD j 0)) := getD_all (HZ.out i) (HP.out i hi)
      have hsu : Hid (stepsL φ X Y Wn Hn l (i + 1) = madeL (fun x y => nbr φ (stepsL φ X Y Wn Hn l i) (Wn - 2 * i) (cellNo (X + i) (Y + i) ((Wn - 2 * i : Nat) : Int) x y).toNat) (X + i + 1) (Y + i + 1) (Wn - 2 * i - 2) ((Hn - 2 * i - 2) * (Wn - 2 * i - 2))) := rfl
      have hw1 : Hid (Wn - 2 * (i + 1) = Wn - 2 * i - 2 ∧ Hn - 2 * (i + 1) = Hn - 2 * i - 2 ∧ X + ((i + 1 : Nat) : Int) = X + i + 1 ∧ Y + ((i + 1 : Nat) : Int) = Y + i + 1) := ⟨by omega, by omega, by omega, by omega⟩
      have x0 : -8388000 ≤ X + (i : Int) := by omega
      have x1 : X + (i : Int) ≤ 8388100 := by omega
      have y0 : -8388000 ≤ Y + (i : Int) := by omega
      have y1 : Y + (i : Int) ≤ 8388100 := by omega
      have w1 : 3 ≤ Wn - 2 * i := by omega
      have w2 : Wn - 2 * i ≤ 512 := by omega
      have h1 : 3 ≤ Hn - 2 * i := by omega
      have h2 : Hn - 2 * i ≤ 512 := by omega
      generalize hm2 : stepsL φ X Y Wn Hn l (i + 1) = m2 at *
      have HM2 := Lib.hid hm2
      clear hm2
      generalize stepsL φ X Y Wn Hn l i = m at *
      generalize X + (i : Int) = Xi at *
      generalize Y + (i : Int) = Yi at *
      generalize Wn - 2 * i = Wi at *
      generalize Hn - 2 * i = Hi at *
      have hml : m.length ≤ 1099511627776 := by rw [hm1.out]; have := Nat.mul_le_mul h2 w2; omega
      have KS : Hid (∀ w', Calls Try.prog 143 #[reg Xi Yi Wi Hi, .int .i64 1] w' fun e w'' => e = .returned (.tuple #[reg (Xi + 1) (Yi + 1) ((Wi - 2 : Nat) : Int) ((Hi - 2 : Nat) : Int), .int .i64 0]) ∧ Below w'.heap.size w' w'') := by
        intro w'
        have := smaller_ok Xi Yi Wi Hi 1 w' (by omega) (by omega) (by omega) (by omega) (by omega) (by omega) (by omega) (by omega) (by omega) (by omega)
        rw [show (Wi : Int) - 2 * 1 = ((Wi - 2 : Nat) : Int) from by omega, show (Hi : Int) - 2 * 1 = ((Hi - 2 : Nat) : Int) from by omega] at this
        exact this
      obtain ⟨c0, c1, c2, c3, c4⟩ := I.fo.cells
      have kl := I.fo.lt
      have HI := Lib.hid I
      clear I
      go_wp2_with fail
      generalize hWR : wr.alloc (.cells #[.int .i64 Xi, .int .i64 Yi, .int .i64 Wi, .int .i64 Hi, .slice (some ⟨g, 0, none⟩) m.length cap] /-T-/26) = WR at *
      have BR : Below wr.heap.size wr WR := by subst hWR; exact (by repeat (first | with_reducible exact Below.refl _ _ | with_reducible apply Below.drew | with_reducible refine below_drewN ?_ _ | (with_reducible refine Below.setCell ?_ ?_ _; rotate_left; focus (first | omega | (simp <;> omega))) | (with_reducible refine Below.alloc ?_ ?_ _; rotate_left; focus (first | omega | (simp <;> omega)))))
      have FR : Fld WR wr.heap.size Xi Yi Wi Hi (.slice (some ⟨g, 0, none⟩) m.length cap) := by subst hWR; exact Fld.new _ _ _ _ _ _
      have HI1 := Lib.hid (HI.out.upto BR)
      clear hWR BR HI c0 c1 c2 c3 c4
      have kl1 : Hid (kt < wr.heap.size) := kl
      generalize wr.heap.size = kf at *
      refine (KS.out _).mono ?_
      rintro e w5 ⟨rfl, b5⟩
      have HI2 := Lib.hid (HI1.out.upto b5)
      have F5 := FR.below b5 FR.lt
      have HF5 := Lib.hid F5
      have lf5 : kf < w5.heap.size := F5.lt
      clear b5 FR F5 HI1
      obtain ⟨c0, c1, c2, c3, c4⟩ := HF5.out.cells
      go_wp2_with fail
      generalize hW6 : w5.alloc (.cells #[.int .i64 (Xi + 1), .int .i64 (Yi + 1), .int .i64 ((Wi - 2 : Nat) : Int), .int .i64 ((Hi - 2 : Nat) : Int)] /-T-/23) = W6 at *
      have B6 : Below w5.heap.size w5 W6 := by subst hW6; exact (by repeat (first | with_reducible exact Below.refl _ _ | with_reducible apply Below.drew | with_reducible refine below_drewN ?_ _ | (with_reducible refine Below.setCell ?_ ?_ _; rotate_left; focus (first | omega | (simp <;> omega))) | (with_reducible refine Below.alloc ?_ ?_ _; rotate_left; focus (first | omega | (simp <;> omega)))))
      have HI3 := Lib.hid (HI2.out.upto B6)
      have HF6 := Lib.hid (HF5.out.below B6 lf5)
      clear hW6 B6 HI2 HF5 c0 c1 c2 c3 c4
      have hrow : Hid (SRow W6 (some ⟨g, 0, none⟩) m) := HI3.out.own.row hml
      refine (make_any 145 #[.pointer (some ⟨w.heap.size + 1, 0, none⟩), .pointer (some ⟨kf, 0, none⟩)] (fun x y => nbr φ m Wi (cellNo Xi Yi Wi x y).toNat) (Xi + 1) (Yi + 1) (Wi - 2) (Hi - 2) W6 (by omega) (by omega) (by omega) (by omega) (by omega) (by omega) (by omega) (by omega) (enters_of Try.func145 (by kernel_rfl) rfl) ?_ ?_).mono ?_
      · intro x y _ _ _ _
        exact HH.out (i + 1) _ (HS.out i hlt _ _ _ _ _ (hP.out _) (hP.out _) (hP.out _) (hP.out _) (hP.out _))
      · intro x y g1 g2 g3 g4 W' hb
        have hk0 : cellNo Xi Yi Wi x y = ((cellNo Xi Yi Wi x y).toNat : Int) ∧ Wi ≤ (cellNo Xi Yi Wi x y).toNat ∧ (cellNo Xi Yi Wi x y).toNat + Wi < m.length := by
          have e1 := Int.mul_le_mul_of_nonneg_right (show 1 ≤ y - Yi by omega) (show (0 : Int) ≤ Wi by omega)
          have e2 := Int.mul_le_mul_of_nonneg_right (show y - Yi ≤ (Hi : Int) - 2 by omega) (show (0 : Int) ≤ Wi by omega)
          have e3 : (m.length : Int) = (Hi : Int) * Wi := by rw [hm1.out, Int.natCast_mul]
          have e4 : ((Hi : Int) - 2) * (Wi : Int) = (Hi : Int) * Wi - 2 * Wi := Int.sub_mul _ _ _
          unfold cellNo
          omega
        obtain ⟨hk, hk1, hk2⟩ := hk0
        have I' := HI3.out.upto hb
        exact stepfn_any fn caps φ Xi Yi Wi Hi x y g 0 cap (cellNo Xi Yi Wi x y).toNat (w.heap.size + 1) kf m W' (hrow.out.below hb) (by omega) (by omega) (by omega) (by omega) (by omega) (by omega) (by omega) (by omega) (by omega) (by omega) hk hk1 hk2 eg (HF6.out.below hb HF6.out.lt) I'.fc (by have := I'.rz.lt; omega)
          (fun W'' hb2 => HF.out i hlt _ _ _ _ _ (hP.out _) (hP.out _) (hP.out _) (hP.out _) (hP.out _) W'' (I'.below.trans (hb2.mono I'.below.size)))
      rintro e w7 hM
      rw [← hsu.out] at hM
      obtain ⟨⟨g', cap', rfl, ho'⟩, b7⟩ := hM
      have I7 := HI3.out.upto b7
      have HI7 := Lib.hid I7
      have hgz : kt < W6.heap.size := HI3.out.fo.lt
      have hbz : w.heap.size ≤ W6.heap.size := HI3.out.below.size
      have hgk : Hid (g' ≠ kt ∧ w.heap.size + 1 + 1 < g') := by have := ho'.lt; have := HI3.out.kg; unfold Hid; omega
      have HO7 := Lib.hid (ho'.base hbz)
      clear b7 ho' HI3 HF6 hrow KS lf5
      have F7 := I7.fo
      clear I7
      obtain ⟨c0, c1, c2, c3, c4⟩ := F7.cells
      have qf0 := F7.frozen 0
      have qf1 := F7.frozen 1
      have qf2 := F7.frozen 2
      have qf3 := F7.frozen 3
      have qf4 := F7.frozen 4
      have kl7 := F7.lt
      clear F7
      go_wp2_with fail
      go_roundw
      case rel =>
        refine ⟨i + 1, by omega, by go_num, g', cap', ?_⟩
        obtain ⟨e1, e2, e3, e4⟩ := hw1.out
        rw [e1, e2, e3, e4]
        rw [HM2.out]
        exact HI7.out.next HO7.out hgk.out.1 hgk.out.2 _ rfl
      case measure => simp [intOf]; omega
    · obtain rfl : i = N := by omega
      have hm1 := HQ.out i
      have hml : (stepsL φ X Y Wn Hn l i).length ≤ 1099511627776 := by
        rw [hm1]; have := Nat.mul_le_mul (show Hn - 2 * i ≤ 512 by omega) (show Wn - 2 * i ≤ 512 by omega); omega
      clear hm1 HP HQ HS HF HH HZ
      generalize hmq : stepsL φ X Y Wn Hn l i = m at *
      have HMQ := Lib.hid hmq
      clear hmq
      have ey := Lib.hid (rfl : X + (i : Int) = X + (i : Int))
      obtain ⟨Xi, hXi⟩ : ∃ Xi : Int, X + (i : Int) = Xi := ⟨_, rfl⟩
      obtain ⟨Yi, hYi⟩ : ∃ Yi : Int, Y + (i : Int) = Yi := ⟨_, rfl⟩
      obtain ⟨Wi, hWi⟩ : ∃ Wi : Nat, Wn - 2 * i = Wi := ⟨_, rfl⟩
      obtain ⟨Hi, hHi⟩ : ∃ Hi : Nat, Hn - 2 * i = Hi := ⟨_, rfl⟩
      rw [hXi, hYi, hWi, hHi] at I
      have HXE : Hid (X + (i : Int) = Xi ∧ Y + (i : Int) = Yi ∧ Wn - 2 * i = Wi ∧ Hn - 2 * i = Hi) := ⟨hXi, hYi, hWi, hHi⟩
      clear hXi hYi hWi hHi ey
      obtain ⟨c0, c1, c2, c3, c4⟩ := I.fo.cells
      have kl := I.fo.lt
      have HR3 := Lib.hid (I.own.row hml)
      have HI := Lib.hid I
      clear I
      cases hh : allHt m with
      | true =>
        have HH := Lib.hid hh
        go_wp2_with fail
        refine (result_ok Xi Yi Wi Hi g 0 cap m wr HR3.out ?_).mono ?_
        · intro j hj
          have := Ieee.Format.allHt_iff.1 HH.out (m.getD j 0) (by rw [List.getD_eq_getElem?_getD, List.getElem?_eq_getElem hj]; exact List.getElem_mem hj)
          exact this
        rintro e w4 ⟨rfl, hb4⟩
        have I4 := HI.out.upto hb4
        have F4 := I4.rz
        have O4 := I4.own
        have gr4 := I4.gr
        have B4 := I4.below
        clear hh hb4 I4 c0 c1 c2 c3 c4
        obtain ⟨d0, d1, d2, d3, d4⟩ := F4.cells
        have qf0 := F4.frozen 0
        have qf1 := F4.frozen 1
        have qf2 := F4.frozen 2
        have qf3 := F4.frozen 3
        have qf4 := F4.frozen 4
        go_wp2_with fail
        obtain rfl := HMQ.out
        obtain ⟨x1, x2, x3, x4⟩ := HXE.out
        refine bodyPost_ret (v := .tuple #[fldV Xi Yi Wi Hi (some ⟨g, 0, none⟩) (stepsL φ X Y Wn Hn l i).length cap, .int .i64 0]) (by simp [results, Try.results65, go_sem, *]) rfl ⟨fun _ => ⟨g, cap, by rw [x1, x2, x3, x4], (by have hgg := O4.lt; repeat (first | with_reducible exact O4 | with_reducible refine OwnF.drew ?_ | with_reducible refine OwnF.drewN ?_ _ | (with_reducible refine OwnF.setCell ?_ ?_ _; rotate_left; focus (first | omega | (simp <;> omega))) | with_reducible refine OwnF.alloc ?_ _))⟩, fun h => absurd (HH.out.symm.trans h) (by decide), (by have hszz := B4.size; repeat (first | with_reducible exact B4 | with_reducible apply Below.drew | with_reducible refine below_drewN ?_ _ | (with_reducible refine Below.setCell ?_ ?_ _; rotate_left; focus (first | omega | (simp <;> omega))) | (with_reducible refine Below.alloc ?_ ?_ _; rotate_left; focus (first | omega | (simp <;> omega)))))⟩
      | false =>
        have HH := Lib.hid hh
        go_wp2_with fail
        refine (result_no Xi Yi Wi Hi g 0 cap m wr HR3.out hh).mono ?_
        rintro e w4 ⟨rfl, hb4⟩
        have I4 := HI.out.upto hb4
        have F4 := I4.rz
        have B4 := I4.below
        clear hh hb4 I4 c0 c1 c2 c3 c4
        obtain ⟨d0, d1, d2, d3, d4⟩ := F4.cells
        have qf0 := F4.frozen 0
        have qf1 := F4.frozen 1
        have qf2 := F4.frozen 2
        have qf3 := F4.frozen 3
        have qf4 := F4.frozen 4
        go_wp2_with fail
        obtain rfl := HMQ.out
        refine bodyPost_ret (v := .tuple #[fldV 0 0 0 0 none 0 0, .int .i64 3]) (by simp [results, Try.results65, go_sem, *]) rfl ⟨fun h => absurd (HH.out.symm.trans h) (by decide), fun _ => rfl, (by have hszz := B4.size; repeat (first | with_reducible exact B4 | with_reducible apply Below.drew | with_reducible refine below_drewN ?_ _ | (with_reducible refine Below.setCell ?_ ?_ _; rotate_left; focus (first | omega | (simp <;> omega))) | (with_reducible refine Below.alloc ?_ ?_ _; rotate_left; focus (first | omega | (simp <;> omega)))))⟩
end Go.Proofs.Ytfmbekdfigbfiaa

namespace Go.Proofs.Ytfmbekdfigbfiaa
open Go.Shelf
open Go.ChangeShapes Go.WideShapes Go.ChangeAt Go.RowKit
open Ieee.Format (fin finE htE allFin allHt all_true all_false mulF subF addF Ht)
set_option linter.unusedVariables false

theorem refinner_ok (X Y : Int) (Wn Hn : Nat) (a : Option Addr) (n c N : Nat) (w : World) (hw : 1 + 2 * N ≤ Wn) (hw2 : Wn ≤ 512) (hh : 1 + 2 * N ≤ Hn) (hh2 : Hn ≤ 512) (hN : N ≤ 64) (hx0 : -4000000 ≤ X) (hx1 : X ≤ 4000000) (hy0 : -4000000 ≤ Y) (hy1 : Y ≤ 4000000) :
    Calls Try.prog 88 #[fldV X Y Wn Hn a n c, .int .i64 N] w fun e w' => (∃ x y p q, e = .returned (.tuple #[reg x y p q, .int .i64 0])) ∧ Below w.heap.size w w' := by
  have K := Lib.hid (fun w' => grown_any X Y Wn Hn (-(N : Int)) w' (by omega) (by omega) (by omega) (by omega) (by omega) (by omega) (by omega) (by omega) (by omega) (by omega))
  have hB : Below w.heap.size w ((w.alloc (.cells #[.int .i64 X, .int .i64 Y, .int .i64 Wn, .int .i64 Hn, .slice a n c] /-T-/26)).alloc (.cells #[.int .i64 0, .int .i64 0, .int .i64 0, .int .i64 0] /-T-/23)) := (by repeat (first | with_reducible exact Below.refl _ _ | with_reducible apply Below.drew | with_reducible refine below_drewN ?_ _ | (with_reducible refine Below.setCell ?_ ?_ _; rotate_left; focus (first | omega | (simp <;> omega))) | (with_reducible refine Below.alloc ?_ ?_ _; rotate_left; focus (first | omega | (simp <;> omega)))))
  have HB := Lib.hid hB
  clear hB
  go_enter Try.func88, Try.ntmps88
  go_wp2_with fail
  refine (K.out _).mono ?_
  rintro e w1 ⟨rfl, b1⟩
  have hR : Reg w1 (w.heap.size + 1) 0 0 0 0 := by
    have := (Reg.new (w.alloc (.cells #[.int .i64 X, .int .i64 Y, .int .i64 Wn, .int .i64 Hn, .slice a n c] /-T-/26)) 0 0 0 0)
    have := this.below b1 (by simp)
    simpa using this
  have B1 := Lib.hid (HB.out.trans (b1.mono HB.out.size))
  clear b1
  have lz := hR.lt
  obtain ⟨d0, d1, d2, d3⟩ := hR.cells
  have q0 : w1.frozen? ⟨w.heap.size + 1, 0, none⟩ = false := frozen_of_row w1 _ 0 _ _ hR
  have q1 : w1.frozen? ⟨w.heap.size + 1, 1, none⟩ = false := frozen_of_row w1 _ 1 _ _ hR
  have q2 : w1.frozen? ⟨w.heap.size + 1, 2, none⟩ = false := frozen_of_row w1 _ 2 _ _ hR
  have q3 : w1.frozen? ⟨w.heap.size + 1, 3, none⟩ = false := frozen_of_row w1 _ 3 _ _ hR
  clear hR
  have t1 : ¬ ((Wn : Int) + 2 * -(N : Int) < 1) := by omega
  have t2 : ¬ ((Hn : Int) + 2 * -(N : Int) < 1) := by omega
  go_wp2
  have B2 := B1.out
  exact bodyPost_ret (v := .tuple #[reg (X - -(N : Int)) (Y - -(N : Int)) (Wn + 2 * -(N : Int)) (Hn + 2 * -(N : Int)), .int .i64 0]) (by simp [results, Try.results88, go_sem, *]) rfl ⟨⟨_, _, _, _, rfl⟩, (by have hszz := B2.size; repeat (first | with_reducible exact B2 | with_reducible apply Below.drew | with_reducible refine below_drewN ?_ _ | (with_reducible refine Below.setCell ?_ ?_ _; rotate_left; focus (first | omega | (simp <;> omega))) | (with_reducible refine Below.alloc ?_ ?_ _; rotate_left; focus (first | omega | (simp <;> omega)))))⟩

theorem refinner_no (X Y : Int) (Wn Hn : Nat) (a : Option Addr) (n c N : Nat) (w : World) (hw : 1 ≤ Wn) (hw2 : Wn ≤ 512) (hh : 1 ≤ Hn) (hh2 : Hn ≤ 512) (hN : N ≤ 64) (hx0 : -4000000 ≤ X) (hx1 : X ≤ 4000000) (hy0 : -4000000 ≤ Y) (hy1 : Y ≤ 4000000) (h : Wn < 1 + 2 * N ∨ Hn < 1 + 2 * N) :
    Calls Try.prog 88 #[fldV X Y Wn Hn a n c, .int .i64 N] w fun e w' => e = .returned (.tuple #[reg 0 0 0 0, .int .i64 10]) ∧ Below w.heap.size w w' := by
  have K := Lib.hid (fun w' => grown_any X Y Wn Hn (-(N : Int)) w' (by omega) (by omega) (by omega) (by omega) (by omega) (by omega) (by omega) (by omega) (by omega) (by omega))
  have hB : Below w.heap.size w ((w.alloc (.cells #[.int .i64 X, .int .i64 Y, .int .i64 Wn, .int .i64 Hn, .slice a n c] /-T-/26)).alloc (.cells #[.int .i64 0, .int .i64 0, .int .i64 0, .int .i64 0] /-T-/23)) := (by repeat (first | with_reducible exact Below.refl _ _ | with_reducible apply Below.drew | with_reducible refine below_drewN ?_ _ | (with_reducible refine Below.setCell ?_ ?_ _; rotate_left; focus (first | omega | (simp <;> omega))) | (with_reducible refine Below.alloc ?_ ?_ _; rotate_left; focus (first | omega | (simp <;> omega)))))
  have HB := Lib.hid hB
  clear hB
  have HH := Lib.hid h
  clear h
  go_enter Try.func88, Try.ntmps88
  go_wp2_with fail
  refine (K.out _).mono ?_
  rintro e w1 ⟨rfl, b1⟩
  have hR : Reg w1 (w.heap.size + 1) 0 0 0 0 := by
    have := (Reg.new (w.alloc (.cells #[.int .i64 X, .int .i64 Y, .int .i64 Wn, .int .i64 Hn, .slice a n c] /-T-/26)) 0 0 0 0)
    have := this.below b1 (by simp)
    simpa using this
  have B1 := Lib.hid (HB.out.trans (b1.mono HB.out.size))
  clear b1
  have lz := hR.lt
  obtain ⟨d0, d1, d2, d3⟩ := hR.cells
  have q0 : w1.frozen? ⟨w.heap.size + 1, 0, none⟩ = false := frozen_of_row w1 _ 0 _ _ hR
  have q1 : w1.frozen? ⟨w.heap.size + 1, 1, none⟩ = false := frozen_of_row w1 _ 1 _ _ hR
  have q2 : w1.frozen? ⟨w.heap.size + 1, 2, none⟩ = false := frozen_of_row w1 _ 2 _ _ hR
  have q3 : w1.frozen? ⟨w.heap.size + 1, 3, none⟩ = false := frozen_of_row w1 _ 3 _ _ hR
  clear hR
  by_cases h1 : (Wn : Int) + 2 * -(N : Int) < 1
  · go_wp2
    have B2 := B1.out
    exact bodyPost_ret (v := .tuple #[reg 0 0 0 0, .int .i64 10]) (by simp [results, Try.results88, go_sem, *]) rfl ⟨rfl, (by have hszz := B2.size; repeat (first | with_reducible exact B2 | with_reducible apply Below.drew | with_reducible refine below_drewN ?_ _ | (with_reducible refine Below.setCell ?_ ?_ _; rotate_left; focus (first | omega | (simp <;> omega))) | (with_reducible refine Below.alloc ?_ ?_ _; rotate_left; focus (first | omega | (simp <;> omega)))))⟩
  · have h2 : (Hn : Int) + 2 * -(N : Int) < 1 := by have := HH.out; omega
    go_wp2
    have B2 := B1.out
    exact bodyPost_ret (v := .tuple #[reg 0 0 0 0, .int .i64 10]) (by simp [results, Try.results88, go_sem, *]) rfl ⟨rfl, (by have hszz := B2.size; repeat (first | with_reducible exact B2 | with_reducible apply Below.drew | with_reducible refine below_drewN ?_ _ | (with_reducible refine Below.setCell ?_ ?_ _; rotate_left; focus (first | omega | (simp <;> omega))) | (with_reducible refine Below.alloc ?_ ?_ _; rotate_left; focus (first | omega | (simp <;> omega)))))⟩

end Go.Proofs.Ytfmbekdfigbfiaa

namespace Go.Proofs.Ytfmbekdfigbfiaa
open Go.Shelf
open Go.ChangeShapes Go.WideShapes Go.ChangeAt Go.RowKit
open Ieee.Format (fin finE htE allFin allHt all_true all_false mulF subF addF Ht)
set_option linter.unusedVariables false

/-- the reference's rounds: 'f' -/
structure RepInv (w wr : World) (X Y W H : Int) (m : List Nat) (b o c : Nat) : Prop where
  fo : Fld wr w.heap.size X Y W H (.slice (some ⟨b, o, none⟩) m.length c)
  rz : Fld wr (w.heap.size + 1) 0 0 0 0 (.slice none 0 0)
  row : SRow wr (some ⟨b, o, none⟩) m
  below : Below w.heap.size w wr
theorem RepInv.upto {w wr w2 : World} {X Y W H : Int} {m : List Nat} {b o c : Nat} (h : RepInv w wr X Y W H m b o c) (hb : Below wr.heap.size wr w2) : RepInv w w2 X Y W H m b o c :=
  ⟨h.fo.below hb h.fo.lt, h.rz.below hb h.rz.lt, h.row.below hb, h.below.trans (hb.mono h.below.size)⟩
theorem RepInv.next {w wr : World} {X Y W H : Int} {m : List Nat} {b o c : Nat} (h : RepInv w wr X Y W H m b o c) {X' Y' W' H' : Int} {m' : List Nat} {B g cap : Nat} (ho : OwnF wr B g cap m') (hg : g ≠ w.heap.size) (hm : m'.length ≤ 1099511627776) :
    ∀ W6, W6 = ((((wr.setCell ⟨w.heap.size, 0, none⟩ (.int .i64 X')).setCell ⟨w.heap.size, 1, none⟩ (.int .i64 Y')).setCell ⟨w.heap.size, 2, none⟩ (.int .i64 W')).setCell ⟨w.heap.size, 3, none⟩ (.int .i64 H')).setCell ⟨w.heap.size, 4, none⟩ (.slice (some ⟨g, 0, none⟩) m'.length cap) →
    RepInv w W6 X' Y' W' H' m' g 0 cap := by
  intro W6 e
  obtain ⟨f, bb, oo, ff, z⟩ := fld_store wr w.heap.size X Y W H _ X' Y' W' H' (.slice (some ⟨g, 0, none⟩) m'.length cap) h.fo W6 e
  exact ⟨f, ff _ _ _ _ _ _ h.rz (by omega), (oo _ _ _ _ ho hg).row hm, h.below.trans bb⟩

/-- the reference's rounds: 'next' lies in the block that came first -/
structure NextInv (wo wr : World) (X Y W H : Int) (v : Value) (m : List Nat) : Prop where
  fo : Fld wr wo.heap.size X Y W H v
  own : wr.ownsRow (wo.heap.size + 1) /-T-/27 1 v m.length (fls m)
  wf : ∀ x ∈ m, x < 4294967296
  below : Below wo.heap.size wo wr
theorem NextInv.call {wo wr w2 : World} {X Y W H : Int} {v : Value} {m : List Nat} (h : NextInv wo wr X Y W H v m) (hb : Below wr.drew.heap.size wr.drew w2) : NextInv wo w2 X Y W H v m :=
  ⟨h.fo.drew.below hb h.fo.lt, ownsRow_below (w := wr.drew) h.own hb (fun k hk => (h.own.lt k hk).2), h.wf, (h.below.drew).trans (hb.mono (show wo.heap.size ≤ wr.heap.size from h.below.size))⟩
theorem NextInv.mid {wo w2 w3 : World} {X Y W H : Int} {v : Value} {m : List Nat} {o : Obj} (h : NextInv wo w2 X Y W H v m) (hg : (w2.alloc o).grownBy w3 v.ownBlock) :
    Fld w3 wo.heap.size X Y W H v ∧ Below wo.heap.size wo w3 := by
  have hne : ∀ k, k < wo.heap.size + 1 → some k ≠ v.ownBlock := fun k hk e => by
    have := (h.own.lt k e.symm).1; omega
  refine ⟨(h.fo.alloc o).grown hg (hne _ (by omega)), ?_⟩
  have hz := h.below.size
  refine (h.below.alloc hz o).grown hg (by simp; omega) (fun k hk => ?_)
  have := (h.own.lt k hk).1
  omega
theorem NextInv.app {wo w2 w3 : World} {X Y W H : Int} {v : Value} {m : List Nat} {o : Obj} (h : NextInv wo w2 X Y W H v m) {y g cap : Nat} (hy : y < 4294967296)
    (hown : w3.ownsRow (wo.heap.size + 1) /-T-/27 1 (.slice (some ⟨g, 0, none⟩) (m.length + 1) cap) (m.length + 1) (fls m ++ [.float .f32 y])) (hg : (w2.alloc o).grownBy w3 v.ownBlock) :
    NextInv wo (w3.setCell ⟨wo.heap.size, 4, none⟩ (.slice (some ⟨g, 0, none⟩) (m.length + 1) cap)) X Y W H (.slice (some ⟨g, 0, none⟩) (m.length + 1) cap) (m ++ [y]) := by
  obtain ⟨c, d⟩ := h.mid hg
  have hgl := (hown.lt g rfl).1
  refine ⟨c.set4 _, ?_, ?_, d.setCell (by show wo.heap.size ≤ wo.heap.size; omega) _⟩
  · have e : fls (m ++ [y]) = fls m ++ [.float .f32 y] := by unfold fls; simp
    have e2 : (m ++ [y]).length = m.length + 1 := by simp
    rw [e, e2]
    refine ⟨hown.1, ?_⟩
    rcases hown.2 with h2 | ⟨g', cap', cur, hv, hB, hh, r⟩
    · exact .inl h2
    · have : g' = g := by simp at hv; exact hv.1.symm
      subst this
      exact .inr ⟨g', cap', cur, hv, hB, (Below.heap_setCell w3 _ _ g' (by show g' ≠ wo.heap.size; omega)).trans hh, r⟩
  · intro x hx
    rcases List.mem_append.1 hx with hx | hx
    · exact h.wf x hx
    · have : x = y := by simpa using hx
      rw [this]; exact hy

end Go.Proofs.Ytfmbekdfigbfiaa
