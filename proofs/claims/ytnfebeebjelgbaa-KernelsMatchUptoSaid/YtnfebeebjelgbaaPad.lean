import Derived.Test.YtnfebeebjelgbaaBlurFn
namespace Go.Proofs.Ytnfebeebjelgbaa
open Go.ChangeShapes Go.WideShapes Go.ChangeAt Go.RowKit
open Ieee.Format (fin finE htE allFin allHt all_true all_false mulF subF addF Ht Bd divF rootF floorF easeF mixF)
set_option linter.unusedVariables false

set_option maxRecDepth 100000 in
set_option maxHeartbeats 1000000 in
theorem fsmaller_yes (X Y W H n : Int) (w : World) (hn : 0 ≤ n) (hn2 : n ≤ 64) (hx : -8388608 ≤ X) (hx2 : X ≤ 8388608) (hy : -8388608 ≤ Y) (hy2 : Y ≤ 8388608) (hw : W ≤ 512) (hh : H ≤ 512) (h1 : 1 ≤ W - 2 * n) (h2 : 1 ≤ H - 2 * n) :
    Calls Try.prog 132 #[reg X Y W H, .int .i64 n] w fun e w' => e = .returned (.tuple #[reg (X + n) (Y + n) (W - 2 * n) (H - 2 * n), .bool true]) ∧ Below w.heap.size w w' := by
  have t1 : 2 * n < W := by omega
  have t2 : 2 * n < H := by omega
  go_enter Try.func132, Try.ntmps132
  go_wp2_with fail
  go_region
  all_goals
    first
      | exact bodyPost_ret (v := .tuple #[reg (X + n) (Y + n) (W - 2 * n) (H - 2 * n), .bool true]) (by simp [results, Try.results132, go_sem, *]) rfl ⟨rfl, (by repeat (first | with_reducible exact Below.refl _ _ | with_reducible apply Below.drew | with_reducible refine below_drewN ?_ _ | (with_reducible refine Below.setCell ?_ ?_ _; rotate_left; focus (first | omega | (simp <;> omega))) | (with_reducible refine Below.alloc ?_ ?_ _; rotate_left; focus (first | omega | (simp <;> omega)))))⟩
      | (go_wp2_with fail
         exact bodyPost_ret (v := .tuple #[reg (X + n) (Y + n) (W - 2 * n) (H - 2 * n), .bool true]) (by simp [results, Try.results132, go_sem, *]) rfl ⟨rfl, (by repeat (first | with_reducible exact Below.refl _ _ | with_reducible apply Below.drew | with_reducible refine below_drewN ?_ _ | (with_reducible refine Below.setCell ?_ ?_ _; rotate_left; focus (first | omega | (simp <;> omega))) | (with_reducible refine Below.alloc ?_ ?_ _; rotate_left; focus (first | omega | (simp <;> omega)))))⟩)
set_option maxRecDepth 100000 in
set_option maxHeartbeats 1000000 in
theorem fsmaller_no (X Y W H n : Int) (w : World) (hn : 0 ≤ n) (hn2 : n ≤ 64) (hx : -8388608 ≤ X) (hx2 : X ≤ 8388608) (hy : -8388608 ≤ Y) (hy2 : Y ≤ 8388608) (hw0 : 1 ≤ W) (hh0 : 1 ≤ H) (hw : W ≤ 512) (hh : H ≤ 512) (h1 : W - 2 * n < 1 ∨ H - 2 * n < 1) :
    Calls Try.prog 132 #[reg X Y W H, .int .i64 n] w fun e w' => e = .returned (.tuple #[reg (X + n) (Y + n) (W - 2 * n) (H - 2 * n), .bool false]) ∧ Below w.heap.size w w' := by
  by_cases h3 : 2 * n < W
  · have h4 : ¬ 2 * n < H := by omega
    go_enter Try.func132, Try.ntmps132
    go_wp2_with fail
    go_region
    all_goals
      first
        | exact bodyPost_ret (v := .tuple #[reg (X + n) (Y + n) (W - 2 * n) (H - 2 * n), .bool false]) (by simp [results, Try.results132, go_sem, *]) rfl ⟨rfl, (by repeat (first | with_reducible exact Below.refl _ _ | with_reducible apply Below.drew | with_reducible refine below_drewN ?_ _ | (with_reducible refine Below.setCell ?_ ?_ _; rotate_left; focus (first | omega | (simp <;> omega))) | (with_reducible refine Below.alloc ?_ ?_ _; rotate_left; focus (first | omega | (simp <;> omega)))))⟩
        | (go_wp2_with fail
           exact bodyPost_ret (v := .tuple #[reg (X + n) (Y + n) (W - 2 * n) (H - 2 * n), .bool false]) (by simp [results, Try.results132, go_sem, *]) rfl ⟨rfl, (by repeat (first | with_reducible exact Below.refl _ _ | with_reducible apply Below.drew | with_reducible refine below_drewN ?_ _ | (with_reducible refine Below.setCell ?_ ?_ _; rotate_left; focus (first | omega | (simp <;> omega))) | (with_reducible refine Below.alloc ?_ ?_ _; rotate_left; focus (first | omega | (simp <;> omega)))))⟩)
  · have h5 : decide (2 * n < W) = false := by simpa using h3
    have h6 : W ≤ 2 * n := by omega
    go_enter Try.func132, Try.ntmps132
    go_wp2_with fail
    go_region
    all_goals
      first
        | exact bodyPost_ret (v := .tuple #[reg (X + n) (Y + n) (W - 2 * n) (H - 2 * n), .bool false]) (by simp [results, Try.results132, go_sem, *]) rfl ⟨rfl, (by repeat (first | with_reducible exact Below.refl _ _ | with_reducible apply Below.drew | with_reducible refine below_drewN ?_ _ | (with_reducible refine Below.setCell ?_ ?_ _; rotate_left; focus (first | omega | (simp <;> omega))) | (with_reducible refine Below.alloc ?_ ?_ _; rotate_left; focus (first | omega | (simp <;> omega)))))⟩
        | (go_wp2_with fail
           exact bodyPost_ret (v := .tuple #[reg (X + n) (Y + n) (W - 2 * n) (H - 2 * n), .bool false]) (by simp [results, Try.results132, go_sem, *]) rfl ⟨rfl, (by repeat (first | with_reducible exact Below.refl _ _ | with_reducible apply Below.drew | with_reducible refine below_drewN ?_ _ | (with_reducible refine Below.setCell ?_ ?_ _; rotate_left; focus (first | omega | (simp <;> omega))) | (with_reducible refine Below.alloc ?_ ?_ _; rotate_left; focus (first | omega | (simp <;> omega)))))⟩)

/-- the cells that are N cells from the edge -/
def padL (ψ : Int → Int → Nat) (X Y : Int) (Wn Hn N : Nat) : List Nat := madeL ψ (X + N) (Y + N) (Wn - 2 * N) ((Hn - 2 * N) * (Wn - 2 * N))
theorem padL_small (ψ : Int → Int → Nat) {X Y : Int} {Wn Hn : Nat} (N : Nat) {l : List Nat} (hr : Right X Y Wn Hn l) : (padL ψ X Y Wn Hn N).length ≤ 1099511627776 := by
  unfold padL
  rw [madeL_len]
  have := hr.h2; have := hr.w2
  have := Nat.mul_le_mul (show Hn - 2 * N ≤ 512 by omega) (show Wn - 2 * N ≤ 512 by omega)
  omega
theorem make_pad (gn : Nat) (caps : Array Value) (ψ : Int → Int → Nat) (X Y : Int) (Wn Hn N : Nat) (l : List Nat) (w : World) (hr : Right X Y Wn Hn l) (h3 : 2 * N + 1 ≤ Wn) (h4 : 2 * N + 1 ≤ Hn)
    (eg : ∀ args w, (callFunc gn args).run Try.prog w = .ok (.enter gn args) w) (hlt : ∀ x y, ψ x y < 4294967296)
    (hf : ∀ x y : Int, X + N ≤ x → x + N < X + Wn → Y + N ≤ y → y + N < Y + Hn → ∀ W', Below w.heap.size w W' → Calls Try.prog gn (#[.int .i64 x, .int .i64 y] ++ caps) W' fun e w' => e = .returned (.float .f32 (ψ x y)) ∧ Below W'.heap.size W' w') :
    Calls Try.prog 94 #[reg (X + N) (Y + N) ((Wn - 2 * N : Nat) : Int) ((Hn - 2 * N : Nat) : Int), .func (.func gn) #[] caps] w fun e w' => MakeP (X + N) (Y + N) ((Wn - 2 * N : Nat) : Int) ((Hn - 2 * N : Nat) : Int) (padL ψ X Y Wn Hn N) w e w' := by
  have g1 := hr.w2; have g2 := hr.h2; have g3 := hr.x1; have g4 := hr.x2; have g5 := hr.y1; have g6 := hr.y2
  refine make_any gn caps ψ (X + N) (Y + N) (Wn - 2 * N) (Hn - 2 * N) w (by omega) (by omega) (by omega) (by omega) (by omega) (by omega) (by omega) (by omega) eg (fun x y _ _ _ _ => hlt _ _) ?_
  intro x y h1 h2 h5 h6 W' hb
  exact hf x y h1 (by omega) h5 (by omega) W' hb
theorem made_pad (gn : Nat) (caps : Array Value) (ψ : Int → Int → Nat) (X Y : Int) (Wn Hn N : Nat) (l : List Nat) (w : World) (hr : Right X Y Wn Hn l) (h3 : 2 * N + 1 ≤ Wn) (h4 : 2 * N + 1 ≤ Hn)
    (eg : ∀ args w, (callFunc gn args).run Try.prog w = .ok (.enter gn args) w) (hlt : ∀ x y, ψ x y < 4294967296)
    (hf : ∀ x y : Int, X + N ≤ x → x + N < X + Wn → Y + N ≤ y → y + N < Y + Hn → ∀ W', Below w.heap.size w W' → Calls Try.prog gn (#[.int .i64 x, .int .i64 y] ++ caps) W' fun e w' => e = .returned (.float .f32 (ψ x y)) ∧ Below W'.heap.size W' w') :
    Calls Try.prog 105 #[reg (X + N) (Y + N) ((Wn - 2 * N : Nat) : Int) ((Hn - 2 * N : Nat) : Int), .func (.func gn) #[] caps] w fun e w' => OpP (resC (padL ψ X Y Wn Hn N)) (X + N) (Y + N) ((Wn - 2 * N : Nat) : Int) ((Hn - 2 * N : Nat) : Int) (padL ψ X Y Wn Hn N) w e w' := by
  have g1 := hr.w2; have g2 := hr.h2; have g3 := hr.x1; have g4 := hr.x2; have g5 := hr.y1; have g6 := hr.y2
  refine (made_any gn caps ψ (X + N) (Y + N) (Wn - 2 * N) (Hn - 2 * N) w (by omega) (by omega) (by omega) (by omega) (by omega) (by omega) (by omega) (by omega) eg (fun x y _ _ _ _ => hlt _ _) ?_).mono fun e w' h => h.res.op
  intro x y h1 h2 h5 h6 W' hb
  exact hf x y h1 (by omega) h5 (by omega) W' hb

/-- the cell at the corner of the square around a cell -/
def corner (X Y : Int) (Wn N : Nat) (x y : Int) : Nat := ((y - (Y + N)) * Wn + (x - (X + N))).toNat
theorem corner_eq {X Y : Int} {Wn N : Nat} {x y : Int} (hx : X + N ≤ x) (hy : Y + N ≤ y) : ((corner X Y Wn N x y : Nat) : Int) = (y - (Y + N)) * Wn + (x - (X + N)) := by
  have a := Int.mul_nonneg (show 0 ≤ y - (Y + N) by omega) (show (0 : Int) ≤ Wn by omega)
  unfold corner; omega
def blurV (l : List Nat) (X Y : Int) (Wn N : Nat) (x y : Int) : Nat := blurF (fun i => l.getD (patch Wn (corner X Y Wn N x y) (2 * N + 1) i) 0) (2 * N + 1)
def kerV (K l : List Nat) (X Y : Int) (Wn N : Nat) (x y : Int) : Nat := kerF (fun i => K.getD i 0) (fun i => l.getD (patch Wn (corner X Y Wn N x y) (2 * N + 1) i) 0) ((2 * N + 1) * (2 * N + 1) - 1)
end Go.Proofs.Ytnfebeebjelgbaa
