import Derived.Test.YtkmcinibaffpmaaLossM
import Derived.BigQuiet
namespace Go.Proofs.Ytkmcinibaffpmaa
open Go.ChangeShapes Go.WideShapes Go.ChangeAt Go.RowKit
open Ieee.Format (fin finE htE allFin allHt all_true all_false mulF subF addF Ht Bd divF rootF floorF easeF mixF)
set_option linter.unusedVariables false

/-! ### the greatest magnitude -/
def maxF (x y : Nat) : Nat := match Ieee.single.order x y with
  | some .lt => y
  | some .gt => x
  | _ => if (FloatKind.f32.decode x).neg then y else x
theorem run_max_singles (w : World) (ts : Array TypeId) (t : TypeId) {x y : Nat} (fx : fin Ieee.single x) (fy : fin Ieee.single y) :
    (Builtin.max_ ts t #[.float .f32 x, .float .f32 y]).run Try.prog w = .ok (.float .f32 (maxF x y)) w := by
  have h := Ieee.single.order_fin fx fy
  have e : FloatKind.f32.format.order x y = Ieee.single.order x y := rfl
  have hm : ∀ o, Ieee.single.order x y = some o → (Builtin.max2 (.float .f32 x) (.float .f32 y)).run Try.prog w = .ok (.float .f32 (maxF x y)) w := by
    intro o ho
    unfold maxF
    rw [ho]
    unfold Builtin.max2
    simp only [e, ho]
    cases o <;> rfl
  have h2 : (Builtin.max_ ts t #[.float .f32 x, .float .f32 y]) = ((Builtin.max2 (.float .f32 x) (.float .f32 y)) >>= fun s => pure s) := rfl
  rw [h2, Sem.run_bind, hm _ h]
  rfl
theorem maxF_spec {x y : Nat} (fx : fin Ieee.single x) (fy : fin Ieee.single y) : (maxF x y = x ∨ maxF x y = y) ∧ Ieee.single.V x ≤ Ieee.single.V (maxF x y) ∧ Ieee.single.V y ≤ Ieee.single.V (maxF x y) := by
  unfold maxF
  rw [Ieee.single.order_fin fx fy]
  by_cases h1 : Ieee.single.V x < Ieee.single.V y
  · rw [if_pos h1]; exact ⟨.inr rfl, by simp only; grind, by simp only; grind⟩
  · rw [if_neg h1]
    by_cases h2 : Ieee.single.V x = Ieee.single.V y
    · rw [if_pos h2]
      simp only
      split
      · exact ⟨.inr rfl, by grind, by grind⟩
      · exact ⟨.inl rfl, by grind, by grind⟩
    · rw [if_neg h2]
      exact ⟨.inl rfl, by simp only; grind, by simp only; grind⟩
def mxF (l : List Nat) : Nat := l.foldl (fun g v => maxF g (mag v)) 0
theorem mxF_succ (l : List Nat) {k : Nat} (h : k < l.length) : mxF (l.take (k + 1)) = maxF (mxF (l.take k)) (mag (l.getD k 0)) := by
  unfold mxF
  rw [List.take_add_one, List.getElem?_eq_getElem h, List.foldl_append, List.getD_eq_getElem?_getD, List.getElem?_eq_getElem h]
  rfl
theorem mxF_ok (l : List Nat) (hl : ∀ x ∈ l, Ht x) : fin Ieee.single (mxF l) ∧ Ieee.single.sgn (mxF l) = false ∧ mxF l < 4294967296 ∧ Ieee.single.V (mxF l) ≤ Ieee.P2 20 ∧ ∀ x ∈ l, Ieee.single.V (mag x) ≤ Ieee.single.V (mxF l) := by
  suffices H : ∀ k, k ≤ l.length → fin Ieee.single (mxF (l.take k)) ∧ Ieee.single.sgn (mxF (l.take k)) = false ∧ mxF (l.take k) < 4294967296 ∧ Ieee.single.V (mxF (l.take k)) ≤ Ieee.P2 20 ∧ ∀ x ∈ l.take k, Ieee.single.V (mag x) ≤ Ieee.single.V (mxF (l.take k)) by
    have := H l.length (Nat.le_refl _); rwa [List.take_length] at this
  intro k
  induction k with
  | zero =>
    intro _
    refine ⟨Ieee.Format.const_0.1, Ieee.Format.const_0.2.2, (by decide : (0 : Nat) < 4294967296), ?_, fun x hx => by simp at hx⟩
    show Ieee.single.V 0 ≤ _
    rw [Ieee.Format.const_0.2.1]; have := Ieee.P2_pos 20; grind
  | succ k ih =>
    intro hk
    obtain ⟨a, b, c, d, e⟩ := ih (by omega)
    rw [mxF_succ l (by omega)]
    have hm : l.getD k 0 ∈ l := by rw [List.getD_eq_getElem?_getD, List.getElem?_eq_getElem (by omega)]; exact List.getElem_mem _
    have ht := (hl _ hm)
    have htk : l.take (k + 1) = l.take k ++ [l.getD k 0] := by rw [List.take_add_one, List.getElem?_eq_getElem (by omega), List.getD_eq_getElem?_getD, List.getElem?_eq_getElem (by omega)]; rfl
    rw [htk]
    generalize l.getD k 0 = y at *
    have fy := mag_fin ht.fin
    have hv : Ieee.single.V (mag y) ≤ Ieee.P2 20 := by have t1 := ht.V; rcases (mag_V y).2 with t | t <;> rw [t] <;> grind
    obtain ⟨s1, s2, s3⟩ := maxF_spec a fy
    have hs : ∀ x ∈ l.take k ++ [y], Ieee.single.V (mag x) ≤ Ieee.single.V (maxF (mxF (l.take k)) (mag y)) := by
      intro x hx
      rcases List.mem_append.1 hx with hx | hx
      · have := e x hx; grind
      · rw [List.mem_singleton.1 hx]; exact s3
    refine ⟨?_, ?_, ?_, ?_, hs⟩
    · rcases s1 with s | s <;> rw [s]
      · exact a
      · exact fy
    · rcases s1 with s | s <;> rw [s]
      · exact b
      · exact (mag_parts y).2
    · rcases s1 with s | s <;> rw [s]
      · exact c
      · exact mag_lt y
    · rcases s1 with s | s <;> rw [s]
      · exact d
      · exact hv
theorem mxF_le {X Y : Int} {W H : Nat} {l : List Nat} (hl : ∀ x ∈ l, Ht x) : Lv.le ⟨X, Y, W, H, l⟩ (mxF l) := by
  intro x hx
  have h1 := (mxF_ok l hl).2.2.2.2 x hx
  obtain ⟨h2, h3⟩ := mag_V x
  refine ⟨(hl x hx).fin, ?_, ?_⟩ <;> rcases h3 with h3 | h3 <;> grind

set_option maxHeartbeats 1000000 in
/-- slices.Equal on two slices that hold the same finite singles -/
theorem fls_equal (a a' : Option Addr) (k k' : Nat) (m : List Nat) (w : World) (h : SRow w a m) (h' : SRow w a' m) (hf : ∀ x ∈ m, fin Ieee.single x) (hne : m ≠ []) :
    Calls Try.prog 26 #[.slice a m.length k, .slice a' m.length k'] w fun e w' => e = .returned (.bool true) ∧ Below w.heap.size w w' := by
  obtain ⟨hm, h1⟩ := h
  obtain ⟨_, h2⟩ := h'
  have hm := hm.1
  rcases h1 with h1 | ⟨b, o, rfl, h1⟩
  · exact absurd h1 hne
  · rcases h2 with h2 | ⟨b', o', rfl, h2⟩
    · exact absurd h2 hne
    · have H1 := Lib.hid h1
      have H2 := Lib.hid h2
      have HF := Lib.hid (fun j (hj : j < m.length) => show (FloatKind.f32.format.order (m.getD j 0) (m.getD j 0) != some .eq) = false from by
        have : fin Ieee.single (m.getD j 0) := by rw [List.getD_eq_getElem?_getD, List.getElem?_eq_getElem hj]; exact hf _ (List.getElem_mem hj)
        have h := (Ieee.single.order_eq this this).trans (decide_eq_true rfl)
        unfold bne
        rw [show FloatKind.f32.format.order (m.getD j 0) (m.getD j 0) = Ieee.single.order (m.getD j 0) (m.getD j 0) from rfl, h]; rfl)
      clear h1 h2 hf hne
      go_enter Try.func26, Try.ntmps26
      go_wp2
      go_loopw [5, 13, 25] (fun _ i _ wr => ∃ j : Nat, j ≤ m.length ∧ i = .int .i64 j ∧ Below w.heap.size w wr) (fun _ i _ _ => m.length - (intOf i).toNat)
      case atStart => exact ⟨0, by omega, rfl, (by repeat (first | with_reducible exact Below.refl _ _ | with_reducible apply Below.drew | with_reducible refine below_drewN ?_ _ | (with_reducible refine Below.setCell ?_ ?_ _; rotate_left; focus (first | omega | (simp <;> omega))) | (with_reducible refine Below.alloc ?_ ?_ _; rotate_left; focus (first | omega | (simp <;> omega)))))⟩
      case round =>
        obtain ⟨j, hj, rfl, hb⟩ := hrel
        have HB := Lib.hid hb
        by_cases hlt : j < m.length
        · have e1 : wr.cell? ⟨b, o + j, none⟩ = some (.float .f32 (m.getD j 0)) := by rw [hb.cell (World.block_lt_of_cell? w _ (H1.out j hlt))]; exact H1.out j hlt
          have e2 : wr.cell? ⟨b', o' + j, none⟩ = some (.float .f32 (m.getD j 0)) := by rw [hb.cell (World.block_lt_of_cell? w _ (H2.out j hlt))]; exact H2.out j hlt
          have e3 := HF.out j hlt
          clear hb
          generalize m.getD j 0 = x at *
          go_wp2_with fail
          go_quiet (fail)
          go_wp2
          go_roundw
          case rel => exact ⟨j + 1, by omega, by go_num, by have h := HB.out; exact (by have hszz := h.size; repeat (first | with_reducible exact h | with_reducible apply Below.drew | with_reducible refine below_drewN ?_ _ | (with_reducible refine Below.setCell ?_ ?_ _; rotate_left; focus (first | omega | (simp <;> omega))) | (with_reducible refine Below.alloc ?_ ?_ _; rotate_left; focus (first | omega | (simp <;> omega)))))⟩
          case measure => simp [intOf]; omega
        · clear hb
          go_wp2
          go_ret
          exact ⟨rfl, by have h := HB.out; exact (by have hszz := h.size; repeat (first | with_reducible exact h | with_reducible apply Below.drew | with_reducible refine below_drewN ?_ _ | (with_reducible refine Below.setCell ?_ ?_ _; rotate_left; focus (first | omega | (simp <;> omega))) | (with_reducible refine Below.alloc ?_ ?_ _; rotate_left; focus (first | omega | (simp <;> omega)))))⟩
end Go.Proofs.Ytkmcinibaffpmaa
