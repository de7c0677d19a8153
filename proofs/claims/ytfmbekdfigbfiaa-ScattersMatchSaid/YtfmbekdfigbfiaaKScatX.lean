import Derived.Test.YtfmbekdfigbfiaaKScatV
import Derived.Test.YtfmbekdfigbfiaaKScatU
import Derived.Deep.DeepCutAuto
import Derived.OwnWalk
import Derived.Lib.SliceRun
import Derived.Lib.LazyBuf
namespace Go.Proofs.Ytfmbekdfigbfiaa
open Go.ChangeShapes Go.WideShapes Go.ChangeAt Go.RowKit
open Ieee.Format (fin finE htE allFin allHt all_true all_false mulF subF addF Ht Bd divF rootF floorF easeF mixF)
set_option linter.unusedVariables false
open Wide

/-! ### Clone and DeleteFunc at places -/
theorem ptsR_cells {w : World} {g : Nat} {L : List (Int × Int)} (h : PtsR w g L) (j : Nat) (u : Value) (hj : (ptsV L)[j]? = some u) : w.cell? ⟨g, j, none⟩ = some u := by
  have hl : j < (ptsV L).length := (List.getElem?_eq_some_iff.1 hj).1
  have hz : (ptsV L).length = L.length * 2 := by
    clear h hj hl
    induction L with
    | nil => rfl
    | cons a L ih =>
      have e : ptsV (a :: L) = [.int .i64 a.1, .int .i64 a.2] ++ ptsV L := rfl
      rw [e, List.length_append, ih, List.length_cons]
      simp only [List.length_cons, List.length_nil]; omega
  have hi : j / 2 < L.length := by omega
  obtain ⟨g0, g1⟩ := ptsv_get L (j / 2) L[j / 2] (List.getElem?_eq_getElem hi)
  obtain ⟨c0, c1⟩ := h.2 (j / 2) L[j / 2] (List.getElem?_eq_getElem hi)
  rcases (show j % 2 = 0 ∨ j % 2 = 1 by omega) with hr | hr
  · have e : j / 2 * 2 = j := by omega
    rw [e] at g0 c0
    rw [hj] at g0
    rw [c0, g0]
  · have e : j / 2 * 2 + 1 = j := by omega
    rw [e] at g1 c1
    rw [hj] at g1
    rw [c1, g1]
theorem ptsv_one (L : List (Int × Int)) : ∀ u ∈ ptsV L, u.oneCell' = true := by
  intro u hu
  unfold ptsV at hu
  obtain ⟨p, _, hu⟩ := List.mem_flatMap.1 hu
  simp at hu
  rcases hu with rfl | rfl <;> rfl
theorem ptsv_len (L : List (Int × Int)) : (ptsV L).length = L.length * 2 := by
  induction L with
  | nil => rfl
  | cons a L ih =>
    have e : ptsV (a :: L) = [.int .i64 a.1, .int .i64 a.2] ++ ptsV L := rfl
    rw [e, List.length_append, ih, List.length_cons]
    simp only [List.length_cons, List.length_nil]; omega
set_option maxHeartbeats 4000000 in
theorem pts_clone (v : Value) (L : List (Int × Int)) (w : World) (hn : L.length ≤ 1000000) (h : PtsV w v L) :
    Calls Try.prog 52 #[v] w fun e w' => ∃ v', e = .returned v' ∧ w'.ownsRow w.heap.size 36 2 v' L.length (ptsV L) ∧ Below w.heap.size w w' := by
  obtain ⟨i0, hi0, hz0, hz1, hz2⟩ := info_parts Try.infoPt
  have q22 : ∀ (w : World) (a : Option Addr) (n c n' c' : Nat), (binOp .eql 95 (.slice a n c) (.slice none n' c')).run Try.prog w = .ok (.bool a.isNone) w := fun w a n c n' c' => Lib.run_eql_slice_nil w _ _ a n c n' c' Try.underlying95
  obtain ⟨p, k, rfl, _, h⟩ := h
  rcases h with ⟨rfl, rfl⟩ | ⟨g, rfl, h⟩
  · go_enter Try.func52, Try.ntmps52
    go_wp2
    go_ret
    exact ⟨_, rfl, World.ownsRow_nil _ _ _ _, (by repeat (first | with_reducible exact Below.refl _ _ | with_reducible apply Below.drew | with_reducible refine below_drewN ?_ _ | (with_reducible refine Below.setCell ?_ ?_ _; rotate_left; focus (first | omega | (simp <;> omega))) | (with_reducible refine Below.alloc ?_ ?_ _; rotate_left; focus (first | omega | (simp <;> omega)))))⟩
  · have HC := Lib.hid (ptsR_cells h)
    clear h
    go_enter Try.func52, Try.ntmps52
    go_wp2_with (at_builtin; refine wpList_append_own _ rfl _ _ 95 rfl w.heap.size 36 i0 (.agg #[.int .i64 0, .int .i64 0]) 2 16 Try.underlying95 hi0 hz0 hz1 hz2 rfl (by decide) _ _ _ rfl (World.ownsRow_made w #[] 0 (Nat.le_refl _) (Nat.zero_le _) (by simp)) ⟨g, 0, none⟩ L.length k (ptsV L) rfl ?qc1 ?qc2 ?qc3 ?qc4 ?qc5 ?qc6 ?_)
    case qc1 => exact ptsv_len L
    case qc2 =>
      intro j u hj
      rw [Addr.add_lit, Nat.zero_add]
      exact Lib.cell?_alloc_some _ (HC.out j u hj)
    case qc3 => exact ptsv_one L
    case qc4 => rw [Nat.zero_add]; unfold maxLen; omega
    case qc5 => rw [Nat.zero_add]; omega
    case qc6 => simp
    intro v' w1 hown hgrow hnil
    go_wp2
    go_ret
    refine ⟨v', rfl, by simpa using hown, ?_⟩
    exact ((Below.refl _ w).alloc (Nat.le_refl _) _).grown hgrow (by simp) (by intro k hk; simp [Value.ownBlock] at hk; omega)
/-- the struck ones: those that do not lie inside -/
theorem struck_any (X Y : Int) (P Q : Nat) (kb : Nat) (x y : Int) (w : World) (hr : Reg w kb X Y P Q) (hP : 1 ≤ P) (hP2 : P ≤ 32) (hQ : 1 ≤ Q) (hQ2 : Q ≤ 32) (hX : -4194304 ≤ X) (hX2 : X ≤ 4194304) (hY : -4194304 ≤ Y) (hY2 : Y ≤ 4194304) :
    Calls Try.prog 53 #[.agg #[.int .i64 x, .int .i64 y], .pointer (some ⟨kb, 0, none⟩)] w fun e w' => e = .returned (.bool (!insR X Y P Q (x, y))) ∧ Below w.heap.size w w' := by
  have KI := Lib.hid (fun w => refinside_pt X Y P Q x y w (by omega) (by omega) (by omega) (by omega) (by omega) (by omega) (by omega) (by omega))
  have hI : decide (inR X Y P Q x y) = insR X Y P Q (x, y) := rfl
  rw [hI] at KI
  generalize insR X Y P Q (x, y) = b at *
  have HR := Lib.hid (hr.alloc (.cells #[.int .i64 x, .int .i64 y] 36))
  obtain ⟨r0, r1, r2, r3⟩ := HR.out.cells
  have lr := HR.out.lt
  have HB : Hid (Below w.heap.size w (w.alloc (.cells #[.int .i64 x, .int .i64 y] 36))) := Lib.hid (by repeat (first | with_reducible exact Below.refl _ _ | with_reducible apply Below.drew | with_reducible refine below_drewN ?_ _ | (with_reducible refine Below.setCell ?_ ?_ _; rotate_left; focus (first | omega | (simp <;> omega))) | (with_reducible refine Below.alloc ?_ ?_ _; rotate_left; focus (first | omega | (simp <;> omega)))))
  clear hr hI
  go_enter Try.func53, Try.ntmps53
  go_wp2_with fail
  refine (KI.out _).mono ?_
  rintro e w1 ⟨rfl, b1⟩
  have HB1 := Lib.hid (HB.out.trans (b1.mono HB.out.size))
  clear b1 HB HR r0 r1 r2 r3 lr
  go_wp2_with fail
  go_ret
  exact ⟨rfl, HB1.out⟩
end Go.Proofs.Ytfmbekdfigbfiaa
