import Derived.Test.YtfmbekdfigbfiaaKScatX
import Derived.Deep.DeepCutAuto
import Derived.OwnWalk
import Derived.Lib.SliceRun
import Derived.Lib.LazyBuf
namespace Go.Proofs.Ytfmbekdfigbfiaa
open Go.ChangeShapes Go.WideShapes Go.ChangeAt Go.RowKit
open Ieee.Format (fin finE htE allFin allHt all_true all_false mulF subF addF Ht Bd divF rootF floorF easeF mixF)
set_option linter.unusedVariables false
open Wide

/-! ### IndexFunc and DeleteFunc at places -/
def outF (kb : Nat) : Value := .func (.func 53) #[] #[.pointer (some ⟨kb, 0, none⟩)]
set_option maxHeartbeats 4000000 in
theorem pts_index (p : Option Addr) (k g : Nat) (L : List (Int × Int)) (X Y : Int) (P Q : Nat) (kb : Nat) (w : World) (hn : L.length ≤ 1000000) (hp : L ≠ [] → p = some ⟨g, 0, none⟩ ∧ PtsR w g L) (hr : Reg w kb X Y P Q) (hP : 1 ≤ P) (hP2 : P ≤ 32) (hQ : 1 ≤ Q) (hQ2 : Q ≤ 32) (hX : -4194304 ≤ X) (hX2 : X ≤ 4194304) (hY : -4194304 ≤ Y) (hY2 : Y ≤ 4194304) :
    Calls Try.prog 129 #[.slice p L.length k, outF kb] w fun e w' =>
      ((∃ j : Nat, j < L.length ∧ e = .returned (.int .i64 (j : Int)) ∧ (∃ q, L[j]? = some q ∧ insR X Y P Q q = false) ∧ ∀ (m : Nat) (q : Int × Int), m < j → L[m]? = some q → insR X Y P Q q = true) ∨ (e = .returned (.int .i64 (-1)) ∧ ∀ (m : Nat) (q : Int × Int), L[m]? = some q → insR X Y P Q q = true)) ∧ Below w.heap.size w w' := by
  have eg : ∀ args w, (callFunc 53 args).run Try.prog w = .ok (.enter 53 args) w := enters_of Try.func53 (by kernel_rfl) rfl
  have KS := Lib.hid (fun x y w hr => struck_any X Y P Q kb x y w hr hP hP2 hQ hQ2 hX hX2 hY hY2)
  have HP := Lib.hid hp
  have HR := Lib.hid hr
  clear hp hr
  unfold outF
  go_enter Try.func129, Try.ntmps129
  go_upto_region 2 with fail
  go_loopw [5, 8] (fun _ i wr => ∃ j : Nat, j ≤ L.length ∧ i = .int .i64 j ∧ (∀ (m : Nat) (q : Int × Int), m < j → L[m]? = some q → insR X Y P Q q = true) ∧ Below w.heap.size w wr) (fun _ i _ => L.length - (intOf i).toNat)
  case atStart => exact ⟨0, by omega, rfl, fun m q h => absurd h (by omega), (by repeat (first | with_reducible exact Below.refl _ _ | with_reducible apply Below.drew | with_reducible refine below_drewN ?_ _ | (with_reducible refine Below.setCell ?_ ?_ _; rotate_left; focus (first | omega | (simp <;> omega))) | (with_reducible refine Below.alloc ?_ ?_ _; rotate_left; focus (first | omega | (simp <;> omega)))))⟩
  case round =>
    obtain ⟨j, hj, rfl, hI, hB⟩ := hrel
    have HB := Lib.hid hB
    have HI := Lib.hid hI
    clear hI
    by_cases hlt : j < L.length
    · obtain ⟨e1, hb, P1⟩ := HP.out (fun e => by rw [e] at hlt; simp at hlt)
      subst e1
      obtain ⟨q, hq⟩ : ∃ q : Int × Int, L[j]? = some q := ⟨_, List.getElem?_eq_getElem hlt⟩
      obtain ⟨p0, p1⟩ := P1 j q hq
      have c0 := (hB.cell (p := ⟨g, j * 2, none⟩) hb).trans p0
      have c1 := (hB.cell (p := ⟨g, j * 2 + 1, none⟩) hb).trans p1
      have HR2 := Lib.hid (HR.out.below hB HR.out.lt)
      have HQ := Lib.hid hq
      clear hB p0 p1 P1 hq
      obtain ⟨x, y⟩ := q
      have KS1 := Lib.hid (KS.out x y wr HR2.out)
      obtain ⟨b, hbi⟩ : ∃ b, b = insR X Y P Q (x, y) := ⟨_, rfl⟩
      rw [← hbi] at KS1
      have HBI := Lib.hid hbi
      clear hbi
      simp only at c0 c1
      cases b with
      | true =>
        go_wp2_with fail
        refine KS1.out.mono ?_
        rintro e w1 ⟨rfl, b1⟩
        have HB1 := Lib.hid (HB.out.trans (b1.mono HB.out.size))
        clear b1 c0 c1
        go_wp2_with fail
        go_roundw
        case rel => exact ⟨j + 1, by omega, by go_num, fun m q h a => by
          by_cases hm : m = j
          · subst hm
            have e := HQ.out
            rw [a] at e
            rw [Option.some.inj e]; exact HBI.out.symm
          · exact HI.out m q (by omega) a, HB1.out⟩
        case measure => simp [intOf]; omega
      | false =>
        go_wp2_with fail
        refine KS1.out.mono ?_
        rintro e w1 ⟨rfl, b1⟩
        have HB1 := Lib.hid (HB.out.trans (b1.mono HB.out.size))
        clear b1 c0 c1
        go_wp2_with fail
        go_ret
        exact ⟨.inl ⟨j, hlt, rfl, ⟨_, HQ.out, HBI.out.symm⟩, HI.out⟩, HB1.out⟩
    · obtain rfl : j = L.length := by omega
      clear hB
      go_wp2_with fail
      go_ret
      exact ⟨.inr ⟨rfl, fun m q h => HI.out m q (List.getElem?_eq_some_iff.1 h).1 h⟩, HB.out⟩
/-- a row of places that may be written -/
def PtsF (w : World) (g : Nat) (M : List (Int × Int)) : Prop := g < w.heap.size ∧ ∀ (n : Nat) (p : Int × Int), M[n]? = some p →
  w.cell? ⟨g, n * 2, none⟩ = some (.int .i64 p.1) ∧ w.cell? ⟨g, n * 2 + 1, none⟩ = some (.int .i64 p.2) ∧ w.frozen? ⟨g, n * 2, none⟩ = false ∧ w.frozen? ⟨g, n * 2 + 1, none⟩ = false
theorem PtsF.below {w w' : World} {g : Nat} {M : List (Int × Int)} (h : PtsF w g M) (hb : Below w.heap.size w w') : PtsF w' g M :=
  ⟨Nat.lt_of_lt_of_le h.1 hb.size, fun n p hp => by
    obtain ⟨a, b, c, d⟩ := h.2 n p hp
    exact ⟨(hb.cell (p := ⟨g, n * 2, none⟩) h.1).trans a, (hb.cell (p := ⟨g, n * 2 + 1, none⟩) h.1).trans b, (hb.frozen (p := ⟨g, n * 2, none⟩) h.1).trans c, (hb.frozen (p := ⟨g, n * 2 + 1, none⟩) h.1).trans d⟩⟩
theorem PtsF.of {w : World} {B g cap : Nat} {L : List (Int × Int)} (h : w.ownsRow B 36 2 (.slice (some ⟨g, 0, none⟩) L.length cap) L.length (ptsV L)) : PtsF w g L := by
  refine ⟨(h.lt g rfl).2, fun n p hp => ?_⟩
  have hn : n < L.length := (List.getElem?_eq_some_iff.1 hp).1
  obtain ⟨g0, g1⟩ := ptsv_get L n p hp
  exact ⟨(h.cellAt (n * 2) (by omega)).trans g0, (h.cellAt (n * 2 + 1) (by omega)).trans g1, h.frozenAt _, h.frozenAt _⟩
theorem PtsF.set {w : World} {g : Nat} {M : List (Int × Int)} {i : Nat} {x y : Int} (h : PtsF w g M) (hi : i < M.length) : PtsF ((w.setCell ⟨g, i * 2, none⟩ (.int .i64 x)).setCell ⟨g, i * 2 + 1, none⟩ (.int .i64 y)) g (M.set i (x, y)) := by
  obtain ⟨a, b, c, d⟩ := h.2 i M[i] (List.getElem?_eq_getElem hi)
  refine ⟨by have := h.1; simpa using this, fun n p hp => ?_⟩
  have ne : ∀ s t : Nat, s ≠ t → (⟨g, s, none⟩ : Addr) ≠ ⟨g, t, none⟩ := fun s t h e => h (by injection e)
  refine ⟨?_, ?_, ?_, ?_⟩
  · by_cases hn : n = i
    · subst hn
      rw [List.getElem?_set_self (by exact hi)] at hp
      have hp := Option.some.inj hp
      subst hp
      rw [World.cell?_setCell_other _ _ _ _ (ne _ _ (by omega)), World.cell?_setCell_same _ _ _ a]
    · rw [List.getElem?_set_ne (fun e => hn e.symm)] at hp
      rw [World.cell?_setCell_other _ _ _ _ (ne _ _ (by omega)), World.cell?_setCell_other _ _ _ _ (ne _ _ (by omega))]
      exact (h.2 n p hp).1
  · by_cases hn : n = i
    · subst hn
      rw [List.getElem?_set_self (by exact hi)] at hp
      have hp := Option.some.inj hp
      subst hp
      exact World.cell?_setCell_same _ _ _ ((World.cell?_setCell_other _ _ _ _ (ne _ _ (by omega))).trans b)
    · rw [List.getElem?_set_ne (fun e => hn e.symm)] at hp
      rw [World.cell?_setCell_other _ _ _ _ (ne _ _ (by omega)), World.cell?_setCell_other _ _ _ _ (ne _ _ (by omega))]
      exact (h.2 n p hp).2.1
  · by_cases hn : n = i
    · subst hn
      rw [World.frozen?_setCell, World.frozen?_setCell]; exact c
    · rw [List.getElem?_set_ne (fun e => hn e.symm)] at hp
      rw [World.frozen?_setCell, World.frozen?_setCell]; exact (h.2 n p hp).2.2.1
  · by_cases hn : n = i
    · subst hn
      rw [World.frozen?_setCell, World.frozen?_setCell]; exact d
    · rw [List.getElem?_set_ne (fun e => hn e.symm)] at hp
      rw [World.frozen?_setCell, World.frozen?_setCell]; exact (h.2 n p hp).2.2.2
/-- the built-in clear, at places -/
theorem clear_pts (w : World) (b o n c : Nat) (hn : 0 < n) (hc : ∀ j, j < n * 2 → (w.cell? ⟨b, o + j, none⟩).isSome = true) (hf : ∀ j, j < n * 2 → w.frozen? ⟨b, o + j, none⟩ = false) :
    ∃ vs : List Value, vs.length = n * 2 ∧ ∀ ty : TypeId, (Builtin.clear_ #[95] ty #[.slice (some ⟨b, o, none⟩) n c]).run Try.prog w = .ok (.tuple #[]) (w.setCells b o vs) := by
  have hv : ∀ w, (zeroValue 36).run Try.prog w = .ok (.agg #[.int .i64 0, .int .i64 0]) w := Try.zeroValue36
  have hzl : (Builtin.zeroCells (Value.cells (.agg #[.int .i64 0, .int .i64 0])) n).toList.length = n * 2 := by
    unfold Builtin.zeroCells
    simp [Value.cells]
  have h1 : ∀ v ∈ (Builtin.zeroCells (Value.cells (.agg #[.int .i64 0, .int .i64 0])) n).toList, v.oneCell' = true := by
    intro v hv
    unfold Builtin.zeroCells at hv
    simp [Value.cells] at hv
    obtain ⟨i, _, rfl⟩ := hv
    rcases (show i % 2 = 0 ∨ i % 2 = 1 by omega) with h | h
    · simp [h, Value.oneCell']
    · simp [h, Value.oneCell']
  have hst := run_storeCells_cells (P := Try.prog) b o (Builtin.zeroCells (Value.cells (.agg #[.int .i64 0, .int .i64 0])) n).toList 0 w (by rw [hzl]; simpa using hc) (by rw [hzl]; simpa using hf) h1
  simp only [Nat.add_zero] at hst
  obtain ⟨m, rfl⟩ : ∃ m, n = m + 1 := ⟨n - 1, by omega⟩
  refine ⟨_, hzl, fun ty => ?_⟩
  simp [Builtin.clear_, run_underlying Try.underlying95, hv, hst]
end Go.Proofs.Ytfmbekdfigbfiaa
