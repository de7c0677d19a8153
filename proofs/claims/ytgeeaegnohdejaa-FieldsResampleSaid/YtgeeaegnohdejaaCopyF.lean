import Derived.Test.YtgeeaegnohdejaaChkF
import Derived.OwnWalk
import Derived.Laws.OwnMore
import Derived.Deep.RegionHeld3
import Derived.Deep.RegionWith
namespace Go.Proofs.Ytgeeaegnohdejaa
open Go.ChangeShapes Go.WideShapes Go.ChangeAt Go.RowKit
open Ieee.Format (fin finE htE allFin allHt all_true all_false finE_ok finE_bad htE_ok htE_far htE_bad mulF subF addF)
set_option linter.unusedVariables false

def fls (l : List Nat) : List Value := l.map (Value.float .f32)
theorem info24 : (Try.prog.info? /-T-/24).map (fun i => (i.zero, i.size, i.bytes)) = some (some (.float .f32 0), 1, 4) := by kernel_rfl

/-- the singles 'l' lie in a row of the call's own, from block 'B' on -/
def OwnF (w : World) (B g cap : Nat) (l : List Nat) : Prop := w.ownsRow B /-T-/24 1 (.slice (some ⟨g, 0, none⟩) l.length cap) l.length (fls l) ∧ ∀ x ∈ l, x < 4294967296

theorem OwnF.lt {w : World} {B g cap : Nat} {l : List Nat} (h : OwnF w B g cap l) : B ≤ g ∧ g < w.heap.size := h.1.lt g rfl
theorem OwnF.row {w : World} {B g cap : Nat} {l : List Nat} (h : OwnF w B g cap l) (hl : l.length ≤ 1099511627776) : SRow w (some ⟨g, 0, none⟩) l := by
  refine ⟨⟨hl, h.2⟩, .inr ⟨g, 0, rfl, fun i hi => ?_⟩⟩
  rw [Nat.zero_add, h.1.cellAt i (by omega)]
  unfold fls
  rw [List.getElem?_map, List.getD_eq_getElem?_getD, List.getElem?_eq_getElem hi]
  rfl
theorem OwnF.below {w w' : World} {B B' g cap : Nat} {l : List Nat} (h : OwnF w B g cap l) (hb : Below B' w w') (hg : g < B') : OwnF w' B g cap l := by
  refine ⟨?_, h.2⟩
  obtain ⟨h1, h2⟩ := h.1
  refine ⟨h1, ?_⟩
  rcases h2 with h2 | ⟨g', cap', cur, hv, hB, hh, r⟩
  · exact .inl h2
  · right
    have : g' = g := by simp at hv; exact hv.1.symm
    subst this
    exact ⟨g', cap', cur, hv, hB, (hb.block g' hg).trans hh, r⟩
theorem OwnF.base {w : World} {B B' g cap : Nat} {l : List Nat} (h : OwnF w B g cap l) (hB : B' ≤ B) : OwnF w B' g cap l := by
  refine ⟨⟨h.1.1, ?_⟩, h.2⟩
  rcases h.1.2 with h2 | ⟨g', cap', cur, hv, hb, r⟩
  · exact .inl h2
  · exact .inr ⟨g', cap', cur, hv, Nat.le_trans hB hb, r⟩
theorem OwnF.setCell {w : World} {B g cap : Nat} {l : List Nat} (h : OwnF w B g cap l) {p : Addr} (hp : g ≠ p.block) (u : Value) : OwnF (w.setCell p u) B g cap l := by
  refine ⟨⟨h.1.1, ?_⟩, h.2⟩
  rcases h.1.2 with h2 | ⟨g', cap', cur, hv, hb, hh, r⟩
  · exact .inl h2
  · have : g' = g := by simp at hv; exact hv.1.symm
    subst this
    exact .inr ⟨g', cap', cur, hv, hb, (Below.heap_setCell w p u g' hp).trans hh, r⟩
theorem OwnF.drew {w : World} {B g cap : Nat} {l : List Nat} (h : OwnF w B g cap l) : OwnF w.drew B g cap l := h
theorem OwnF.drewN {w : World} {B g cap : Nat} {l : List Nat} (h : OwnF w B g cap l) (n : Nat) : OwnF (w.drewN n) B g cap l := h
theorem OwnF.alloc {w : World} {B g cap : Nat} {l : List Nat} (h : OwnF w B g cap l) (o : Obj) : OwnF (w.alloc o) B g cap l := ⟨h.1.alloc o, h.2⟩
theorem OwnF.grown_below {w w' : World} {B : Nat} {row : Option Nat} (hg : w.grownBy w' row) (hr : ∀ k, row = some k → B ≤ k) (hB : B ≤ w.heap.size) : Below B w w' :=
  (Below.refl B w).grown hg hB hr

set_option maxRecDepth 100000 in
theorem clone_any (b o c : Nat) (l : List Nat) (w : World) (hl : SRow w (some ⟨b, o, none⟩) l) (h0 : l ≠ []) :
    Calls Try.prog 172 #[.slice (some ⟨b, o, none⟩) l.length c] w fun e w' => ∃ g cap, e = .returned (.slice (some ⟨g, 0, none⟩) l.length cap) ∧ OwnF w' w.heap.size g cap l ∧ Below w.heap.size w w' := by
  obtain ⟨i0, hi, hz0, hz1, hz2⟩ := info_parts info24
  obtain ⟨⟨hm, hwf⟩, hc⟩ := hl
  have hcells : ∀ i, i < l.length → w.cell? ⟨b, o + i, none⟩ = some (.float .f32 (l.getD i 0)) := by
    rcases hc with hc | ⟨b', o', e, hc⟩
    · exact absurd hc h0
    · cases e; exact hc
  have hlen : 0 < l.length := List.length_pos_iff.2 h0
  have hown := World.ownsRow_lit (base := w.heap.size) (e := /-T-/24) (size := 1) w #[] 0 (Nat.le_refl _) (by decide) rfl
  have hblt : b < w.heap.size := by have := hcells 0 hlen; exact World.block_lt_of_cell? w _ this
  have hnews : ∀ j u, (fls l)[j]? = some u → (w.alloc (.cells #[] /-T-/24)).cell? ((⟨b, o, none⟩ : Addr).add j) = some u := by
    intro j u hu
    unfold fls at hu
    rw [List.getElem?_map] at hu
    obtain ⟨x, hx, rfl⟩ := Option.map_eq_some_iff.1 hu
    obtain ⟨hj, hjx⟩ := List.getElem?_eq_some_iff.1 hx
    have hadd : (⟨b, o, none⟩ : Addr).add j = ⟨b, o + j, none⟩ := by
      unfold Addr.add; split
      · rename_i hj0; subst hj0; rfl
      · rfl
    rw [hadd, World.cell?_alloc_lt w _ ⟨b, o + j, none⟩ hblt, hcells j hj, List.getD_eq_getElem?_getD, hx]
    rfl
  have hone : ∀ u ∈ fls l, u.oneCell' = true := by
    intro u hu
    unfold fls at hu
    obtain ⟨x, _, rfl⟩ := List.mem_map.1 hu
    rfl
  have HC := Lib.hid hnews
  have HO := Lib.hid hone
  have HW := Lib.hid hwf
  have HW2 := Lib.hid hown
  have hfl : (fls l).length = l.length * 1 := by unfold fls; simp
  have HF := Lib.hid hfl
  clear hcells hc hnews hone hwf hown h0 hfl
  have kn := fun w => Lib.run_eql_slice_nil (P := Try.prog) w /-T-/64 /-T-/24 (some ⟨b, o, none⟩) l.length c 0 0 Try.underlying64
  have G1 : Hid (0 + l.length ≤ maxLen) := by unfold maxLen Hid; omega
  have G2 : Hid ((0 + l.length) * 4 ≤ 140737488355328) := by unfold Hid; omega
  have G3 : Hid (w.heap.size ≤ (w.alloc (.cells #[] /-T-/24)).heap.size) := by unfold Hid; simp
  have hlen1 : Hid (l.length ≤ 1099511627776) := hm
  go_enter Try.func172, Try.ntmps172
  go_wp2_with (at_builtin; refine wpList_append_own _ rfl _ _ /-T-/64 rfl w.heap.size /-T-/24 i0 (.float .f32 0) 1 4 Try.underlying64 hi hz0 hz1 hz2 rfl (by decide) _ 0 [] rfl HW2.out ⟨b, o, none⟩ l.length c (fls l) rfl HF.out HC.out HO.out G1.out G2.out G3.out ?_; intro v' w1 hown' hgrow hnil)
  have HO1 := Lib.hid hown'
  have HG1 := Lib.hid hgrow
  have HN := Lib.hid hnil
  clear hown' hgrow hnil
  go_wp2
  go_ret
  have hfo : w1.ownsRow w.heap.size /-T-/24 1 v' l.length (fls l) := by simpa using HO1.out
  rcases hfo.2 with ⟨_, h0⟩ | ⟨g, cap, cur, rfl, hg, hh, hr⟩
  · omega
  · refine ⟨g, cap, rfl, ⟨hfo, HW.out⟩, ?_⟩
    have ha : Below w.heap.size w (w.alloc (.cells #[] /-T-/24)) := (by repeat (first | with_reducible exact Below.refl _ _ | with_reducible apply Below.drew | with_reducible refine below_drewN ?_ _ | (with_reducible refine Below.setCell ?_ ?_ _; rotate_left; focus (first | omega | (simp <;> omega))) | (with_reducible refine Below.alloc ?_ ?_ _; rotate_left; focus (first | omega | (simp <;> omega)))))
    exact ha.grown HG1.out G3.out (fun k hk => by have hk' : some w.heap.size = some k := hk; cases hk'; exact Nat.le_refl _)

theorem SRow.drew {w : World} {a : Option Addr} {l : List Nat} (h : SRow w a l) : SRow w.drew a l := h
theorem SRow.drewN {w : World} {a : Option Addr} {l : List Nat} (h : SRow w a l) (n : Nat) : SRow (w.drewN n) a l := h

/-- a field with these values, in memory made since 'B' -/
def NewF (B : Nat) (X Y W H : Int) (l : List Nat) (w : World) (e : Ending) (w' : World) : Prop :=
  ∃ g cap, e = .returned (fldV X Y W H (some ⟨g, 0, none⟩) l.length cap) ∧ OwnF w' B g cap l ∧ Below w.heap.size w w'

set_option maxRecDepth 100000 in
theorem copy_any (X Y W H : Int) (b o c : Nat) (l : List Nat) (w : World) (hl : SRow w (some ⟨b, o, none⟩) l) (h0 : l ≠ []) :
    Calls Try.prog 129 #[fldV X Y W H (some ⟨b, o, none⟩) l.length c] w fun e w' => NewF w.heap.size X Y W H l w e w' := by
  have K := Lib.hid (fun w h => clone_any b o c l w h h0)
  have HL := Lib.hid hl
  clear hl h0
  have HBL : Below w.heap.size w ((w.alloc (.cells #[.int .i64 X, .int .i64 Y, .int .i64 W, .int .i64 H, .slice (some ⟨b, o, none⟩) l.length c] /-T-/66)).alloc (.cells #[.int .i64 0, .int .i64 0, .int .i64 0, .int .i64 0, .slice none 0 0] /-T-/66)) := (by repeat (first | with_reducible exact Below.refl _ _ | with_reducible apply Below.drew | with_reducible refine below_drewN ?_ _ | (with_reducible refine Below.setCell ?_ ?_ _; rotate_left; focus (first | omega | (simp <;> omega))) | (with_reducible refine Below.alloc ?_ ?_ _; rotate_left; focus (first | omega | (simp <;> omega)))))
  have HB := Lib.hid HBL
  clear HBL
  go_enter Try.func129, Try.ntmps129
  go_wp2
  generalize hW0 : (w.alloc (.cells #[.int .i64 X, .int .i64 Y, .int .i64 W, .int .i64 H, .slice (some ⟨b, o, none⟩) l.length c] /-T-/66)).alloc (.cells #[.int .i64 0, .int .i64 0, .int .i64 0, .int .i64 0, .slice none 0 0] /-T-/66) = W0 at *
  have c0 : W0.cell? ⟨w.heap.size, 0, none⟩ = some (.int .i64 X) := by subst hW0; simp
  have c1 : W0.cell? ⟨w.heap.size, 1, none⟩ = some (.int .i64 Y) := by subst hW0; simp
  have c2 : W0.cell? ⟨w.heap.size, 2, none⟩ = some (.int .i64 W) := by subst hW0; simp
  have c3 : W0.cell? ⟨w.heap.size, 3, none⟩ = some (.int .i64 H) := by subst hW0; simp
  have c4 : W0.cell? ⟨w.heap.size, 4, none⟩ = some (.slice (some ⟨b, o, none⟩) l.length c) := by subst hW0; simp
  have d0 : W0.cell? ⟨w.heap.size + 1, 0, none⟩ = some (.int .i64 0) := by subst hW0; simp
  have d1 : W0.cell? ⟨w.heap.size + 1, 1, none⟩ = some (.int .i64 0) := by subst hW0; simp
  have d2 : W0.cell? ⟨w.heap.size + 1, 2, none⟩ = some (.int .i64 0) := by subst hW0; simp
  have d3 : W0.cell? ⟨w.heap.size + 1, 3, none⟩ = some (.int .i64 0) := by subst hW0; simp
  have d4 : W0.cell? ⟨w.heap.size + 1, 4, none⟩ = some (.slice none 0 0) := by subst hW0; simp
  have z : W0.heap.size = w.heap.size + 2 := by subst hW0; simp
  have HL0 : Hid (SRow W0 (some ⟨b, o, none⟩) l) := HL.out.below HB.out
  have FR : Hid (∀ i, W0.frozen? ⟨w.heap.size + 1, i, none⟩ = false) := by intro i; subst hW0; simp
  clear hW0
  have lt0 : w.heap.size < W0.heap.size := by omega
  have lt1 : w.heap.size + 1 < W0.heap.size := by omega
  have f0 := FR.out 0
  have f1 := FR.out 1
  have f2 := FR.out 2
  have f3 := FR.out 3
  have f4 := FR.out 4
  have HZ := Lib.hid z
  clear z
  have TH : Hid (∀ w2, Below W0.drew.heap.size W0.drew w2 → (∀ i v, W0.cell? ⟨w.heap.size, i, none⟩ = some v → w2.cell? ⟨w.heap.size, i, none⟩ = some v) ∧ (∀ i v, W0.cell? ⟨w.heap.size + 1, i, none⟩ = some v → w2.cell? ⟨w.heap.size + 1, i, none⟩ = some v) ∧ (∀ i, w2.frozen? ⟨w.heap.size + 1, i, none⟩ = false)) := by
    intro w2 hb
    have hz := HZ.out
    refine ⟨fun i v h => ?_, fun i v h => ?_, fun i => ?_⟩
    · exact (hb.cell (p := ⟨w.heap.size, i, none⟩) (by simp; omega)).trans h
    · exact (hb.cell (p := ⟨w.heap.size + 1, i, none⟩) (by simp; omega)).trans h
    · exact (hb.frozen (p := ⟨w.heap.size + 1, i, none⟩) (by simp; omega)).trans (FR.out i)
  have C := Lib.hid (And.intro c0 (And.intro c1 (And.intro c2 (And.intro c3 c4))))
  have D := Lib.hid (And.intro d0 (And.intro d1 (And.intro d2 (And.intro d3 d4))))
  go_region_with (go_at_call 172; refine (K.out _ HL0.out.drew).mono ?_; rintro e2 w2 ⟨g, cap, rfl, ho, hb⟩; obtain ⟨t1, t2, t3⟩ := TH.out _ hb; have x0 := t1 0 _ C.out.1; have x1 := t1 1 _ C.out.2.1; have x2 := t1 2 _ C.out.2.2.1; have x3 := t1 3 _ C.out.2.2.2.1; have x4 := t1 4 _ C.out.2.2.2.2; have y0 := t2 0 _ D.out.1; have y1 := t2 1 _ D.out.2.1; have y2 := t2 2 _ D.out.2.2.1; have y3 := t2 3 _ D.out.2.2.2.1; have y4 := t2 4 _ D.out.2.2.2.2; have g0 := t3 0; have g1 := t3 1; have g2 := t3 2; have g3 := t3 3; have g4 := t3 4; clear t1 t2 t3; have HBB := Lib.hid hb; have HOO := Lib.hid ho; clear hb ho)
  all_goals
    go_wp2
    have hz := HZ.out
    have B2 : Below w.heap.size w w2 := HB.out.trans ((Below.refl w.heap.size W0).drew.trans (HBB.out.mono (show w.heap.size ≤ W0.heap.size by omega)))
    have O2 : OwnF w2 w.heap.size g cap l := HOO.out.base (show w.heap.size ≤ W0.heap.size by omega)
    have gl : w.heap.size + 1 < g := by have h : W0.heap.size ≤ g := HOO.out.lt.1; omega
    exact bodyPost_ret (v := fldV X Y W H (some ⟨g, 0, none⟩) l.length cap) (by simp [results, Try.results129, go_sem, *]) rfl ⟨g, cap, rfl, (by have hgg := O2.lt; repeat (first | with_reducible exact O2 | with_reducible refine OwnF.drew ?_ | with_reducible refine OwnF.drewN ?_ _ | (with_reducible refine OwnF.setCell ?_ ?_ _; rotate_left; focus (first | omega | (simp <;> omega))) | with_reducible refine OwnF.alloc ?_ _)), (by have hszz := B2.size; repeat (first | with_reducible exact B2 | with_reducible apply Below.drew | with_reducible refine below_drewN ?_ _ | (with_reducible refine Below.setCell ?_ ?_ _; rotate_left; focus (first | omega | (simp <;> omega))) | (with_reducible refine Below.alloc ?_ ?_ _; rotate_left; focus (first | omega | (simp <;> omega)))))⟩
end Go.Proofs.Ytgeeaegnohdejaa
