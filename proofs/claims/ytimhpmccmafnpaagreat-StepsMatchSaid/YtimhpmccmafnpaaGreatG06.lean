import Derived.Test.YtimhpmccmafnpaaGreatG05
import Derived.BigQuiet
import Derived.Deep.CutBlock
import Derived.Deep.QuietTactic
import Derived.Deep.DeepCutAuto
import Derived.StillTailTactics
import Derived.IntWalk
namespace Go.Proofs.YtimhpmccmafnpaaGreat
open Go.ChangeShapes Go.WideShapes Go.ChangeAt Go.RowKit
set_option linter.unusedVariables false

theorem SRow.cell1 {w : World} {b o : Nat} {l : List Nat} (h : SRow w (some ⟨b, o, none⟩) l) (i : Nat) (hi : i < l.length) : w.cell? ⟨b, o + i, none⟩ = some (.float .f32 (l.getD i 0)) := by
  rcases h.2 with h | ⟨b', o', e, hc⟩
  · subst h; simp at hi
  · cases e; exact hc i hi
theorem SRow.lt1 {w : World} {b o : Nat} {l : List Nat} (h : SRow w (some ⟨b, o, none⟩) l) (hi : 0 < l.length) : b < w.heap.size := World.block_lt_of_cell? w _ (h.cell1 0 hi)
theorem st_3 {W : World} {k : Nat} {t : TypeId} {a0 a1 a2 : Value} (h : W.heap[k]? = some (.cells #[a0, a1, a2] t (0, 0))) (v0 v1 v2 : Value) :
    ∀ W5, W5 = (((W.setCell ⟨k, 0, none⟩ v0).setCell ⟨k, 1, none⟩ v1).setCell ⟨k, 2, none⟩ v2) → W5.heap[k]? = some (.cells #[v0, v1, v2] t (0, 0)) ∧ Below k W W5 := by
  rintro _ rfl
  refine ⟨?_, (by repeat (first | with_reducible exact Below.refl _ _ | with_reducible apply Below.drew | with_reducible refine below_drewN ?_ _ | (with_reducible refine Below.setCell ?_ ?_ _; rotate_left; focus (first | omega | (simp <;> omega))) | (with_reducible refine Below.alloc ?_ ?_ _; rotate_left; focus (first | omega | (simp <;> omega)))))⟩
  have := (heap_setCell_same _ k 2 _ _ v2 (heap_setCell_same _ k 1 _ _ v1 (heap_setCell_same _ k 0 _ _ v0 h)))
  simpa using this
theorem st_4 {W : World} {k : Nat} {t : TypeId} {a0 a1 a2 a3 : Value} (h : W.heap[k]? = some (.cells #[a0, a1, a2, a3] t (0, 0))) (v0 v1 v2 v3 : Value) :
    ∀ W5, W5 = ((((W.setCell ⟨k, 0, none⟩ v0).setCell ⟨k, 1, none⟩ v1).setCell ⟨k, 2, none⟩ v2).setCell ⟨k, 3, none⟩ v3) → W5.heap[k]? = some (.cells #[v0, v1, v2, v3] t (0, 0)) ∧ Below k W W5 := by
  rintro _ rfl
  refine ⟨?_, (by repeat (first | with_reducible exact Below.refl _ _ | with_reducible apply Below.drew | with_reducible refine below_drewN ?_ _ | (with_reducible refine Below.setCell ?_ ?_ _; rotate_left; focus (first | omega | (simp <;> omega))) | (with_reducible refine Below.alloc ?_ ?_ _; rotate_left; focus (first | omega | (simp <;> omega)))))⟩
  have := (heap_setCell_same _ k 3 _ _ v3 (heap_setCell_same _ k 2 _ _ v2 (heap_setCell_same _ k 1 _ _ v1 (heap_setCell_same _ k 0 _ _ v0 h))))
  simpa using this
theorem st_5 {W : World} {k : Nat} {t : TypeId} {a0 a1 a2 a3 a4 : Value} (h : W.heap[k]? = some (.cells #[a0, a1, a2, a3, a4] t (0, 0))) (v0 v1 v2 v3 v4 : Value) :
    ∀ W5, W5 = (((((W.setCell ⟨k, 0, none⟩ v0).setCell ⟨k, 1, none⟩ v1).setCell ⟨k, 2, none⟩ v2).setCell ⟨k, 3, none⟩ v3).setCell ⟨k, 4, none⟩ v4) → W5.heap[k]? = some (.cells #[v0, v1, v2, v3, v4] t (0, 0)) ∧ Below k W W5 := by
  rintro _ rfl
  refine ⟨?_, (by repeat (first | with_reducible exact Below.refl _ _ | with_reducible apply Below.drew | with_reducible refine below_drewN ?_ _ | (with_reducible refine Below.setCell ?_ ?_ _; rotate_left; focus (first | omega | (simp <;> omega))) | (with_reducible refine Below.alloc ?_ ?_ _; rotate_left; focus (first | omega | (simp <;> omega)))))⟩
  have := (heap_setCell_same _ k 4 _ _ v4 (heap_setCell_same _ k 3 _ _ v3 (heap_setCell_same _ k 2 _ _ v2 (heap_setCell_same _ k 1 _ _ v1 (heap_setCell_same _ k 0 _ _ v0 h)))))
  simpa using this
theorem st_6 {W : World} {k : Nat} {t : TypeId} {a0 a1 a2 a3 a4 a5 : Value} (h : W.heap[k]? = some (.cells #[a0, a1, a2, a3, a4, a5] t (0, 0))) (v0 v1 v2 v3 v4 v5 : Value) :
    ∀ W5, W5 = ((((((W.setCell ⟨k, 0, none⟩ v0).setCell ⟨k, 1, none⟩ v1).setCell ⟨k, 2, none⟩ v2).setCell ⟨k, 3, none⟩ v3).setCell ⟨k, 4, none⟩ v4).setCell ⟨k, 5, none⟩ v5) → W5.heap[k]? = some (.cells #[v0, v1, v2, v3, v4, v5] t (0, 0)) ∧ Below k W W5 := by
  rintro _ rfl
  refine ⟨?_, (by repeat (first | with_reducible exact Below.refl _ _ | with_reducible apply Below.drew | with_reducible refine below_drewN ?_ _ | (with_reducible refine Below.setCell ?_ ?_ _; rotate_left; focus (first | omega | (simp <;> omega))) | (with_reducible refine Below.alloc ?_ ?_ _; rotate_left; focus (first | omega | (simp <;> omega)))))⟩
  have := (heap_setCell_same _ k 5 _ _ v5 (heap_setCell_same _ k 4 _ _ v4 (heap_setCell_same _ k 3 _ _ v3 (heap_setCell_same _ k 2 _ _ v2 (heap_setCell_same _ k 1 _ _ v1 (heap_setCell_same _ k 0 _ _ v0 h))))))
  simpa using this
set_option maxRecDepth 100000 in
set_option maxHeartbeats 1000000 in
theorem mk_fractal (s : ByteArray) (ia : Option Addr) (nin cin b o cI rb ro nR cR : Nat) (i0 i1 i2 i3 : Int) (r0 : Nat) (l : List Nat) (w : World)
    (hI : ZRow w (some ⟨b, o, none⟩) [i0, i1, i2, i3]) (hR : SRow w (some ⟨rb, ro, none⟩) l) (hl : l = r0 :: l.drop 1) (hn : nR = l.length) :
    Calls Tryz.prog 20 #[ndV s ia nin cin (some ⟨b, o, none⟩) 4 cI (some ⟨rb, ro, none⟩) nR cR] w fun e w' => e = .returned (.agg #[.int .i64 i0, .int .u32 (i1 % 4294967296), .int .i64 i2, .int .i64 i3, .float .f32 r0]) ∧ Below w.heap.size w w' := by
  have hlen : 0 < l.length := by rw [hl]; simp
  have g0 : l.getD 0 0 = r0 := by rw [hl]; rfl
  have hnr : 0 < nR := by omega
  have hnr0 : 0 < nR := by omega
  have HN := Lib.hid hn
  clear hl hn
  go_enter Tryz.func20, Tryz.ntmps20
  go_upto_region 1 with fail
  generalize hW0 : (w.alloc (.cells #[.string s, .slice ia nin cin, .slice (some ⟨b, o, none⟩) 4 cI, .slice (some ⟨rb, ro, none⟩) nR cR] 25)).alloc (.cells #[.int .i64 0, .int .u32 0, .int .i64 0, .int .i64 0, .float .f32 0] 48) = W0
  have A0 : NdAt W0 w.heap.size s ia nin cin (some ⟨b, o, none⟩) 4 cI (some ⟨rb, ro, none⟩) nR cR := by
    subst hW0
    exact (NdAt.new _ _ _ _ _ _ _ _ _ _ _).below ((Below.refl (w.heap.size + 1) _).alloc (by simp) _) (by omega)
  have bk : W0.heap[w.heap.size + 1]? = some (.cells #[.int .i64 0, .int .u32 0, .int .i64 0, .int .i64 0, .float .f32 0] 48 (0, 0)) := by
    subst hW0
    have := heap_alloc_new (w.alloc (.cells #[.string s, .slice ia nin cin, .slice (some ⟨b, o, none⟩) 4 cI, .slice (some ⟨rb, ro, none⟩) nR cR] 25)) (.cells #[.int .i64 0, .int .u32 0, .int .i64 0, .int .i64 0, .float .f32 0] 48)
    simpa using this
  have b0 : Below w.heap.size w W0 := by subst hW0; exact (by repeat (first | with_reducible exact Below.refl _ _ | with_reducible apply Below.drew | with_reducible refine below_drewN ?_ _ | (with_reducible refine Below.setCell ?_ ?_ _; rotate_left; focus (first | omega | (simp <;> omega))) | (with_reducible refine Below.alloc ?_ ?_ _; rotate_left; focus (first | omega | (simp <;> omega)))))
  have HB0 := Lib.hid b0
  have hI0 := hI.below b0
  have hR0 := hR.below b0
  have x0 : W0.cell? ⟨b, o, none⟩ = some (.int .i64 i0) := hI0.at_ 0 (by simp)
  have x1 : W0.cell? ⟨b, o + 1, none⟩ = some (.int .i64 i1) := hI0.at_ 1 (by simp)
  have x2 : W0.cell? ⟨b, o + 2, none⟩ = some (.int .i64 i2) := hI0.at_ 2 (by simp)
  have x3 : W0.cell? ⟨b, o + 3, none⟩ = some (.int .i64 i3) := hI0.at_ 3 (by simp)
  have y0 : W0.cell? ⟨rb, ro, none⟩ = some (.float .f32 r0) := by have := hR0.cell1 0 (by omega); rw [g0] at this; exact this
  have lb : b < W0.heap.size := hI0.lt (by simp)
  have lrb : rb < W0.heap.size := hR0.lt1 (by omega)
  have l0 : w.heap.size < W0.heap.size := A0.lt
  have l1 : w.heap.size + 1 < W0.heap.size := by subst hW0; simp
  obtain ⟨p0, p1, p2, p3⟩ := A0.cells
  clear b0 hI0 hR0 hI hR hW0 A0 hlen
  clear g0
  have q0 : W0.frozen? ⟨w.heap.size + 1, 0, none⟩ = false := frozen_of_row W0 _ 0 _ _ bk
  have d0 : W0.cell? ⟨w.heap.size + 1, 0, none⟩ = some (.int .i64 0) := cell_of_row W0 _ 0 _ _ _ bk
  have q1 : W0.frozen? ⟨w.heap.size + 1, 1, none⟩ = false := frozen_of_row W0 _ 1 _ _ bk
  have d1 : W0.cell? ⟨w.heap.size + 1, 1, none⟩ = some (.int .u32 0) := cell_of_row W0 _ 1 _ _ _ bk
  have q2 : W0.frozen? ⟨w.heap.size + 1, 2, none⟩ = false := frozen_of_row W0 _ 2 _ _ bk
  have d2 : W0.cell? ⟨w.heap.size + 1, 2, none⟩ = some (.int .i64 0) := cell_of_row W0 _ 2 _ _ _ bk
  have q3 : W0.frozen? ⟨w.heap.size + 1, 3, none⟩ = false := frozen_of_row W0 _ 3 _ _ bk
  have d3 : W0.cell? ⟨w.heap.size + 1, 3, none⟩ = some (.int .i64 0) := cell_of_row W0 _ 3 _ _ _ bk
  have q4 : W0.frozen? ⟨w.heap.size + 1, 4, none⟩ = false := frozen_of_row W0 _ 4 _ _ bk
  have d4 : W0.cell? ⟨w.heap.size + 1, 4, none⟩ = some (.float .f32 0) := cell_of_row W0 _ 4 _ _ _ bk
  have HK := Lib.hid bk
  clear bk
  go_still_tail 22, (by kernel_rfl)
  change wpList _ _ _ _ _ W0.drew
  go_wp2_with fail
  obtain ⟨e5, b5⟩ := st_5 (W := W0) HK.out (.int .i64 i0) (.int .u32 (i1 % 4294967296)) (.int .i64 i2) (.int .i64 i3) (.float .f32 r0) _ rfl
  have b5 := b5.drew
  change (World.drew (((((W0.setCell ⟨w.heap.size + 1, 0, none⟩ (.int .i64 i0)).setCell ⟨w.heap.size + 1, 1, none⟩ (.int .u32 (i1 % 4294967296))).setCell ⟨w.heap.size + 1, 2, none⟩ (.int .i64 i2)).setCell ⟨w.heap.size + 1, 3, none⟩ (.int .i64 i3)).setCell ⟨w.heap.size + 1, 4, none⟩ (.float .f32 r0))).heap[w.heap.size + 1]? = _ at e5
  generalize World.drew (((((W0.setCell ⟨w.heap.size + 1, 0, none⟩ (.int .i64 i0)).setCell ⟨w.heap.size + 1, 1, none⟩ (.int .u32 (i1 % 4294967296))).setCell ⟨w.heap.size + 1, 2, none⟩ (.int .i64 i2)).setCell ⟨w.heap.size + 1, 3, none⟩ (.int .i64 i3)).setCell ⟨w.heap.size + 1, 4, none⟩ (.float .f32 r0)) = W5 at *
  have z0 : W5.cell? ⟨w.heap.size + 1, 0, none⟩ = some (.int .i64 i0) := cell_of_row W5 _ 0 _ _ _ e5
  have z1 : W5.cell? ⟨w.heap.size + 1, 1, none⟩ = some (.int .u32 (i1 % 4294967296)) := cell_of_row W5 _ 1 _ _ _ e5
  have z2 : W5.cell? ⟨w.heap.size + 1, 2, none⟩ = some (.int .i64 i2) := cell_of_row W5 _ 2 _ _ _ e5
  have z3 : W5.cell? ⟨w.heap.size + 1, 3, none⟩ = some (.int .i64 i3) := cell_of_row W5 _ 3 _ _ _ e5
  have z4 : W5.cell? ⟨w.heap.size + 1, 4, none⟩ = some (.float .f32 r0) := cell_of_row W5 _ 4 _ _ _ e5
  have hb := HB0.out.trans (b5.mono (by omega))
  clear e5 b5 d0 d1 d2 d3 d4 q0 q1 q2 q3 q4 p0 p1 p2 p3
  exact bodyPost_ret (v := .agg #[.int .i64 i0, .int .u32 (i1 % 4294967296), .int .i64 i2, .int .i64 i3, .float .f32 r0]) (by simp [results, Tryz.results20, go_sem, *]) rfl ⟨rfl, hb⟩
set_option maxRecDepth 100000 in
set_option maxHeartbeats 1000000 in
theorem refmk_fractal (s : ByteArray) (ia : Option Addr) (nin cin b o cI rb ro nR cR : Nat) (i0 i1 i2 i3 : Int) (r0 : Nat) (l : List Nat) (w : World)
    (hI : ZRow w (some ⟨b, o, none⟩) [i0, i1, i2, i3]) (hR : SRow w (some ⟨rb, ro, none⟩) l) (hl : l = r0 :: l.drop 1) (hn : nR = l.length) :
    Calls Tryz.prog 53 #[ndV s ia nin cin (some ⟨b, o, none⟩) 4 cI (some ⟨rb, ro, none⟩) nR cR] w fun e w' => e = .returned (.agg #[.int .i64 i0, .int .u32 (i1 % 4294967296), .int .i64 i2, .int .i64 i3, .float .f32 r0]) ∧ Below w.heap.size w w' := by
  have hlen : 0 < l.length := by rw [hl]; simp
  have g0 : l.getD 0 0 = r0 := by rw [hl]; rfl
  have hnr : 0 < nR := by omega
  have hnr0 : 0 < nR := by omega
  have HN := Lib.hid hn
  clear hl hn
  go_enter Tryz.func53, Tryz.ntmps53
  go_upto_region 1 with fail
  generalize hW0 : (w.alloc (.cells #[.string s, .slice ia nin cin, .slice (some ⟨b, o, none⟩) 4 cI, .slice (some ⟨rb, ro, none⟩) nR cR] 25)).alloc (.cells #[.int .i64 0, .int .u32 0, .int .i64 0, .int .i64 0, .float .f32 0] 48) = W0
  have A0 : NdAt W0 w.heap.size s ia nin cin (some ⟨b, o, none⟩) 4 cI (some ⟨rb, ro, none⟩) nR cR := by
    subst hW0
    exact (NdAt.new _ _ _ _ _ _ _ _ _ _ _).below ((Below.refl (w.heap.size + 1) _).alloc (by simp) _) (by omega)
  have bk : W0.heap[w.heap.size + 1]? = some (.cells #[.int .i64 0, .int .u32 0, .int .i64 0, .int .i64 0, .float .f32 0] 48 (0, 0)) := by
    subst hW0
    have := heap_alloc_new (w.alloc (.cells #[.string s, .slice ia nin cin, .slice (some ⟨b, o, none⟩) 4 cI, .slice (some ⟨rb, ro, none⟩) nR cR] 25)) (.cells #[.int .i64 0, .int .u32 0, .int .i64 0, .int .i64 0, .float .f32 0] 48)
    simpa using this
  have b0 : Below w.heap.size w W0 := by subst hW0; exact (by repeat (first | with_reducible exact Below.refl _ _ | with_reducible apply Below.drew | with_reducible refine below_drewN ?_ _ | (with_reducible refine Below.setCell ?_ ?_ _; rotate_left; focus (first | omega | (simp <;> omega))) | (with_reducible refine Below.alloc ?_ ?_ _; rotate_left; focus (first | omega | (simp <;> omega)))))
  have HB0 := Lib.hid b0
  have hI0 := hI.below b0
  have hR0 := hR.below b0
  have x0 : W0.cell? ⟨b, o, none⟩ = some (.int .i64 i0) := hI0.at_ 0 (by simp)
  have x1 : W0.cell? ⟨b, o + 1, none⟩ = some (.int .i64 i1) := hI0.at_ 1 (by simp)
  have x2 : W0.cell? ⟨b, o + 2, none⟩ = some (.int .i64 i2) := hI0.at_ 2 (by simp)
  have x3 : W0.cell? ⟨b, o + 3, none⟩ = some (.int .i64 i3) := hI0.at_ 3 (by simp)
  have y0 : W0.cell? ⟨rb, ro, none⟩ = some (.float .f32 r0) := by have := hR0.cell1 0 (by omega); rw [g0] at this; exact this
  have lb : b < W0.heap.size := hI0.lt (by simp)
  have lrb : rb < W0.heap.size := hR0.lt1 (by omega)
  have l0 : w.heap.size < W0.heap.size := A0.lt
  have l1 : w.heap.size + 1 < W0.heap.size := by subst hW0; simp
  obtain ⟨p0, p1, p2, p3⟩ := A0.cells
  clear b0 hI0 hR0 hI hR hW0 A0 hlen
  clear g0
  have q0 : W0.frozen? ⟨w.heap.size + 1, 0, none⟩ = false := frozen_of_row W0 _ 0 _ _ bk
  have d0 : W0.cell? ⟨w.heap.size + 1, 0, none⟩ = some (.int .i64 0) := cell_of_row W0 _ 0 _ _ _ bk
  have q1 : W0.frozen? ⟨w.heap.size + 1, 1, none⟩ = false := frozen_of_row W0 _ 1 _ _ bk
  have d1 : W0.cell? ⟨w.heap.size + 1, 1, none⟩ = some (.int .u32 0) := cell_of_row W0 _ 1 _ _ _ bk
  have q2 : W0.frozen? ⟨w.heap.size + 1, 2, none⟩ = false := frozen_of_row W0 _ 2 _ _ bk
  have d2 : W0.cell? ⟨w.heap.size + 1, 2, none⟩ = some (.int .i64 0) := cell_of_row W0 _ 2 _ _ _ bk
  have q3 : W0.frozen? ⟨w.heap.size + 1, 3, none⟩ = false := frozen_of_row W0 _ 3 _ _ bk
  have d3 : W0.cell? ⟨w.heap.size + 1, 3, none⟩ = some (.int .i64 0) := cell_of_row W0 _ 3 _ _ _ bk
  have q4 : W0.frozen? ⟨w.heap.size + 1, 4, none⟩ = false := frozen_of_row W0 _ 4 _ _ bk
  have d4 : W0.cell? ⟨w.heap.size + 1, 4, none⟩ = some (.float .f32 0) := cell_of_row W0 _ 4 _ _ _ bk
  have HK := Lib.hid bk
  clear bk
  go_still_tail 22, (by kernel_rfl)
  change wpList _ _ _ _ _ W0.drew
  go_wp2_with fail
  obtain ⟨e5, b5⟩ := st_5 (W := W0) HK.out (.int .i64 i0) (.int .u32 (i1 % 4294967296)) (.int .i64 i2) (.int .i64 i3) (.float .f32 r0) _ rfl
  have b5 := b5.drew
  change (World.drew (((((W0.setCell ⟨w.heap.size + 1, 0, none⟩ (.int .i64 i0)).setCell ⟨w.heap.size + 1, 1, none⟩ (.int .u32 (i1 % 4294967296))).setCell ⟨w.heap.size + 1, 2, none⟩ (.int .i64 i2)).setCell ⟨w.heap.size + 1, 3, none⟩ (.int .i64 i3)).setCell ⟨w.heap.size + 1, 4, none⟩ (.float .f32 r0))).heap[w.heap.size + 1]? = _ at e5
  generalize World.drew (((((W0.setCell ⟨w.heap.size + 1, 0, none⟩ (.int .i64 i0)).setCell ⟨w.heap.size + 1, 1, none⟩ (.int .u32 (i1 % 4294967296))).setCell ⟨w.heap.size + 1, 2, none⟩ (.int .i64 i2)).setCell ⟨w.heap.size + 1, 3, none⟩ (.int .i64 i3)).setCell ⟨w.heap.size + 1, 4, none⟩ (.float .f32 r0)) = W5 at *
  have z0 : W5.cell? ⟨w.heap.size + 1, 0, none⟩ = some (.int .i64 i0) := cell_of_row W5 _ 0 _ _ _ e5
  have z1 : W5.cell? ⟨w.heap.size + 1, 1, none⟩ = some (.int .u32 (i1 % 4294967296)) := cell_of_row W5 _ 1 _ _ _ e5
  have z2 : W5.cell? ⟨w.heap.size + 1, 2, none⟩ = some (.int .i64 i2) := cell_of_row W5 _ 2 _ _ _ e5
  have z3 : W5.cell? ⟨w.heap.size + 1, 3, none⟩ = some (.int .i64 i3) := cell_of_row W5 _ 3 _ _ _ e5
  have z4 : W5.cell? ⟨w.heap.size + 1, 4, none⟩ = some (.float .f32 r0) := cell_of_row W5 _ 4 _ _ _ e5
  have hb := HB0.out.trans (b5.mono (by omega))
  clear e5 b5 d0 d1 d2 d3 d4 q0 q1 q2 q3 q4 p0 p1 p2 p3
  exact bodyPost_ret (v := .agg #[.int .i64 i0, .int .u32 (i1 % 4294967296), .int .i64 i2, .int .i64 i3, .float .f32 r0]) (by simp [results, Tryz.results53, go_sem, *]) rfl ⟨rfl, hb⟩
set_option maxRecDepth 100000 in
set_option maxHeartbeats 1000000 in
theorem mk_brush (s : ByteArray) (ia : Option Addr) (nin cin b o cI rb ro nR cR : Nat) (i0 i1 i2 i3 : Int) (r0 : Nat) (l : List Nat) (w : World)
    (hI : ZRow w (some ⟨b, o, none⟩) [i0, i1, i2, i3]) (hR : SRow w (some ⟨rb, ro, none⟩) l) (hl : l = r0 :: l.drop 1) (hn : nR = l.length) :
    Calls Tryz.prog 24 #[ndV s ia nin cin (some ⟨b, o, none⟩) 4 cI (some ⟨rb, ro, none⟩) nR cR] w fun e w' => e = .returned (.agg #[.int .i64 i0, .int .i64 i1, .int .i64 i2, .int .i64 i3, .float .f32 r0]) ∧ Below w.heap.size w w' := by
  have hlen : 0 < l.length := by rw [hl]; simp
  have g0 : l.getD 0 0 = r0 := by rw [hl]; rfl
  have hnr : 0 < nR := by omega
  have hnr0 : 0 < nR := by omega
  have HN := Lib.hid hn
  clear hl hn
  go_enter Tryz.func24, Tryz.ntmps24
  go_upto_region 1 with fail
  generalize hW0 : (w.alloc (.cells #[.string s, .slice ia nin cin, .slice (some ⟨b, o, none⟩) 4 cI, .slice (some ⟨rb, ro, none⟩) nR cR] 25)).alloc (.cells #[.int .i64 0, .int .i64 0, .int .i64 0, .int .i64 0, .float .f32 0] 56) = W0
  have A0 : NdAt W0 w.heap.size s ia nin cin (some ⟨b, o, none⟩) 4 cI (some ⟨rb, ro, none⟩) nR cR := by
    subst hW0
    exact (NdAt.new _ _ _ _ _ _ _ _ _ _ _).below ((Below.refl (w.heap.size + 1) _).alloc (by simp) _) (by omega)
  have bk : W0.heap[w.heap.size + 1]? = some (.cells #[.int .i64 0, .int .i64 0, .int .i64 0, .int .i64 0, .float .f32 0] 56 (0, 0)) := by
    subst hW0
    have := heap_alloc_new (w.alloc (.cells #[.string s, .slice ia nin cin, .slice (some ⟨b, o, none⟩) 4 cI, .slice (some ⟨rb, ro, none⟩) nR cR] 25)) (.cells #[.int .i64 0, .int .i64 0, .int .i64 0, .int .i64 0, .float .f32 0] 56)
    simpa using this
  have b0 : Below w.heap.size w W0 := by subst hW0; exact (by repeat (first | with_reducible exact Below.refl _ _ | with_reducible apply Below.drew | with_reducible refine below_drewN ?_ _ | (with_reducible refine Below.setCell ?_ ?_ _; rotate_left; focus (first | omega | (simp <;> omega))) | (with_reducible refine Below.alloc ?_ ?_ _; rotate_left; focus (first | omega | (simp <;> omega)))))
  have HB0 := Lib.hid b0
  have hI0 := hI.below b0
  have hR0 := hR.below b0
  have x0 : W0.cell? ⟨b, o, none⟩ = some (.int .i64 i0) := hI0.at_ 0 (by simp)
  have x1 : W0.cell? ⟨b, o + 1, none⟩ = some (.int .i64 i1) := hI0.at_ 1 (by simp)
  have x2 : W0.cell? ⟨b, o + 2, none⟩ = some (.int .i64 i2) := hI0.at_ 2 (by simp)
  have x3 : W0.cell? ⟨b, o + 3, none⟩ = some (.int .i64 i3) := hI0.at_ 3 (by simp)
  have y0 : W0.cell? ⟨rb, ro, none⟩ = some (.float .f32 r0) := by have := hR0.cell1 0 (by omega); rw [g0] at this; exact this
  have lb : b < W0.heap.size := hI0.lt (by simp)
  have lrb : rb < W0.heap.size := hR0.lt1 (by omega)
  have l0 : w.heap.size < W0.heap.size := A0.lt
  have l1 : w.heap.size + 1 < W0.heap.size := by subst hW0; simp
  obtain ⟨p0, p1, p2, p3⟩ := A0.cells
  clear b0 hI0 hR0 hI hR hW0 A0 hlen
  clear g0
  have q0 : W0.frozen? ⟨w.heap.size + 1, 0, none⟩ = false := frozen_of_row W0 _ 0 _ _ bk
  have d0 : W0.cell? ⟨w.heap.size + 1, 0, none⟩ = some (.int .i64 0) := cell_of_row W0 _ 0 _ _ _ bk
  have q1 : W0.frozen? ⟨w.heap.size + 1, 1, none⟩ = false := frozen_of_row W0 _ 1 _ _ bk
  have d1 : W0.cell? ⟨w.heap.size + 1, 1, none⟩ = some (.int .i64 0) := cell_of_row W0 _ 1 _ _ _ bk
  have q2 : W0.frozen? ⟨w.heap.size + 1, 2, none⟩ = false := frozen_of_row W0 _ 2 _ _ bk
  have d2 : W0.cell? ⟨w.heap.size + 1, 2, none⟩ = some (.int .i64 0) := cell_of_row W0 _ 2 _ _ _ bk
  have q3 : W0.frozen? ⟨w.heap.size + 1, 3, none⟩ = false := frozen_of_row W0 _ 3 _ _ bk
  have d3 : W0.cell? ⟨w.heap.size + 1, 3, none⟩ = some (.int .i64 0) := cell_of_row W0 _ 3 _ _ _ bk
  have q4 : W0.frozen? ⟨w.heap.size + 1, 4, none⟩ = false := frozen_of_row W0 _ 4 _ _ bk
  have d4 : W0.cell? ⟨w.heap.size + 1, 4, none⟩ = some (.float .f32 0) := cell_of_row W0 _ 4 _ _ _ bk
  have HK := Lib.hid bk
  clear bk
  go_still_tail 21, (by kernel_rfl)
  change wpList _ _ _ _ _ W0.drew
  go_wp2_with fail
  obtain ⟨e5, b5⟩ := st_5 (W := W0) HK.out (.int .i64 i0) (.int .i64 i1) (.int .i64 i2) (.int .i64 i3) (.float .f32 r0) _ rfl
  have b5 := b5.drew
  change (World.drew (((((W0.setCell ⟨w.heap.size + 1, 0, none⟩ (.int .i64 i0)).setCell ⟨w.heap.size + 1, 1, none⟩ (.int .i64 i1)).setCell ⟨w.heap.size + 1, 2, none⟩ (.int .i64 i2)).setCell ⟨w.heap.size + 1, 3, none⟩ (.int .i64 i3)).setCell ⟨w.heap.size + 1, 4, none⟩ (.float .f32 r0))).heap[w.heap.size + 1]? = _ at e5
  generalize World.drew (((((W0.setCell ⟨w.heap.size + 1, 0, none⟩ (.int .i64 i0)).setCell ⟨w.heap.size + 1, 1, none⟩ (.int .i64 i1)).setCell ⟨w.heap.size + 1, 2, none⟩ (.int .i64 i2)).setCell ⟨w.heap.size + 1, 3, none⟩ (.int .i64 i3)).setCell ⟨w.heap.size + 1, 4, none⟩ (.float .f32 r0)) = W5 at *
  have z0 : W5.cell? ⟨w.heap.size + 1, 0, none⟩ = some (.int .i64 i0) := cell_of_row W5 _ 0 _ _ _ e5
  have z1 : W5.cell? ⟨w.heap.size + 1, 1, none⟩ = some (.int .i64 i1) := cell_of_row W5 _ 1 _ _ _ e5
  have z2 : W5.cell? ⟨w.heap.size + 1, 2, none⟩ = some (.int .i64 i2) := cell_of_row W5 _ 2 _ _ _ e5
  have z3 : W5.cell? ⟨w.heap.size + 1, 3, none⟩ = some (.int .i64 i3) := cell_of_row W5 _ 3 _ _ _ e5
  have z4 : W5.cell? ⟨w.heap.size + 1, 4, none⟩ = some (.float .f32 r0) := cell_of_row W5 _ 4 _ _ _ e5
  have hb := HB0.out.trans (b5.mono (by omega))
  clear e5 b5 d0 d1 d2 d3 d4 q0 q1 q2 q3 q4 p0 p1 p2 p3
  exact bodyPost_ret (v := .agg #[.int .i64 i0, .int .i64 i1, .int .i64 i2, .int .i64 i3, .float .f32 r0]) (by simp [results, Tryz.results24, go_sem, *]) rfl ⟨rfl, hb⟩
set_option maxRecDepth 100000 in
set_option maxHeartbeats 1000000 in
theorem refmk_brush (s : ByteArray) (ia : Option Addr) (nin cin b o cI rb ro nR cR : Nat) (i0 i1 i2 i3 : Int) (r0 : Nat) (l : List Nat) (w : World)
    (hI : ZRow w (some ⟨b, o, none⟩) [i0, i1, i2, i3]) (hR : SRow w (some ⟨rb, ro, none⟩) l) (hl : l = r0 :: l.drop 1) (hn : nR = l.length) :
    Calls Tryz.prog 58 #[ndV s ia nin cin (some ⟨b, o, none⟩) 4 cI (some ⟨rb, ro, none⟩) nR cR] w fun e w' => e = .returned (.agg #[.int .i64 i0, .int .i64 i1, .int .i64 i2, .int .i64 i3, .float .f32 r0]) ∧ Below w.heap.size w w' := by
  have hlen : 0 < l.length := by rw [hl]; simp
  have g0 : l.getD 0 0 = r0 := by rw [hl]; rfl
  have hnr : 0 < nR := by omega
  have hnr0 : 0 < nR := by omega
  have HN := Lib.hid hn
  clear hl hn
  go_enter Tryz.func58, Tryz.ntmps58
  go_upto_region 1 with fail
  generalize hW0 : (w.alloc (.cells #[.string s, .slice ia nin cin, .slice (some ⟨b, o, none⟩) 4 cI, .slice (some ⟨rb, ro, none⟩) nR cR] 25)).alloc (.cells #[.int .i64 0, .int .i64 0, .int .i64 0, .int .i64 0, .float .f32 0] 56) = W0
  have A0 : NdAt W0 w.heap.size s ia nin cin (some ⟨b, o, none⟩) 4 cI (some ⟨rb, ro, none⟩) nR cR := by
    subst hW0
    exact (NdAt.new _ _ _ _ _ _ _ _ _ _ _).below ((Below.refl (w.heap.size + 1) _).alloc (by simp) _) (by omega)
  have bk : W0.heap[w.heap.size + 1]? = some (.cells #[.int .i64 0, .int .i64 0, .int .i64 0, .int .i64 0, .float .f32 0] 56 (0, 0)) := by
    subst hW0
    have := heap_alloc_new (w.alloc (.cells #[.string s, .slice ia nin cin, .slice (some ⟨b, o, none⟩) 4 cI, .slice (some ⟨rb, ro, none⟩) nR cR] 25)) (.cells #[.int .i64 0, .int .i64 0, .int .i64 0, .int .i64 0, .float .f32 0] 56)
    simpa using this
  have b0 : Below w.heap.size w W0 := by subst hW0; exact (by repeat (first | with_reducible exact Below.refl _ _ | with_reducible apply Below.drew | with_reducible refine below_drewN ?_ _ | (with_reducible refine Below.setCell ?_ ?_ _; rotate_left; focus (first | omega | (simp <;> omega))) | (with_reducible refine Below.alloc ?_ ?_ _; rotate_left; focus (first | omega | (simp <;> omega)))))
  have HB0 := Lib.hid b0
  have hI0 := hI.below b0
  have hR0 := hR.below b0
  have x0 : W0.cell? ⟨b, o, none⟩ = some (.int .i64 i0) := hI0.at_ 0 (by simp)
  have x1 : W0.cell? ⟨b, o + 1, none⟩ = some (.int .i64 i1) := hI0.at_ 1 (by simp)
  have x2 : W0.cell? ⟨b, o + 2, none⟩ = some (.int .i64 i2) := hI0.at_ 2 (by simp)
  have x3 : W0.cell? ⟨b, o + 3, none⟩ = some (.int .i64 i3) := hI0.at_ 3 (by simp)
  have y0 : W0.cell? ⟨rb, ro, none⟩ = some (.float .f32 r0) := by have := hR0.cell1 0 (by omega); rw [g0] at this; exact this
  have lb : b < W0.heap.size := hI0.lt (by simp)
  have lrb : rb < W0.heap.size := hR0.lt1 (by omega)
  have l0 : w.heap.size < W0.heap.size := A0.lt
  have l1 : w.heap.size + 1 < W0.heap.size := by subst hW0; simp
  obtain ⟨p0, p1, p2, p3⟩ := A0.cells
  clear b0 hI0 hR0 hI hR hW0 A0 hlen
  clear g0
  have q0 : W0.frozen? ⟨w.heap.size + 1, 0, none⟩ = false := frozen_of_row W0 _ 0 _ _ bk
  have d0 : W0.cell? ⟨w.heap.size + 1, 0, none⟩ = some (.int .i64 0) := cell_of_row W0 _ 0 _ _ _ bk
  have q1 : W0.frozen? ⟨w.heap.size + 1, 1, none⟩ = false := frozen_of_row W0 _ 1 _ _ bk
  have d1 : W0.cell? ⟨w.heap.size + 1, 1, none⟩ = some (.int .i64 0) := cell_of_row W0 _ 1 _ _ _ bk
  have q2 : W0.frozen? ⟨w.heap.size + 1, 2, none⟩ = false := frozen_of_row W0 _ 2 _ _ bk
  have d2 : W0.cell? ⟨w.heap.size + 1, 2, none⟩ = some (.int .i64 0) := cell_of_row W0 _ 2 _ _ _ bk
  have q3 : W0.frozen? ⟨w.heap.size + 1, 3, none⟩ = false := frozen_of_row W0 _ 3 _ _ bk
  have d3 : W0.cell? ⟨w.heap.size + 1, 3, none⟩ = some (.int .i64 0) := cell_of_row W0 _ 3 _ _ _ bk
  have q4 : W0.frozen? ⟨w.heap.size + 1, 4, none⟩ = false := frozen_of_row W0 _ 4 _ _ bk
  have d4 : W0.cell? ⟨w.heap.size + 1, 4, none⟩ = some (.float .f32 0) := cell_of_row W0 _ 4 _ _ _ bk
  have HK := Lib.hid bk
  clear bk
  go_still_tail 21, (by kernel_rfl)
  change wpList _ _ _ _ _ W0.drew
  go_wp2_with fail
  obtain ⟨e5, b5⟩ := st_5 (W := W0) HK.out (.int .i64 i0) (.int .i64 i1) (.int .i64 i2) (.int .i64 i3) (.float .f32 r0) _ rfl
  have b5 := b5.drew
  change (World.drew (((((W0.setCell ⟨w.heap.size + 1, 0, none⟩ (.int .i64 i0)).setCell ⟨w.heap.size + 1, 1, none⟩ (.int .i64 i1)).setCell ⟨w.heap.size + 1, 2, none⟩ (.int .i64 i2)).setCell ⟨w.heap.size + 1, 3, none⟩ (.int .i64 i3)).setCell ⟨w.heap.size + 1, 4, none⟩ (.float .f32 r0))).heap[w.heap.size + 1]? = _ at e5
  generalize World.drew (((((W0.setCell ⟨w.heap.size + 1, 0, none⟩ (.int .i64 i0)).setCell ⟨w.heap.size + 1, 1, none⟩ (.int .i64 i1)).setCell ⟨w.heap.size + 1, 2, none⟩ (.int .i64 i2)).setCell ⟨w.heap.size + 1, 3, none⟩ (.int .i64 i3)).setCell ⟨w.heap.size + 1, 4, none⟩ (.float .f32 r0)) = W5 at *
  have z0 : W5.cell? ⟨w.heap.size + 1, 0, none⟩ = some (.int .i64 i0) := cell_of_row W5 _ 0 _ _ _ e5
  have z1 : W5.cell? ⟨w.heap.size + 1, 1, none⟩ = some (.int .i64 i1) := cell_of_row W5 _ 1 _ _ _ e5
  have z2 : W5.cell? ⟨w.heap.size + 1, 2, none⟩ = some (.int .i64 i2) := cell_of_row W5 _ 2 _ _ _ e5
  have z3 : W5.cell? ⟨w.heap.size + 1, 3, none⟩ = some (.int .i64 i3) := cell_of_row W5 _ 3 _ _ _ e5
  have z4 : W5.cell? ⟨w.heap.size + 1, 4, none⟩ = some (.float .f32 r0) := cell_of_row W5 _ 4 _ _ _ e5
  have hb := HB0.out.trans (b5.mono (by omega))
  clear e5 b5 d0 d1 d2 d3 d4 q0 q1 q2 q3 q4 p0 p1 p2 p3
  exact bodyPost_ret (v := .agg #[.int .i64 i0, .int .i64 i1, .int .i64 i2, .int .i64 i3, .float .f32 r0]) (by simp [results, Tryz.results58, go_sem, *]) rfl ⟨rfl, hb⟩
set_option maxRecDepth 100000 in
set_option maxHeartbeats 1000000 in
theorem mk_fault (s : ByteArray) (ia : Option Addr) (nin cin b o cI rb ro nR cR : Nat) (i0 i1 i2 i3 : Int) (r0 : Nat) (l : List Nat) (w : World)
    (hI : ZRow w (some ⟨b, o, none⟩) [i0, i1, i2, i3]) (hR : SRow w (some ⟨rb, ro, none⟩) l) (hl : l = r0 :: l.drop 1) (hn : nR = l.length) :
    Calls Tryz.prog 26 #[ndV s ia nin cin (some ⟨b, o, none⟩) 4 cI (some ⟨rb, ro, none⟩) nR cR] w fun e w' => e = .returned (.agg #[.int .i64 i0, .int .i64 i1, .int .i64 i2, .int .i64 i3, .float .f32 r0]) ∧ Below w.heap.size w w' := by
  have hlen : 0 < l.length := by rw [hl]; simp
  have g0 : l.getD 0 0 = r0 := by rw [hl]; rfl
  have hnr : 0 < nR := by omega
  have hnr0 : 0 < nR := by omega
  have HN := Lib.hid hn
  clear hl hn
  go_enter Tryz.func26, Tryz.ntmps26
  go_upto_region 1 with fail
  generalize hW0 : (w.alloc (.cells #[.string s, .slice ia nin cin, .slice (some ⟨b, o, none⟩) 4 cI, .slice (some ⟨rb, ro, none⟩) nR cR] 25)).alloc (.cells #[.int .i64 0, .int .i64 0, .int .i64 0, .int .i64 0, .float .f32 0] 60) = W0
  have A0 : NdAt W0 w.heap.size s ia nin cin (some ⟨b, o, none⟩) 4 cI (some ⟨rb, ro, none⟩) nR cR := by
    subst hW0
    exact (NdAt.new _ _ _ _ _ _ _ _ _ _ _).below ((Below.refl (w.heap.size + 1) _).alloc (by simp) _) (by omega)
  have bk : W0.heap[w.heap.size + 1]? = some (.cells #[.int .i64 0, .int .i64 0, .int .i64 0, .int .i64 0, .float .f32 0] 60 (0, 0)) := by
    subst hW0
    have := heap_alloc_new (w.alloc (.cells #[.string s, .slice ia nin cin, .slice (some ⟨b, o, none⟩) 4 cI, .slice (some ⟨rb, ro, none⟩) nR cR] 25)) (.cells #[.int .i64 0, .int .i64 0, .int .i64 0, .int .i64 0, .float .f32 0] 60)
    simpa using this
  have b0 : Below w.heap.size w W0 := by subst hW0; exact (by repeat (first | with_reducible exact Below.refl _ _ | with_reducible apply Below.drew | with_reducible refine below_drewN ?_ _ | (with_reducible refine Below.setCell ?_ ?_ _; rotate_left; focus (first | omega | (simp <;> omega))) | (with_reducible refine Below.alloc ?_ ?_ _; rotate_left; focus (first | omega | (simp <;> omega)))))
  have HB0 := Lib.hid b0
  have hI0 := hI.below b0
  have hR0 := hR.below b0
  have x0 : W0.cell? ⟨b, o, none⟩ = some (.int .i64 i0) := hI0.at_ 0 (by simp)
  have x1 : W0.cell? ⟨b, o + 1, none⟩ = some (.int .i64 i1) := hI0.at_ 1 (by simp)
  have x2 : W0.cell? ⟨b, o + 2, none⟩ = some (.int .i64 i2) := hI0.at_ 2 (by simp)
  have x3 : W0.cell? ⟨b, o + 3, none⟩ = some (.int .i64 i3) := hI0.at_ 3 (by simp)
  have y0 : W0.cell? ⟨rb, ro, none⟩ = some (.float .f32 r0) := by have := hR0.cell1 0 (by omega); rw [g0] at this; exact this
  have lb : b < W0.heap.size := hI0.lt (by simp)
  have lrb : rb < W0.heap.size := hR0.lt1 (by omega)
  have l0 : w.heap.size < W0.heap.size := A0.lt
  have l1 : w.heap.size + 1 < W0.heap.size := by subst hW0; simp
  obtain ⟨p0, p1, p2, p3⟩ := A0.cells
  clear b0 hI0 hR0 hI hR hW0 A0 hlen
  clear g0
  have q0 : W0.frozen? ⟨w.heap.size + 1, 0, none⟩ = false := frozen_of_row W0 _ 0 _ _ bk
  have d0 : W0.cell? ⟨w.heap.size + 1, 0, none⟩ = some (.int .i64 0) := cell_of_row W0 _ 0 _ _ _ bk
  have q1 : W0.frozen? ⟨w.heap.size + 1, 1, none⟩ = false := frozen_of_row W0 _ 1 _ _ bk
  have d1 : W0.cell? ⟨w.heap.size + 1, 1, none⟩ = some (.int .i64 0) := cell_of_row W0 _ 1 _ _ _ bk
  have q2 : W0.frozen? ⟨w.heap.size + 1, 2, none⟩ = false := frozen_of_row W0 _ 2 _ _ bk
  have d2 : W0.cell? ⟨w.heap.size + 1, 2, none⟩ = some (.int .i64 0) := cell_of_row W0 _ 2 _ _ _ bk
  have q3 : W0.frozen? ⟨w.heap.size + 1, 3, none⟩ = false := frozen_of_row W0 _ 3 _ _ bk
  have d3 : W0.cell? ⟨w.heap.size + 1, 3, none⟩ = some (.int .i64 0) := cell_of_row W0 _ 3 _ _ _ bk
  have q4 : W0.frozen? ⟨w.heap.size + 1, 4, none⟩ = false := frozen_of_row W0 _ 4 _ _ bk
  have d4 : W0.cell? ⟨w.heap.size + 1, 4, none⟩ = some (.float .f32 0) := cell_of_row W0 _ 4 _ _ _ bk
  have HK := Lib.hid bk
  clear bk
  go_still_tail 21, (by kernel_rfl)
  change wpList _ _ _ _ _ W0.drew
  go_wp2_with fail
  obtain ⟨e5, b5⟩ := st_5 (W := W0) HK.out (.int .i64 i0) (.int .i64 i1) (.int .i64 i2) (.int .i64 i3) (.float .f32 r0) _ rfl
  have b5 := b5.drew
  change (World.drew (((((W0.setCell ⟨w.heap.size + 1, 0, none⟩ (.int .i64 i0)).setCell ⟨w.heap.size + 1, 1, none⟩ (.int .i64 i1)).setCell ⟨w.heap.size + 1, 2, none⟩ (.int .i64 i2)).setCell ⟨w.heap.size + 1, 3, none⟩ (.int .i64 i3)).setCell ⟨w.heap.size + 1, 4, none⟩ (.float .f32 r0))).heap[w.heap.size + 1]? = _ at e5
  generalize World.drew (((((W0.setCell ⟨w.heap.size + 1, 0, none⟩ (.int .i64 i0)).setCell ⟨w.heap.size + 1, 1, none⟩ (.int .i64 i1)).setCell ⟨w.heap.size + 1, 2, none⟩ (.int .i64 i2)).setCell ⟨w.heap.size + 1, 3, none⟩ (.int .i64 i3)).setCell ⟨w.heap.size + 1, 4, none⟩ (.float .f32 r0)) = W5 at *
  have z0 : W5.cell? ⟨w.heap.size + 1, 0, none⟩ = some (.int .i64 i0) := cell_of_row W5 _ 0 _ _ _ e5
  have z1 : W5.cell? ⟨w.heap.size + 1, 1, none⟩ = some (.int .i64 i1) := cell_of_row W5 _ 1 _ _ _ e5
  have z2 : W5.cell? ⟨w.heap.size + 1, 2, none⟩ = some (.int .i64 i2) := cell_of_row W5 _ 2 _ _ _ e5
  have z3 : W5.cell? ⟨w.heap.size + 1, 3, none⟩ = some (.int .i64 i3) := cell_of_row W5 _ 3 _ _ _ e5
  have z4 : W5.cell? ⟨w.heap.size + 1, 4, none⟩ = some (.float .f32 r0) := cell_of_row W5 _ 4 _ _ _ e5
  have hb := HB0.out.trans (b5.mono (by omega))
  clear e5 b5 d0 d1 d2 d3 d4 q0 q1 q2 q3 q4 p0 p1 p2 p3
  exact bodyPost_ret (v := .agg #[.int .i64 i0, .int .i64 i1, .int .i64 i2, .int .i64 i3, .float .f32 r0]) (by simp [results, Tryz.results26, go_sem, *]) rfl ⟨rfl, hb⟩
set_option maxRecDepth 100000 in
set_option maxHeartbeats 1000000 in
theorem refmk_fault (s : ByteArray) (ia : Option Addr) (nin cin b o cI rb ro nR cR : Nat) (i0 i1 i2 i3 : Int) (r0 : Nat) (l : List Nat) (w : World)
    (hI : ZRow w (some ⟨b, o, none⟩) [i0, i1, i2, i3]) (hR : SRow w (some ⟨rb, ro, none⟩) l) (hl : l = r0 :: l.drop 1) (hn : nR = l.length) :
    Calls Tryz.prog 60 #[ndV s ia nin cin (some ⟨b, o, none⟩) 4 cI (some ⟨rb, ro, none⟩) nR cR] w fun e w' => e = .returned (.agg #[.int .i64 i0, .int .i64 i1, .int .i64 i2, .int .i64 i3, .float .f32 r0]) ∧ Below w.heap.size w w' := by
  have hlen : 0 < l.length := by rw [hl]; simp
  have g0 : l.getD 0 0 = r0 := by rw [hl]; rfl
  have hnr : 0 < nR := by omega
  have hnr0 : 0 < nR := by omega
  have HN := Lib.hid hn
  clear hl hn
  go_enter Tryz.func60, Tryz.ntmps60
  go_upto_region 1 with fail
  generalize hW0 : (w.alloc (.cells #[.string s, .slice ia nin cin, .slice (some ⟨b, o, none⟩) 4 cI, .slice (some ⟨rb, ro, none⟩) nR cR] 25)).alloc (.cells #[.int .i64 0, .int .i64 0, .int .i64 0, .int .i64 0, .float .f32 0] 60) = W0
  have A0 : NdAt W0 w.heap.size s ia nin cin (some ⟨b, o, none⟩) 4 cI (some ⟨rb, ro, none⟩) nR cR := by
    subst hW0
    exact (NdAt.new _ _ _ _ _ _ _ _ _ _ _).below ((Below.refl (w.heap.size + 1) _).alloc (by simp) _) (by omega)
  have bk : W0.heap[w.heap.size + 1]? = some (.cells #[.int .i64 0, .int .i64 0, .int .i64 0, .int .i64 0, .float .f32 0] 60 (0, 0)) := by
    subst hW0
    have := heap_alloc_new (w.alloc (.cells #[.string s, .slice ia nin cin, .slice (some ⟨b, o, none⟩) 4 cI, .slice (some ⟨rb, ro, none⟩) nR cR] 25)) (.cells #[.int .i64 0, .int .i64 0, .int .i64 0, .int .i64 0, .float .f32 0] 60)
    simpa using this
  have b0 : Below w.heap.size w W0 := by subst hW0; exact (by repeat (first | with_reducible exact Below.refl _ _ | with_reducible apply Below.drew | with_reducible refine below_drewN ?_ _ | (with_reducible refine Below.setCell ?_ ?_ _; rotate_left; focus (first | omega | (simp <;> omega))) | (with_reducible refine Below.alloc ?_ ?_ _; rotate_left; focus (first | omega | (simp <;> omega)))))
  have HB0 := Lib.hid b0
  have hI0 := hI.below b0
  have hR0 := hR.below b0
  have x0 : W0.cell? ⟨b, o, none⟩ = some (.int .i64 i0) := hI0.at_ 0 (by simp)
  have x1 : W0.cell? ⟨b, o + 1, none⟩ = some (.int .i64 i1) := hI0.at_ 1 (by simp)
  have x2 : W0.cell? ⟨b, o + 2, none⟩ = some (.int .i64 i2) := hI0.at_ 2 (by simp)
  have x3 : W0.cell? ⟨b, o + 3, none⟩ = some (.int .i64 i3) := hI0.at_ 3 (by simp)
  have y0 : W0.cell? ⟨rb, ro, none⟩ = some (.float .f32 r0) := by have := hR0.cell1 0 (by omega); rw [g0] at this; exact this
  have lb : b < W0.heap.size := hI0.lt (by simp)
  have lrb : rb < W0.heap.size := hR0.lt1 (by omega)
  have l0 : w.heap.size < W0.heap.size := A0.lt
  have l1 : w.heap.size + 1 < W0.heap.size := by subst hW0; simp
  obtain ⟨p0, p1, p2, p3⟩ := A0.cells
  clear b0 hI0 hR0 hI hR hW0 A0 hlen
  clear g0
  have q0 : W0.frozen? ⟨w.heap.size + 1, 0, none⟩ = false := frozen_of_row W0 _ 0 _ _ bk
  have d0 : W0.cell? ⟨w.heap.size + 1, 0, none⟩ = some (.int .i64 0) := cell_of_row W0 _ 0 _ _ _ bk
  have q1 : W0.frozen? ⟨w.heap.size + 1, 1, none⟩ = false := frozen_of_row W0 _ 1 _ _ bk
  have d1 : W0.cell? ⟨w.heap.size + 1, 1, none⟩ = some (.int .i64 0) := cell_of_row W0 _ 1 _ _ _ bk
  have q2 : W0.frozen? ⟨w.heap.size + 1, 2, none⟩ = false := frozen_of_row W0 _ 2 _ _ bk
  have d2 : W0.cell? ⟨w.heap.size + 1, 2, none⟩ = some (.int .i64 0) := cell_of_row W0 _ 2 _ _ _ bk
  have q3 : W0.frozen? ⟨w.heap.size + 1, 3, none⟩ = false := frozen_of_row W0 _ 3 _ _ bk
  have d3 : W0.cell? ⟨w.heap.size + 1, 3, none⟩ = some (.int .i64 0) := cell_of_row W0 _ 3 _ _ _ bk
  have q4 : W0.frozen? ⟨w.heap.size + 1, 4, none⟩ = false := frozen_of_row W0 _ 4 _ _ bk
  have d4 : W0.cell? ⟨w.heap.size + 1, 4, none⟩ = some (.float .f32 0) := cell_of_row W0 _ 4 _ _ _ bk
  have HK := Lib.hid bk
  clear bk
  go_still_tail 21, (by kernel_rfl)
  change wpList _ _ _ _ _ W0.drew
  go_wp2_with fail
  obtain ⟨e5, b5⟩ := st_5 (W := W0) HK.out (.int .i64 i0) (.int .i64 i1) (.int .i64 i2) (.int .i64 i3) (.float .f32 r0) _ rfl
  have b5 := b5.drew
  change (World.drew (((((W0.setCell ⟨w.heap.size + 1, 0, none⟩ (.int .i64 i0)).setCell ⟨w.heap.size + 1, 1, none⟩ (.int .i64 i1)).setCell ⟨w.heap.size + 1, 2, none⟩ (.int .i64 i2)).setCell ⟨w.heap.size + 1, 3, none⟩ (.int .i64 i3)).setCell ⟨w.heap.size + 1, 4, none⟩ (.float .f32 r0))).heap[w.heap.size + 1]? = _ at e5
  generalize World.drew (((((W0.setCell ⟨w.heap.size + 1, 0, none⟩ (.int .i64 i0)).setCell ⟨w.heap.size + 1, 1, none⟩ (.int .i64 i1)).setCell ⟨w.heap.size + 1, 2, none⟩ (.int .i64 i2)).setCell ⟨w.heap.size + 1, 3, none⟩ (.int .i64 i3)).setCell ⟨w.heap.size + 1, 4, none⟩ (.float .f32 r0)) = W5 at *
  have z0 : W5.cell? ⟨w.heap.size + 1, 0, none⟩ = some (.int .i64 i0) := cell_of_row W5 _ 0 _ _ _ e5
  have z1 : W5.cell? ⟨w.heap.size + 1, 1, none⟩ = some (.int .i64 i1) := cell_of_row W5 _ 1 _ _ _ e5
  have z2 : W5.cell? ⟨w.heap.size + 1, 2, none⟩ = some (.int .i64 i2) := cell_of_row W5 _ 2 _ _ _ e5
  have z3 : W5.cell? ⟨w.heap.size + 1, 3, none⟩ = some (.int .i64 i3) := cell_of_row W5 _ 3 _ _ _ e5
  have z4 : W5.cell? ⟨w.heap.size + 1, 4, none⟩ = some (.float .f32 r0) := cell_of_row W5 _ 4 _ _ _ e5
  have hb := HB0.out.trans (b5.mono (by omega))
  clear e5 b5 d0 d1 d2 d3 d4 q0 q1 q2 q3 q4 p0 p1 p2 p3
  exact bodyPost_ret (v := .agg #[.int .i64 i0, .int .i64 i1, .int .i64 i2, .int .i64 i3, .float .f32 r0]) (by simp [results, Tryz.results60, go_sem, *]) rfl ⟨rfl, hb⟩
set_option maxRecDepth 100000 in
set_option maxHeartbeats 1000000 in
theorem mk_fold (s : ByteArray) (ia : Option Addr) (nin cin b o cI rb ro nR cR : Nat) (i0 i1 i2 : Int) (r0 : Nat) (l : List Nat) (w : World)
    (hI : ZRow w (some ⟨b, o, none⟩) [i0, i1, i2]) (hR : SRow w (some ⟨rb, ro, none⟩) l) (hl : l = r0 :: l.drop 1) (hn : nR = l.length) :
    Calls Tryz.prog 28 #[ndV s ia nin cin (some ⟨b, o, none⟩) 3 cI (some ⟨rb, ro, none⟩) nR cR] w fun e w' => e = .returned (.agg #[.int .i64 i0, .int .i64 i1, .int .i64 i2, .float .f32 r0]) ∧ Below w.heap.size w w' := by
  have hlen : 0 < l.length := by rw [hl]; simp
  have g0 : l.getD 0 0 = r0 := by rw [hl]; rfl
  have hnr : 0 < nR := by omega
  have hnr0 : 0 < nR := by omega
  have HN := Lib.hid hn
  clear hl hn
  go_enter Tryz.func28, Tryz.ntmps28
  go_upto_region 1 with fail
  generalize hW0 : (w.alloc (.cells #[.string s, .slice ia nin cin, .slice (some ⟨b, o, none⟩) 3 cI, .slice (some ⟨rb, ro, none⟩) nR cR] 25)).alloc (.cells #[.int .i64 0, .int .i64 0, .int .i64 0, .float .f32 0] 64) = W0
  have A0 : NdAt W0 w.heap.size s ia nin cin (some ⟨b, o, none⟩) 3 cI (some ⟨rb, ro, none⟩) nR cR := by
    subst hW0
    exact (NdAt.new _ _ _ _ _ _ _ _ _ _ _).below ((Below.refl (w.heap.size + 1) _).alloc (by simp) _) (by omega)
  have bk : W0.heap[w.heap.size + 1]? = some (.cells #[.int .i64 0, .int .i64 0, .int .i64 0, .float .f32 0] 64 (0, 0)) := by
    subst hW0
    have := heap_alloc_new (w.alloc (.cells #[.string s, .slice ia nin cin, .slice (some ⟨b, o, none⟩) 3 cI, .slice (some ⟨rb, ro, none⟩) nR cR] 25)) (.cells #[.int .i64 0, .int .i64 0, .int .i64 0, .float .f32 0] 64)
    simpa using this
  have b0 : Below w.heap.size w W0 := by subst hW0; exact (by repeat (first | with_reducible exact Below.refl _ _ | with_reducible apply Below.drew | with_reducible refine below_drewN ?_ _ | (with_reducible refine Below.setCell ?_ ?_ _; rotate_left; focus (first | omega | (simp <;> omega))) | (with_reducible refine Below.alloc ?_ ?_ _; rotate_left; focus (first | omega | (simp <;> omega)))))
  have HB0 := Lib.hid b0
  have hI0 := hI.below b0
  have hR0 := hR.below b0
  have x0 : W0.cell? ⟨b, o, none⟩ = some (.int .i64 i0) := hI0.at_ 0 (by simp)
  have x1 : W0.cell? ⟨b, o + 1, none⟩ = some (.int .i64 i1) := hI0.at_ 1 (by simp)
  have x2 : W0.cell? ⟨b, o + 2, none⟩ = some (.int .i64 i2) := hI0.at_ 2 (by simp)
  have y0 : W0.cell? ⟨rb, ro, none⟩ = some (.float .f32 r0) := by have := hR0.cell1 0 (by omega); rw [g0] at this; exact this
  have lb : b < W0.heap.size := hI0.lt (by simp)
  have lrb : rb < W0.heap.size := hR0.lt1 (by omega)
  have l0 : w.heap.size < W0.heap.size := A0.lt
  have l1 : w.heap.size + 1 < W0.heap.size := by subst hW0; simp
  obtain ⟨p0, p1, p2, p3⟩ := A0.cells
  clear b0 hI0 hR0 hI hR hW0 A0 hlen
  clear g0
  have q0 : W0.frozen? ⟨w.heap.size + 1, 0, none⟩ = false := frozen_of_row W0 _ 0 _ _ bk
  have d0 : W0.cell? ⟨w.heap.size + 1, 0, none⟩ = some (.int .i64 0) := cell_of_row W0 _ 0 _ _ _ bk
  have q1 : W0.frozen? ⟨w.heap.size + 1, 1, none⟩ = false := frozen_of_row W0 _ 1 _ _ bk
  have d1 : W0.cell? ⟨w.heap.size + 1, 1, none⟩ = some (.int .i64 0) := cell_of_row W0 _ 1 _ _ _ bk
  have q2 : W0.frozen? ⟨w.heap.size + 1, 2, none⟩ = false := frozen_of_row W0 _ 2 _ _ bk
  have d2 : W0.cell? ⟨w.heap.size + 1, 2, none⟩ = some (.int .i64 0) := cell_of_row W0 _ 2 _ _ _ bk
  have q3 : W0.frozen? ⟨w.heap.size + 1, 3, none⟩ = false := frozen_of_row W0 _ 3 _ _ bk
  have d3 : W0.cell? ⟨w.heap.size + 1, 3, none⟩ = some (.float .f32 0) := cell_of_row W0 _ 3 _ _ _ bk
  have HK := Lib.hid bk
  clear bk
  go_still_tail 17, (by kernel_rfl)
  change wpList _ _ _ _ _ W0.drew
  go_wp2_with fail
  obtain ⟨e5, b5⟩ := st_4 (W := W0) HK.out (.int .i64 i0) (.int .i64 i1) (.int .i64 i2) (.float .f32 r0) _ rfl
  have b5 := b5.drew
  change (World.drew ((((W0.setCell ⟨w.heap.size + 1, 0, none⟩ (.int .i64 i0)).setCell ⟨w.heap.size + 1, 1, none⟩ (.int .i64 i1)).setCell ⟨w.heap.size + 1, 2, none⟩ (.int .i64 i2)).setCell ⟨w.heap.size + 1, 3, none⟩ (.float .f32 r0))).heap[w.heap.size + 1]? = _ at e5
  generalize World.drew ((((W0.setCell ⟨w.heap.size + 1, 0, none⟩ (.int .i64 i0)).setCell ⟨w.heap.size + 1, 1, none⟩ (.int .i64 i1)).setCell ⟨w.heap.size + 1, 2, none⟩ (.int .i64 i2)).setCell ⟨w.heap.size + 1, 3, none⟩ (.float .f32 r0)) = W5 at *
  have z0 : W5.cell? ⟨w.heap.size + 1, 0, none⟩ = some (.int .i64 i0) := cell_of_row W5 _ 0 _ _ _ e5
  have z1 : W5.cell? ⟨w.heap.size + 1, 1, none⟩ = some (.int .i64 i1) := cell_of_row W5 _ 1 _ _ _ e5
  have z2 : W5.cell? ⟨w.heap.size + 1, 2, none⟩ = some (.int .i64 i2) := cell_of_row W5 _ 2 _ _ _ e5
  have z3 : W5.cell? ⟨w.heap.size + 1, 3, none⟩ = some (.float .f32 r0) := cell_of_row W5 _ 3 _ _ _ e5
  have hb := HB0.out.trans (b5.mono (by omega))
  clear e5 b5 d0 d1 d2 d3 q0 q1 q2 q3 p0 p1 p2 p3
  exact bodyPost_ret (v := .agg #[.int .i64 i0, .int .i64 i1, .int .i64 i2, .float .f32 r0]) (by simp [results, Tryz.results28, go_sem, *]) rfl ⟨rfl, hb⟩
set_option maxRecDepth 100000 in
set_option maxHeartbeats 1000000 in
theorem refmk_fold (s : ByteArray) (ia : Option Addr) (nin cin b o cI rb ro nR cR : Nat) (i0 i1 i2 : Int) (r0 : Nat) (l : List Nat) (w : World)
    (hI : ZRow w (some ⟨b, o, none⟩) [i0, i1, i2]) (hR : SRow w (some ⟨rb, ro, none⟩) l) (hl : l = r0 :: l.drop 1) (hn : nR = l.length) :
    Calls Tryz.prog 62 #[ndV s ia nin cin (some ⟨b, o, none⟩) 3 cI (some ⟨rb, ro, none⟩) nR cR] w fun e w' => e = .returned (.agg #[.int .i64 i0, .int .i64 i1, .int .i64 i2, .float .f32 r0]) ∧ Below w.heap.size w w' := by
  have hlen : 0 < l.length := by rw [hl]; simp
  have g0 : l.getD 0 0 = r0 := by rw [hl]; rfl
  have hnr : 0 < nR := by omega
  have hnr0 : 0 < nR := by omega
  have HN := Lib.hid hn
  clear hl hn
  go_enter Tryz.func62, Tryz.ntmps62
  go_upto_region 1 with fail
  generalize hW0 : (w.alloc (.cells #[.string s, .slice ia nin cin, .slice (some ⟨b, o, none⟩) 3 cI, .slice (some ⟨rb, ro, none⟩) nR cR] 25)).alloc (.cells #[.int .i64 0, .int .i64 0, .int .i64 0, .float .f32 0] 64) = W0
  have A0 : NdAt W0 w.heap.size s ia nin cin (some ⟨b, o, none⟩) 3 cI (some ⟨rb, ro, none⟩) nR cR := by
    subst hW0
    exact (NdAt.new _ _ _ _ _ _ _ _ _ _ _).below ((Below.refl (w.heap.size + 1) _).alloc (by simp) _) (by omega)
  have bk : W0.heap[w.heap.size + 1]? = some (.cells #[.int .i64 0, .int .i64 0, .int .i64 0, .float .f32 0] 64 (0, 0)) := by
    subst hW0
    have := heap_alloc_new (w.alloc (.cells #[.string s, .slice ia nin cin, .slice (some ⟨b, o, none⟩) 3 cI, .slice (some ⟨rb, ro, none⟩) nR cR] 25)) (.cells #[.int .i64 0, .int .i64 0, .int .i64 0, .float .f32 0] 64)
    simpa using this
  have b0 : Below w.heap.size w W0 := by subst hW0; exact (by repeat (first | with_reducible exact Below.refl _ _ | with_reducible apply Below.drew | with_reducible refine below_drewN ?_ _ | (with_reducible refine Below.setCell ?_ ?_ _; rotate_left; focus (first | omega | (simp <;> omega))) | (with_reducible refine Below.alloc ?_ ?_ _; rotate_left; focus (first | omega | (simp <;> omega)))))
  have HB0 := Lib.hid b0
  have hI0 := hI.below b0
  have hR0 := hR.below b0
  have x0 : W0.cell? ⟨b, o, none⟩ = some (.int .i64 i0) := hI0.at_ 0 (by simp)
  have x1 : W0.cell? ⟨b, o + 1, none⟩ = some (.int .i64 i1) := hI0.at_ 1 (by simp)
  have x2 : W0.cell? ⟨b, o + 2, none⟩ = some (.int .i64 i2) := hI0.at_ 2 (by simp)
  have y0 : W0.cell? ⟨rb, ro, none⟩ = some (.float .f32 r0) := by have := hR0.cell1 0 (by omega); rw [g0] at this; exact this
  have lb : b < W0.heap.size := hI0.lt (by simp)
  have lrb : rb < W0.heap.size := hR0.lt1 (by omega)
  have l0 : w.heap.size < W0.heap.size := A0.lt
  have l1 : w.heap.size + 1 < W0.heap.size := by subst hW0; simp
  obtain ⟨p0, p1, p2, p3⟩ := A0.cells
  clear b0 hI0 hR0 hI hR hW0 A0 hlen
  clear g0
  have q0 : W0.frozen? ⟨w.heap.size + 1, 0, none⟩ = false := frozen_of_row W0 _ 0 _ _ bk
  have d0 : W0.cell? ⟨w.heap.size + 1, 0, none⟩ = some (.int .i64 0) := cell_of_row W0 _ 0 _ _ _ bk
  have q1 : W0.frozen? ⟨w.heap.size + 1, 1, none⟩ = false := frozen_of_row W0 _ 1 _ _ bk
  have d1 : W0.cell? ⟨w.heap.size + 1, 1, none⟩ = some (.int .i64 0) := cell_of_row W0 _ 1 _ _ _ bk
  have q2 : W0.frozen? ⟨w.heap.size + 1, 2, none⟩ = false := frozen_of_row W0 _ 2 _ _ bk
  have d2 : W0.cell? ⟨w.heap.size + 1, 2, none⟩ = some (.int .i64 0) := cell_of_row W0 _ 2 _ _ _ bk
  have q3 : W0.frozen? ⟨w.heap.size + 1, 3, none⟩ = false := frozen_of_row W0 _ 3 _ _ bk
  have d3 : W0.cell? ⟨w.heap.size + 1, 3, none⟩ = some (.float .f32 0) := cell_of_row W0 _ 3 _ _ _ bk
  have HK := Lib.hid bk
  clear bk
  go_still_tail 17, (by kernel_rfl)
  change wpList _ _ _ _ _ W0.drew
  go_wp2_with fail
  obtain ⟨e5, b5⟩ := st_4 (W := W0) HK.out (.int .i64 i0) (.int .i64 i1) (.int .i64 i2) (.float .f32 r0) _ rfl
  have b5 := b5.drew
  change (World.drew ((((W0.setCell ⟨w.heap.size + 1, 0, none⟩ (.int .i64 i0)).setCell ⟨w.heap.size + 1, 1, none⟩ (.int .i64 i1)).setCell ⟨w.heap.size + 1, 2, none⟩ (.int .i64 i2)).setCell ⟨w.heap.size + 1, 3, none⟩ (.float .f32 r0))).heap[w.heap.size + 1]? = _ at e5
  generalize World.drew ((((W0.setCell ⟨w.heap.size + 1, 0, none⟩ (.int .i64 i0)).setCell ⟨w.heap.size + 1, 1, none⟩ (.int .i64 i1)).setCell ⟨w.heap.size + 1, 2, none⟩ (.int .i64 i2)).setCell ⟨w.heap.size + 1, 3, none⟩ (.float .f32 r0)) = W5 at *
  have z0 : W5.cell? ⟨w.heap.size + 1, 0, none⟩ = some (.int .i64 i0) := cell_of_row W5 _ 0 _ _ _ e5
  have z1 : W5.cell? ⟨w.heap.size + 1, 1, none⟩ = some (.int .i64 i1) := cell_of_row W5 _ 1 _ _ _ e5
  have z2 : W5.cell? ⟨w.heap.size + 1, 2, none⟩ = some (.int .i64 i2) := cell_of_row W5 _ 2 _ _ _ e5
  have z3 : W5.cell? ⟨w.heap.size + 1, 3, none⟩ = some (.float .f32 r0) := cell_of_row W5 _ 3 _ _ _ e5
  have hb := HB0.out.trans (b5.mono (by omega))
  clear e5 b5 d0 d1 d2 d3 q0 q1 q2 q3 p0 p1 p2 p3
  exact bodyPost_ret (v := .agg #[.int .i64 i0, .int .i64 i1, .int .i64 i2, .float .f32 r0]) (by simp [results, Tryz.results62, go_sem, *]) rfl ⟨rfl, hb⟩
set_option maxRecDepth 100000 in
set_option maxHeartbeats 1000000 in
theorem mk_wear (s : ByteArray) (ia : Option Addr) (nin cin b o cI rb ro nR cR : Nat) (i0 : Int) (r0 r1 : Nat) (l : List Nat) (w : World)
    (hI : ZRow w (some ⟨b, o, none⟩) [i0]) (hR : SRow w (some ⟨rb, ro, none⟩) l) (hl : l = r0 :: r1 :: l.drop 2) (hn : nR = l.length) :
    Calls Tryz.prog 30 #[ndV s ia nin cin (some ⟨b, o, none⟩) 1 cI (some ⟨rb, ro, none⟩) nR cR] w fun e w' => e = .returned (.agg #[.float .f32 r0, .float .f32 r1, .int .i64 i0]) ∧ Below w.heap.size w w' := by
  have hlen : 1 < l.length := by rw [hl]; simp
  have g0 : l.getD 0 0 = r0 := by rw [hl]; rfl
  have g1 : l.getD 1 0 = r1 := by rw [hl]; rfl
  have hnr : 1 < nR := by omega
  have hnr0 : 0 < nR := by omega
  have HN := Lib.hid hn
  clear hl hn
  go_enter Tryz.func30, Tryz.ntmps30
  go_upto_region 1 with fail
  generalize hW0 : (w.alloc (.cells #[.string s, .slice ia nin cin, .slice (some ⟨b, o, none⟩) 1 cI, .slice (some ⟨rb, ro, none⟩) nR cR] 25)).alloc (.cells #[.float .f32 0, .float .f32 0, .int .i64 0] 68) = W0
  have A0 : NdAt W0 w.heap.size s ia nin cin (some ⟨b, o, none⟩) 1 cI (some ⟨rb, ro, none⟩) nR cR := by
    subst hW0
    exact (NdAt.new _ _ _ _ _ _ _ _ _ _ _).below ((Below.refl (w.heap.size + 1) _).alloc (by simp) _) (by omega)
  have bk : W0.heap[w.heap.size + 1]? = some (.cells #[.float .f32 0, .float .f32 0, .int .i64 0] 68 (0, 0)) := by
    subst hW0
    have := heap_alloc_new (w.alloc (.cells #[.string s, .slice ia nin cin, .slice (some ⟨b, o, none⟩) 1 cI, .slice (some ⟨rb, ro, none⟩) nR cR] 25)) (.cells #[.float .f32 0, .float .f32 0, .int .i64 0] 68)
    simpa using this
  have b0 : Below w.heap.size w W0 := by subst hW0; exact (by repeat (first | with_reducible exact Below.refl _ _ | with_reducible apply Below.drew | with_reducible refine below_drewN ?_ _ | (with_reducible refine Below.setCell ?_ ?_ _; rotate_left; focus (first | omega | (simp <;> omega))) | (with_reducible refine Below.alloc ?_ ?_ _; rotate_left; focus (first | omega | (simp <;> omega)))))
  have HB0 := Lib.hid b0
  have hI0 := hI.below b0
  have hR0 := hR.below b0
  have hnri : (1 : Int) < (nR : Int) := by omega
  have x0 : W0.cell? ⟨b, o, none⟩ = some (.int .i64 i0) := hI0.at_ 0 (by simp)
  have y0 : W0.cell? ⟨rb, ro, none⟩ = some (.float .f32 r0) := by have := hR0.cell1 0 (by omega); rw [g0] at this; exact this
  have y1 : W0.cell? ⟨rb, ro + 1, none⟩ = some (.float .f32 r1) := by have := hR0.cell1 1 (by omega); rw [g1] at this; exact this
  have lb : b < W0.heap.size := hI0.lt (by simp)
  have lrb : rb < W0.heap.size := hR0.lt1 (by omega)
  have l0 : w.heap.size < W0.heap.size := A0.lt
  have l1 : w.heap.size + 1 < W0.heap.size := by subst hW0; simp
  obtain ⟨p0, p1, p2, p3⟩ := A0.cells
  clear b0 hI0 hR0 hI hR hW0 A0 hlen
  clear g0
  clear g1
  have q0 : W0.frozen? ⟨w.heap.size + 1, 0, none⟩ = false := frozen_of_row W0 _ 0 _ _ bk
  have d0 : W0.cell? ⟨w.heap.size + 1, 0, none⟩ = some (.float .f32 0) := cell_of_row W0 _ 0 _ _ _ bk
  have q1 : W0.frozen? ⟨w.heap.size + 1, 1, none⟩ = false := frozen_of_row W0 _ 1 _ _ bk
  have d1 : W0.cell? ⟨w.heap.size + 1, 1, none⟩ = some (.float .f32 0) := cell_of_row W0 _ 1 _ _ _ bk
  have q2 : W0.frozen? ⟨w.heap.size + 1, 2, none⟩ = false := frozen_of_row W0 _ 2 _ _ bk
  have d2 : W0.cell? ⟨w.heap.size + 1, 2, none⟩ = some (.int .i64 0) := cell_of_row W0 _ 2 _ _ _ bk
  have HK := Lib.hid bk
  clear bk
  go_still_tail 13, (by kernel_rfl)
  change wpList _ _ _ _ _ W0.drew
  go_wp2_with fail
  obtain ⟨e5, b5⟩ := st_3 (W := W0) HK.out (.float .f32 r0) (.float .f32 r1) (.int .i64 i0) _ rfl
  have b5 := b5.drew
  change (World.drew (((W0.setCell ⟨w.heap.size + 1, 0, none⟩ (.float .f32 r0)).setCell ⟨w.heap.size + 1, 1, none⟩ (.float .f32 r1)).setCell ⟨w.heap.size + 1, 2, none⟩ (.int .i64 i0))).heap[w.heap.size + 1]? = _ at e5
  generalize World.drew (((W0.setCell ⟨w.heap.size + 1, 0, none⟩ (.float .f32 r0)).setCell ⟨w.heap.size + 1, 1, none⟩ (.float .f32 r1)).setCell ⟨w.heap.size + 1, 2, none⟩ (.int .i64 i0)) = W5 at *
  have z0 : W5.cell? ⟨w.heap.size + 1, 0, none⟩ = some (.float .f32 r0) := cell_of_row W5 _ 0 _ _ _ e5
  have z1 : W5.cell? ⟨w.heap.size + 1, 1, none⟩ = some (.float .f32 r1) := cell_of_row W5 _ 1 _ _ _ e5
  have z2 : W5.cell? ⟨w.heap.size + 1, 2, none⟩ = some (.int .i64 i0) := cell_of_row W5 _ 2 _ _ _ e5
  have hb := HB0.out.trans (b5.mono (by omega))
  clear e5 b5 d0 d1 d2 q0 q1 q2 p0 p1 p2 p3
  exact bodyPost_ret (v := .agg #[.float .f32 r0, .float .f32 r1, .int .i64 i0]) (by simp [results, Tryz.results30, go_sem, *]) rfl ⟨rfl, hb⟩
set_option maxRecDepth 100000 in
set_option maxHeartbeats 1000000 in
theorem refmk_wear (s : ByteArray) (ia : Option Addr) (nin cin b o cI rb ro nR cR : Nat) (i0 : Int) (r0 r1 : Nat) (l : List Nat) (w : World)
    (hI : ZRow w (some ⟨b, o, none⟩) [i0]) (hR : SRow w (some ⟨rb, ro, none⟩) l) (hl : l = r0 :: r1 :: l.drop 2) (hn : nR = l.length) :
    Calls Tryz.prog 65 #[ndV s ia nin cin (some ⟨b, o, none⟩) 1 cI (some ⟨rb, ro, none⟩) nR cR] w fun e w' => e = .returned (.agg #[.float .f32 r0, .float .f32 r1, .int .i64 i0]) ∧ Below w.heap.size w w' := by
  have hlen : 1 < l.length := by rw [hl]; simp
  have g0 : l.getD 0 0 = r0 := by rw [hl]; rfl
  have g1 : l.getD 1 0 = r1 := by rw [hl]; rfl
  have hnr : 1 < nR := by omega
  have hnr0 : 0 < nR := by omega
  have HN := Lib.hid hn
  clear hl hn
  go_enter Tryz.func65, Tryz.ntmps65
  go_upto_region 1 with fail
  generalize hW0 : (w.alloc (.cells #[.string s, .slice ia nin cin, .slice (some ⟨b, o, none⟩) 1 cI, .slice (some ⟨rb, ro, none⟩) nR cR] 25)).alloc (.cells #[.float .f32 0, .float .f32 0, .int .i64 0] 68) = W0
  have A0 : NdAt W0 w.heap.size s ia nin cin (some ⟨b, o, none⟩) 1 cI (some ⟨rb, ro, none⟩) nR cR := by
    subst hW0
    exact (NdAt.new _ _ _ _ _ _ _ _ _ _ _).below ((Below.refl (w.heap.size + 1) _).alloc (by simp) _) (by omega)
  have bk : W0.heap[w.heap.size + 1]? = some (.cells #[.float .f32 0, .float .f32 0, .int .i64 0] 68 (0, 0)) := by
    subst hW0
    have := heap_alloc_new (w.alloc (.cells #[.string s, .slice ia nin cin, .slice (some ⟨b, o, none⟩) 1 cI, .slice (some ⟨rb, ro, none⟩) nR cR] 25)) (.cells #[.float .f32 0, .float .f32 0, .int .i64 0] 68)
    simpa using this
  have b0 : Below w.heap.size w W0 := by subst hW0; exact (by repeat (first | with_reducible exact Below.refl _ _ | with_reducible apply Below.drew | with_reducible refine below_drewN ?_ _ | (with_reducible refine Below.setCell ?_ ?_ _; rotate_left; focus (first | omega | (simp <;> omega))) | (with_reducible refine Below.alloc ?_ ?_ _; rotate_left; focus (first | omega | (simp <;> omega)))))
  have HB0 := Lib.hid b0
  have hI0 := hI.below b0
  have hR0 := hR.below b0
  have hnri : (1 : Int) < (nR : Int) := by omega
  have x0 : W0.cell? ⟨b, o, none⟩ = some (.int .i64 i0) := hI0.at_ 0 (by simp)
  have y0 : W0.cell? ⟨rb, ro, none⟩ = some (.float .f32 r0) := by have := hR0.cell1 0 (by omega); rw [g0] at this; exact this
  have y1 : W0.cell? ⟨rb, ro + 1, none⟩ = some (.float .f32 r1) := by have := hR0.cell1 1 (by omega); rw [g1] at this; exact this
  have lb : b < W0.heap.size := hI0.lt (by simp)
  have lrb : rb < W0.heap.size := hR0.lt1 (by omega)
  have l0 : w.heap.size < W0.heap.size := A0.lt
  have l1 : w.heap.size + 1 < W0.heap.size := by subst hW0; simp
  obtain ⟨p0, p1, p2, p3⟩ := A0.cells
  clear b0 hI0 hR0 hI hR hW0 A0 hlen
  clear g0
  clear g1
  have q0 : W0.frozen? ⟨w.heap.size + 1, 0, none⟩ = false := frozen_of_row W0 _ 0 _ _ bk
  have d0 : W0.cell? ⟨w.heap.size + 1, 0, none⟩ = some (.float .f32 0) := cell_of_row W0 _ 0 _ _ _ bk
  have q1 : W0.frozen? ⟨w.heap.size + 1, 1, none⟩ = false := frozen_of_row W0 _ 1 _ _ bk
  have d1 : W0.cell? ⟨w.heap.size + 1, 1, none⟩ = some (.float .f32 0) := cell_of_row W0 _ 1 _ _ _ bk
  have q2 : W0.frozen? ⟨w.heap.size + 1, 2, none⟩ = false := frozen_of_row W0 _ 2 _ _ bk
  have d2 : W0.cell? ⟨w.heap.size + 1, 2, none⟩ = some (.int .i64 0) := cell_of_row W0 _ 2 _ _ _ bk
  have HK := Lib.hid bk
  clear bk
  go_still_tail 13, (by kernel_rfl)
  change wpList _ _ _ _ _ W0.drew
  go_wp2_with fail
  obtain ⟨e5, b5⟩ := st_3 (W := W0) HK.out (.float .f32 r0) (.float .f32 r1) (.int .i64 i0) _ rfl
  have b5 := b5.drew
  change (World.drew (((W0.setCell ⟨w.heap.size + 1, 0, none⟩ (.float .f32 r0)).setCell ⟨w.heap.size + 1, 1, none⟩ (.float .f32 r1)).setCell ⟨w.heap.size + 1, 2, none⟩ (.int .i64 i0))).heap[w.heap.size + 1]? = _ at e5
  generalize World.drew (((W0.setCell ⟨w.heap.size + 1, 0, none⟩ (.float .f32 r0)).setCell ⟨w.heap.size + 1, 1, none⟩ (.float .f32 r1)).setCell ⟨w.heap.size + 1, 2, none⟩ (.int .i64 i0)) = W5 at *
  have z0 : W5.cell? ⟨w.heap.size + 1, 0, none⟩ = some (.float .f32 r0) := cell_of_row W5 _ 0 _ _ _ e5
  have z1 : W5.cell? ⟨w.heap.size + 1, 1, none⟩ = some (.float .f32 r1) := cell_of_row W5 _ 1 _ _ _ e5
  have z2 : W5.cell? ⟨w.heap.size + 1, 2, none⟩ = some (.int .i64 i0) := cell_of_row W5 _ 2 _ _ _ e5
  have hb := HB0.out.trans (b5.mono (by omega))
  clear e5 b5 d0 d1 d2 q0 q1 q2 p0 p1 p2 p3
  exact bodyPost_ret (v := .agg #[.float .f32 r0, .float .f32 r1, .int .i64 i0]) (by simp [results, Tryz.results65, go_sem, *]) rfl ⟨rfl, hb⟩
end Go.Proofs.YtimhpmccmafnpaaGreat
