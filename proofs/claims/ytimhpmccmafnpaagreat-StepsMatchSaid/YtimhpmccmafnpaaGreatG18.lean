import Derived.Test.YtimhpmccmafnpaaGreatG06
import Derived.Test.YtimhpmccmafnpaaGreatG13
import Derived.Test.YtimhpmccmafnpaaGreatG17
import Derived.BigQuiet
import Derived.Deep.CutBlock
import Derived.Deep.QuietTactic
import Derived.Deep.DeepCutAuto
import Derived.Deep.RegionHeld3
import Derived.Test.YtimhpmccmafnpaaGreatG12
import Derived.Test.YtimhpmccmafnpaaGreatG10
namespace Go.Proofs.YtimhpmccmafnpaaGreat
open Go.ChangeShapes Go.WideShapes Go.ChangeAt Go.RowKit
open Ieee.Format (fin finE htE allFin allHt all_true all_false mulF subF addF Ht Bd divF rootF floorF easeF mixF)
set_option linter.unusedVariables false

/-! ### the warp of a node -/
structure WrS (w : World) (s : ByteArray) (ia : Option Addr) (nin cin b o cI rb ro nR cR : Nat) (i0 i1 i2 i3 : Int) (r1 : Nat) (l : List Nat) (wr : World) : Prop where
  a : NdAt wr w.heap.size s ia nin cin (some ⟨b, o, none⟩) 4 cI (some ⟨rb, ro, none⟩) nR cR
  k : wr.heap[w.heap.size + 1]? = some (.cells #[.int .i64 0, .int .u32 0, .int .i64 0, .int .i64 0, .float .f32 0, .float .f32 0] 52 (0, 0))
  i : ZRow wr (some ⟨b, o, none⟩) [i0, i1, i2, i3]
  r : SRow wr (some ⟨rb, ro, none⟩) l
  b : Below w.heap.size w wr
section
variable {w wr w2 : World} {s : ByteArray} {ia : Option Addr} {nin cin b o cI rb ro nR cR : Nat} {i0 i1 i2 i3 : Int} {r1 : Nat} {l : List Nat}
theorem WrS.lt (h : WrS w s ia nin cin b o cI rb ro nR cR i0 i1 i2 i3 r1 l wr) : w.heap.size + 1 < wr.heap.size := by
  rcases Nat.lt_or_ge (w.heap.size + 1) wr.heap.size with hlt | hge
  · exact hlt
  · have := h.k; rw [Array.getElem?_eq_none hge] at this; cases this
theorem WrS.call (h : WrS w s ia nin cin b o cI rb ro nR cR i0 i1 i2 i3 r1 l wr) (hb : Below wr.heap.size wr w2) : WrS w s ia nin cin b o cI rb ro nR cR i0 i1 i2 i3 r1 l w2 :=
  ⟨h.a.below hb h.a.lt, (hb.block _ h.lt).trans h.k, h.i.below hb, h.r.below hb, h.b.trans (hb.mono h.b.size)⟩
theorem WrS.drew (h : WrS w s ia nin cin b o cI rb ro nR cR i0 i1 i2 i3 r1 l wr) : WrS w s ia nin cin b o cI rb ro nR cR i0 i1 i2 i3 r1 l wr.drew :=
  ⟨⟨h.a.blk⟩, h.k, h.i, h.r.drew, h.b.drew⟩
end
set_option maxRecDepth 100000 in
set_option maxHeartbeats 1000000 in
theorem mk_warp (s : ByteArray) (ia : Option Addr) (nin cin b o cI rb ro nR cR : Nat) (i0 i1 i2 i3 : Int) (r0 r1 : Nat) (l : List Nat) (w : World)
    (hI : ZRow w (some ⟨b, o, none⟩) [i0, i1, i2, i3]) (hR : SRow w (some ⟨rb, ro, none⟩) l) (hl : l = r0 :: r1 :: l.drop 2) (hn : nR = l.length) :
    Calls Tryz.prog 22 #[ndV s ia nin cin (some ⟨b, o, none⟩) 4 cI (some ⟨rb, ro, none⟩) nR cR] w fun e w' => e = .returned (wpV i0 (i1 % 4294967296) i2 i3 r0 r1) ∧ Below w.heap.size w w' := by
  have hlen : 1 < l.length := by rw [hl]; simp
  have g1 : l.getD 1 0 = r1 := by rw [hl]; rfl
  have hnr : 1 < nR := by omega
  have hnr0 : 0 < nR := by omega
  have hnri : (1 : Int) < (nR : Int) := by omega
  have KM := Lib.hid (fun w hI hR => mk_fractal s ia nin cin b o cI rb ro nR cR i0 i1 i2 i3 r0 l w hI hR (by rw [hl]; rfl) hn)
  clear hl hn
  unfold wpV
  go_enter Tryz.func22, Tryz.ntmps22
  go_upto_region 1 with fail
  generalize hW0 : (w.alloc (.cells #[.string s, .slice ia nin cin, .slice (some ⟨b, o, none⟩) 4 cI, .slice (some ⟨rb, ro, none⟩) nR cR] 25)).alloc (.cells #[.int .i64 0, .int .u32 0, .int .i64 0, .int .i64 0, .float .f32 0, .float .f32 0] 52) = W0
  have b0 : Below w.heap.size w W0 := by subst hW0; exact (by repeat (first | with_reducible exact Below.refl _ _ | with_reducible apply Below.drew | with_reducible refine below_drewN ?_ _ | (with_reducible refine Below.setCell ?_ ?_ _; rotate_left; focus (first | omega | (simp <;> omega))) | (with_reducible refine Below.alloc ?_ ?_ _; rotate_left; focus (first | omega | (simp <;> omega)))))
  have HS : Hid (WrS w s ia nin cin b o cI rb ro nR cR i0 i1 i2 i3 r1 l W0) := by
    refine ⟨?_, ?_, hI.below b0, hR.below b0, b0⟩
    · subst hW0
      exact (NdAt.new _ _ _ _ _ _ _ _ _ _ _).below ((Below.refl (w.heap.size + 1) _).alloc (by simp) _) (by omega)
    · subst hW0
      have := heap_alloc_new (w.alloc (.cells #[.string s, .slice ia nin cin, .slice (some ⟨b, o, none⟩) 4 cI, .slice (some ⟨rb, ro, none⟩) nR cR] 25)) (.cells #[.int .i64 0, .int .u32 0, .int .i64 0, .int .i64 0, .float .f32 0, .float .f32 0] 52)
      simpa using this
  clear hW0 b0 hI hR
  refine wp_region_noPanic ?_
  refine wp_region_heldT (WrS w s ia nin cin b o cI rb ro nR cR i0 i1 i2 i3 r1 l) 7 (by kernel_rfl) HS.out.drew (fun hHeld => ?_)
  refine wpAnyT_takeL [3, 4, 5, 6, 7] (i := 2) (v := ?_) rfl (by kernel_rfl) (by kernel_rfl) (by kernel_rfl) (by kernel_rfl) (fun _ _ _ h => h) (Or.inl ⟨by rfl, ?_⟩) (by with_reducible assumption) ?_
  rotate_left
  · intro w₁ hSw
    have pp := hSw.a.cells
    obtain ⟨p0, p1, p2, p3⟩ := pp
    have y1 := hSw.r.cell1 1 hlen
    rw [g1] at y1
    go_simp
    try with_reducible rfl
  try simp only [Act.put, List.setIfInBounds_toArray, List.set_cons_zero, List.set_cons_succ]
  refine wpAnyT_takeL [4, 5, 6, 7] (i := 3) (v := ?_) rfl (by kernel_rfl) (by kernel_rfl) (by kernel_rfl) (by kernel_rfl) (fun _ _ _ h => h) (Or.inl ⟨by rfl, ?_⟩) (by with_reducible assumption) ?_
  rotate_left
  · intro w₁ hSw
    have pp := hSw.a.cells
    obtain ⟨p0, p1, p2, p3⟩ := pp
    have y1 := hSw.r.cell1 1 hlen
    rw [g1] at y1
    go_simp
    try with_reducible rfl
  try simp only [Act.put, List.setIfInBounds_toArray, List.set_cons_zero, List.set_cons_succ]
  refine wpAnyT_takeL [5, 6, 7] (i := 4) (v := ?_) rfl (by kernel_rfl) (by kernel_rfl) (by kernel_rfl) (by kernel_rfl) (fun _ _ _ h => h) (Or.inl ⟨by rfl, ?_⟩) (by with_reducible assumption) ?_
  rotate_left
  · intro w₁ hSw
    have pp := hSw.a.cells
    obtain ⟨p0, p1, p2, p3⟩ := pp
    have y1 := hSw.r.cell1 1 hlen
    rw [g1] at y1
    go_simp
    try with_reducible rfl
  try simp only [Act.put, List.setIfInBounds_toArray, List.set_cons_zero, List.set_cons_succ]
  refine wpAnyT_takeL [6, 7] (i := 5) (v := ?_) rfl (by kernel_rfl) (by kernel_rfl) (by kernel_rfl) (by kernel_rfl) (fun _ _ _ h => h) (Or.inl ⟨by rfl, ?_⟩) (by with_reducible assumption) ?_
  rotate_left
  · intro w₁ hSw
    have pp := hSw.a.cells
    obtain ⟨p0, p1, p2, p3⟩ := pp
    have y1 := hSw.r.cell1 1 hlen
    rw [g1] at y1
    go_simp
    try with_reducible rfl
  try simp only [Act.put, List.setIfInBounds_toArray, List.set_cons_zero, List.set_cons_succ]
  refine wpAnyT_takeL [1, 6, 7] (i := 0) (v := ?_) rfl (by kernel_rfl) (by kernel_rfl) (by kernel_rfl) (by kernel_rfl) (fun _ _ _ h => h) (Or.inl ⟨by rfl, ?_⟩) (by with_reducible assumption) ?_
  rotate_left
  · intro w₁ hSw
    have pp := hSw.a.cells
    obtain ⟨p0, p1, p2, p3⟩ := pp
    have y1 := hSw.r.cell1 1 hlen
    rw [g1] at y1
    go_simp
    try with_reducible rfl
  try simp only [Act.put, List.setIfInBounds_toArray, List.set_cons_zero, List.set_cons_succ]
  refine wpAnyT_ready (rs := [1]) (by kernel_rfl) (by simp) ?_
  refine AllReadyT.cons rfl (fun K hK => ?_) AllReadyT.nil
  go_simp
  (with_reducible refine (KM.out _ hHeld.i hHeld.r).mono ?_)
  rintro e w2 ⟨rfl, hb⟩
  have hN := hHeld.call hb
  go_wp2_with fail
  refine hK.out _ _ (fun _ => hN) (fun hS_ => ?_)
  have hHeld := hS_ (by omega)
  clear hS_ hK K
  try simp only [Act.put, List.setIfInBounds_toArray, List.set_cons_zero, List.set_cons_succ]
  refine wpAnyT_takeL [7] (i := 6) (v := ?_) rfl (by kernel_rfl) (by kernel_rfl) (by kernel_rfl) (by kernel_rfl) (fun _ _ _ h => h) (Or.inl ⟨by rfl, ?_⟩) (by with_reducible assumption) ?_
  rotate_left
  · intro w₁ hSw
    have pp := hSw.a.cells
    obtain ⟨p0, p1, p2, p3⟩ := pp
    have y1 := hSw.r.cell1 1 hlen
    rw [g1] at y1
    go_simp
    try with_reducible rfl
  try simp only [Act.put, List.setIfInBounds_toArray, List.set_cons_zero, List.set_cons_succ]
  refine wpAnyT_ready (rs := [7]) (by kernel_rfl) (by simp) ?_
  refine AllReadyT.cons rfl (fun K hK => ?_) AllReadyT.nil
  have q0 := frozen_of_row w2 (w.heap.size + 1) 0 _ _ hHeld.k
  have q1 := frozen_of_row w2 (w.heap.size + 1) 1 _ _ hHeld.k
  have q2 := frozen_of_row w2 (w.heap.size + 1) 2 _ _ hHeld.k
  have q3 := frozen_of_row w2 (w.heap.size + 1) 3 _ _ hHeld.k
  have q4 := frozen_of_row w2 (w.heap.size + 1) 4 _ _ hHeld.k
  have q5 := frozen_of_row w2 (w.heap.size + 1) 5 _ _ hHeld.k
  have d0 := cell_of_row w2 (w.heap.size + 1) 0 _ _ _ hHeld.k
  have d1 := cell_of_row w2 (w.heap.size + 1) 1 _ _ _ hHeld.k
  have d2 := cell_of_row w2 (w.heap.size + 1) 2 _ _ _ hHeld.k
  have d3 := cell_of_row w2 (w.heap.size + 1) 3 _ _ _ hHeld.k
  have d4 := cell_of_row w2 (w.heap.size + 1) 4 _ _ _ hHeld.k
  have d5 := cell_of_row w2 (w.heap.size + 1) 5 _ _ _ hHeld.k
  have lt := hHeld.lt
  have HB := Lib.hid hHeld.b
  have HQ := Lib.hid (st_6 hHeld.k (.int .i64 i0) (.int .u32 (i1 % 4294967296)) (.int .i64 i2) (.int .i64 i3) (.float .f32 r0) (.float .f32 r1) _ rfl)
  go_simp
  refine hK.out _ _ (fun h => absurd h (by omega)) (fun _ => ?_)
  clear hK K
  try simp only [Act.put, List.setIfInBounds_toArray, List.set_cons_zero, List.set_cons_succ]
  refine wpAnyT_done (by kernel_rfl) ?_ _
  refine NoPanic.normal ?_
  have hb := HB.out.trans (HQ.out.2.mono (by omega))
  have e5 := HQ.out.1
  clear HQ d0 d1 d2 d3 d4 d5 q0 q1 q2 q3 q4 q5
  have lt5 : w.heap.size + 1 < ((((((w2.setCell ⟨w.heap.size + 1, 0, none⟩ (.int .i64 i0)).setCell ⟨w.heap.size + 1, 1, none⟩ (.int .u32 (i1 % 4294967296))).setCell ⟨w.heap.size + 1, 2, none⟩ (.int .i64 i2)).setCell ⟨w.heap.size + 1, 3, none⟩ (.int .i64 i3)).setCell ⟨w.heap.size + 1, 4, none⟩ (.float .f32 r0)).setCell ⟨w.heap.size + 1, 5, none⟩ (.float .f32 r1)).heap.size := by simpa using lt
  generalize ((((((w2.setCell ⟨w.heap.size + 1, 0, none⟩ (.int .i64 i0)).setCell ⟨w.heap.size + 1, 1, none⟩ (.int .u32 (i1 % 4294967296))).setCell ⟨w.heap.size + 1, 2, none⟩ (.int .i64 i2)).setCell ⟨w.heap.size + 1, 3, none⟩ (.int .i64 i3)).setCell ⟨w.heap.size + 1, 4, none⟩ (.float .f32 r0)).setCell ⟨w.heap.size + 1, 5, none⟩ (.float .f32 r1)) = W5 at *
  have z0 : W5.cell? ⟨w.heap.size + 1, 0, none⟩ = some (.int .i64 i0) := cell_of_row W5 _ 0 _ _ _ e5
  have z1 : W5.cell? ⟨w.heap.size + 1, 1, none⟩ = some (.int .u32 (i1 % 4294967296)) := cell_of_row W5 _ 1 _ _ _ e5
  have z2 : W5.cell? ⟨w.heap.size + 1, 2, none⟩ = some (.int .i64 i2) := cell_of_row W5 _ 2 _ _ _ e5
  have z3 : W5.cell? ⟨w.heap.size + 1, 3, none⟩ = some (.int .i64 i3) := cell_of_row W5 _ 3 _ _ _ e5
  have z4 : W5.cell? ⟨w.heap.size + 1, 4, none⟩ = some (.float .f32 r0) := cell_of_row W5 _ 4 _ _ _ e5
  have z5 : W5.cell? ⟨w.heap.size + 1, 5, none⟩ = some (.float .f32 r1) := cell_of_row W5 _ 5 _ _ _ e5
  clear e5
  go_wp2_with fail
  refine bodyPost_ret (v := .agg #[.int .i64 i0, .int .u32 (i1 % 4294967296), .int .i64 i2, .int .i64 i3, .float .f32 r0, .float .f32 r1]) (by simp [results, Tryz.results22, go_sem, *]) rfl ⟨rfl, hb⟩
set_option maxRecDepth 100000 in
set_option maxHeartbeats 1000000 in
theorem refmk_warp (s : ByteArray) (ia : Option Addr) (nin cin b o cI rb ro nR cR : Nat) (i0 i1 i2 i3 : Int) (r0 r1 : Nat) (l : List Nat) (w : World)
    (hI : ZRow w (some ⟨b, o, none⟩) [i0, i1, i2, i3]) (hR : SRow w (some ⟨rb, ro, none⟩) l) (hl : l = r0 :: r1 :: l.drop 2) (hn : nR = l.length) :
    Calls Tryz.prog 36 #[ndV s ia nin cin (some ⟨b, o, none⟩) 4 cI (some ⟨rb, ro, none⟩) nR cR] w fun e w' => e = .returned (wpV i0 (i1 % 4294967296) i2 i3 r0 r1) ∧ Below w.heap.size w w' := by
  have hlen : 1 < l.length := by rw [hl]; simp
  have g1 : l.getD 1 0 = r1 := by rw [hl]; rfl
  have hnr : 1 < nR := by omega
  have hnr0 : 0 < nR := by omega
  have hnri : (1 : Int) < (nR : Int) := by omega
  have KM := Lib.hid (fun w hI hR => refmk_fractal s ia nin cin b o cI rb ro nR cR i0 i1 i2 i3 r0 l w hI hR (by rw [hl]; rfl) hn)
  clear hl hn
  unfold wpV
  go_enter Tryz.func36, Tryz.ntmps36
  go_upto_region 1 with fail
  generalize hW0 : (w.alloc (.cells #[.string s, .slice ia nin cin, .slice (some ⟨b, o, none⟩) 4 cI, .slice (some ⟨rb, ro, none⟩) nR cR] 25)).alloc (.cells #[.int .i64 0, .int .u32 0, .int .i64 0, .int .i64 0, .float .f32 0, .float .f32 0] 52) = W0
  have b0 : Below w.heap.size w W0 := by subst hW0; exact (by repeat (first | with_reducible exact Below.refl _ _ | with_reducible apply Below.drew | with_reducible refine below_drewN ?_ _ | (with_reducible refine Below.setCell ?_ ?_ _; rotate_left; focus (first | omega | (simp <;> omega))) | (with_reducible refine Below.alloc ?_ ?_ _; rotate_left; focus (first | omega | (simp <;> omega)))))
  have HS : Hid (WrS w s ia nin cin b o cI rb ro nR cR i0 i1 i2 i3 r1 l W0) := by
    refine ⟨?_, ?_, hI.below b0, hR.below b0, b0⟩
    · subst hW0
      exact (NdAt.new _ _ _ _ _ _ _ _ _ _ _).below ((Below.refl (w.heap.size + 1) _).alloc (by simp) _) (by omega)
    · subst hW0
      have := heap_alloc_new (w.alloc (.cells #[.string s, .slice ia nin cin, .slice (some ⟨b, o, none⟩) 4 cI, .slice (some ⟨rb, ro, none⟩) nR cR] 25)) (.cells #[.int .i64 0, .int .u32 0, .int .i64 0, .int .i64 0, .float .f32 0, .float .f32 0] 52)
      simpa using this
  clear hW0 b0 hI hR
  refine wp_region_noPanic ?_
  refine wp_region_heldT (WrS w s ia nin cin b o cI rb ro nR cR i0 i1 i2 i3 r1 l) 7 (by kernel_rfl) HS.out.drew (fun hHeld => ?_)
  refine wpAnyT_takeL [3, 4, 5, 6, 7] (i := 2) (v := ?_) rfl (by kernel_rfl) (by kernel_rfl) (by kernel_rfl) (by kernel_rfl) (fun _ _ _ h => h) (Or.inl ⟨by rfl, ?_⟩) (by with_reducible assumption) ?_
  rotate_left
  · intro w₁ hSw
    have pp := hSw.a.cells
    obtain ⟨p0, p1, p2, p3⟩ := pp
    have y1 := hSw.r.cell1 1 hlen
    rw [g1] at y1
    go_simp
    try with_reducible rfl
  try simp only [Act.put, List.setIfInBounds_toArray, List.set_cons_zero, List.set_cons_succ]
  refine wpAnyT_takeL [4, 5, 6, 7] (i := 3) (v := ?_) rfl (by kernel_rfl) (by kernel_rfl) (by kernel_rfl) (by kernel_rfl) (fun _ _ _ h => h) (Or.inl ⟨by rfl, ?_⟩) (by with_reducible assumption) ?_
  rotate_left
  · intro w₁ hSw
    have pp := hSw.a.cells
    obtain ⟨p0, p1, p2, p3⟩ := pp
    have y1 := hSw.r.cell1 1 hlen
    rw [g1] at y1
    go_simp
    try with_reducible rfl
  try simp only [Act.put, List.setIfInBounds_toArray, List.set_cons_zero, List.set_cons_succ]
  refine wpAnyT_takeL [5, 6, 7] (i := 4) (v := ?_) rfl (by kernel_rfl) (by kernel_rfl) (by kernel_rfl) (by kernel_rfl) (fun _ _ _ h => h) (Or.inl ⟨by rfl, ?_⟩) (by with_reducible assumption) ?_
  rotate_left
  · intro w₁ hSw
    have pp := hSw.a.cells
    obtain ⟨p0, p1, p2, p3⟩ := pp
    have y1 := hSw.r.cell1 1 hlen
    rw [g1] at y1
    go_simp
    try with_reducible rfl
  try simp only [Act.put, List.setIfInBounds_toArray, List.set_cons_zero, List.set_cons_succ]
  refine wpAnyT_takeL [6, 7] (i := 5) (v := ?_) rfl (by kernel_rfl) (by kernel_rfl) (by kernel_rfl) (by kernel_rfl) (fun _ _ _ h => h) (Or.inl ⟨by rfl, ?_⟩) (by with_reducible assumption) ?_
  rotate_left
  · intro w₁ hSw
    have pp := hSw.a.cells
    obtain ⟨p0, p1, p2, p3⟩ := pp
    have y1 := hSw.r.cell1 1 hlen
    rw [g1] at y1
    go_simp
    try with_reducible rfl
  try simp only [Act.put, List.setIfInBounds_toArray, List.set_cons_zero, List.set_cons_succ]
  refine wpAnyT_takeL [1, 6, 7] (i := 0) (v := ?_) rfl (by kernel_rfl) (by kernel_rfl) (by kernel_rfl) (by kernel_rfl) (fun _ _ _ h => h) (Or.inl ⟨by rfl, ?_⟩) (by with_reducible assumption) ?_
  rotate_left
  · intro w₁ hSw
    have pp := hSw.a.cells
    obtain ⟨p0, p1, p2, p3⟩ := pp
    have y1 := hSw.r.cell1 1 hlen
    rw [g1] at y1
    go_simp
    try with_reducible rfl
  try simp only [Act.put, List.setIfInBounds_toArray, List.set_cons_zero, List.set_cons_succ]
  refine wpAnyT_ready (rs := [1]) (by kernel_rfl) (by simp) ?_
  refine AllReadyT.cons rfl (fun K hK => ?_) AllReadyT.nil
  go_simp
  (with_reducible refine (KM.out _ hHeld.i hHeld.r).mono ?_)
  rintro e w2 ⟨rfl, hb⟩
  have hN := hHeld.call hb
  go_wp2_with fail
  refine hK.out _ _ (fun _ => hN) (fun hS_ => ?_)
  have hHeld := hS_ (by omega)
  clear hS_ hK K
  try simp only [Act.put, List.setIfInBounds_toArray, List.set_cons_zero, List.set_cons_succ]
  refine wpAnyT_takeL [7] (i := 6) (v := ?_) rfl (by kernel_rfl) (by kernel_rfl) (by kernel_rfl) (by kernel_rfl) (fun _ _ _ h => h) (Or.inl ⟨by rfl, ?_⟩) (by with_reducible assumption) ?_
  rotate_left
  · intro w₁ hSw
    have pp := hSw.a.cells
    obtain ⟨p0, p1, p2, p3⟩ := pp
    have y1 := hSw.r.cell1 1 hlen
    rw [g1] at y1
    go_simp
    try with_reducible rfl
  try simp only [Act.put, List.setIfInBounds_toArray, List.set_cons_zero, List.set_cons_succ]
  refine wpAnyT_ready (rs := [7]) (by kernel_rfl) (by simp) ?_
  refine AllReadyT.cons rfl (fun K hK => ?_) AllReadyT.nil
  have q0 := frozen_of_row w2 (w.heap.size + 1) 0 _ _ hHeld.k
  have q1 := frozen_of_row w2 (w.heap.size + 1) 1 _ _ hHeld.k
  have q2 := frozen_of_row w2 (w.heap.size + 1) 2 _ _ hHeld.k
  have q3 := frozen_of_row w2 (w.heap.size + 1) 3 _ _ hHeld.k
  have q4 := frozen_of_row w2 (w.heap.size + 1) 4 _ _ hHeld.k
  have q5 := frozen_of_row w2 (w.heap.size + 1) 5 _ _ hHeld.k
  have d0 := cell_of_row w2 (w.heap.size + 1) 0 _ _ _ hHeld.k
  have d1 := cell_of_row w2 (w.heap.size + 1) 1 _ _ _ hHeld.k
  have d2 := cell_of_row w2 (w.heap.size + 1) 2 _ _ _ hHeld.k
  have d3 := cell_of_row w2 (w.heap.size + 1) 3 _ _ _ hHeld.k
  have d4 := cell_of_row w2 (w.heap.size + 1) 4 _ _ _ hHeld.k
  have d5 := cell_of_row w2 (w.heap.size + 1) 5 _ _ _ hHeld.k
  have lt := hHeld.lt
  have HB := Lib.hid hHeld.b
  have HQ := Lib.hid (st_6 hHeld.k (.int .i64 i0) (.int .u32 (i1 % 4294967296)) (.int .i64 i2) (.int .i64 i3) (.float .f32 r0) (.float .f32 r1) _ rfl)
  go_simp
  refine hK.out _ _ (fun h => absurd h (by omega)) (fun _ => ?_)
  clear hK K
  try simp only [Act.put, List.setIfInBounds_toArray, List.set_cons_zero, List.set_cons_succ]
  refine wpAnyT_done (by kernel_rfl) ?_ _
  refine NoPanic.normal ?_
  have hb := HB.out.trans (HQ.out.2.mono (by omega))
  have e5 := HQ.out.1
  clear HQ d0 d1 d2 d3 d4 d5 q0 q1 q2 q3 q4 q5
  have lt5 : w.heap.size + 1 < ((((((w2.setCell ⟨w.heap.size + 1, 0, none⟩ (.int .i64 i0)).setCell ⟨w.heap.size + 1, 1, none⟩ (.int .u32 (i1 % 4294967296))).setCell ⟨w.heap.size + 1, 2, none⟩ (.int .i64 i2)).setCell ⟨w.heap.size + 1, 3, none⟩ (.int .i64 i3)).setCell ⟨w.heap.size + 1, 4, none⟩ (.float .f32 r0)).setCell ⟨w.heap.size + 1, 5, none⟩ (.float .f32 r1)).heap.size := by simpa using lt
  generalize ((((((w2.setCell ⟨w.heap.size + 1, 0, none⟩ (.int .i64 i0)).setCell ⟨w.heap.size + 1, 1, none⟩ (.int .u32 (i1 % 4294967296))).setCell ⟨w.heap.size + 1, 2, none⟩ (.int .i64 i2)).setCell ⟨w.heap.size + 1, 3, none⟩ (.int .i64 i3)).setCell ⟨w.heap.size + 1, 4, none⟩ (.float .f32 r0)).setCell ⟨w.heap.size + 1, 5, none⟩ (.float .f32 r1)) = W5 at *
  have z0 : W5.cell? ⟨w.heap.size + 1, 0, none⟩ = some (.int .i64 i0) := cell_of_row W5 _ 0 _ _ _ e5
  have z1 : W5.cell? ⟨w.heap.size + 1, 1, none⟩ = some (.int .u32 (i1 % 4294967296)) := cell_of_row W5 _ 1 _ _ _ e5
  have z2 : W5.cell? ⟨w.heap.size + 1, 2, none⟩ = some (.int .i64 i2) := cell_of_row W5 _ 2 _ _ _ e5
  have z3 : W5.cell? ⟨w.heap.size + 1, 3, none⟩ = some (.int .i64 i3) := cell_of_row W5 _ 3 _ _ _ e5
  have z4 : W5.cell? ⟨w.heap.size + 1, 4, none⟩ = some (.float .f32 r0) := cell_of_row W5 _ 4 _ _ _ e5
  have z5 : W5.cell? ⟨w.heap.size + 1, 5, none⟩ = some (.float .f32 r1) := cell_of_row W5 _ 5 _ _ _ e5
  clear e5
  go_wp2_with fail
  refine bodyPost_ret (v := .agg #[.int .i64 i0, .int .u32 (i1 % 4294967296), .int .i64 i2, .int .i64 i3, .float .f32 r0, .float .f32 r1]) (by simp [results, Tryz.results36, go_sem, *]) rfl ⟨rfl, hb⟩
end Go.Proofs.YtimhpmccmafnpaaGreat




namespace Go.Proofs.YtimhpmccmafnpaaGreat
open Go.ChangeShapes Go.WideShapes Go.ChangeAt Go.RowKit
open Ieee.Format (fin finE htE allFin allHt all_true all_false mulF subF addF Ht Bd divF rootF floorF easeF mixF)
set_option linter.unusedVariables false
open Ieee.Format (const_1)

abbrev foldV (A B P : Int) (H : Nat) : Value := .agg #[.int .i64 A, .int .i64 B, .int .i64 P, .float .f32 H]
def foldE (A B P : Int) (H : Nat) : Int := if (inB 1000 A && inB 1000 B) = false then 3 else if P < 2 then 3 else if 16777216 < P then 3 else if A = 0 then (if B = 0 then 12 else htE [H]) else htE [H]
set_option maxHeartbeats 1000000 in
theorem check_fold (A B P : Int) (H : Nat) (w : World) (hH : H < 4294967296) :
    Calls Tryz.prog 27 #[foldV A B P H] w fun e w' => e = .returned (.int .i64 (foldE A B P H)) ∧ Below w.heap.size w w' := by
  have K1 := Lib.hid (fun W g h => heights_one W g H hH h)
  have KW := Lib.hid (fun W b c0 c1 => within2 1000 b A B W (by decide) (by decide) c0 c1)
  clear hH
  unfold foldE
  generalize htE [H] = a at *
  cases h1 : (inB 1000 A && inB 1000 B) with
  | false =>
    rw [h1] at KW
    rw [if_pos rfl]
    clear h1
    go_enter Tryz.func27, Tryz.ntmps27
    go_wp2_with (first | (go_at_call 42; refine (KW.out _ _ (by simp [go_sem]) (by simp [go_sem])).mono ?_; rintro e w' ⟨rfl, rfl⟩) | (go_at_call 16; refine (K1.out _ _ (by simp [go_sem])).mono ?_; rintro e w' ⟨rfl, rfl⟩))
    go_ret
    exact ⟨rfl, (by repeat (first | with_reducible exact Below.refl _ _ | with_reducible apply Below.drew | with_reducible refine below_drewN ?_ _ | (with_reducible refine Below.setCell ?_ ?_ _; rotate_left; focus (first | omega | (simp <;> omega))) | (with_reducible refine Below.alloc ?_ ?_ _; rotate_left; focus (first | omega | (simp <;> omega)))))⟩
  | true =>
    rw [h1] at KW
    rw [if_neg (by decide)]
    clear h1
    by_cases h2 : P < 2
    · rw [if_pos h2]
      go_enter Tryz.func27, Tryz.ntmps27
      go_wp2_with (first | (go_at_call 42; refine (KW.out _ _ (by simp [go_sem]) (by simp [go_sem])).mono ?_; rintro e w' ⟨rfl, rfl⟩) | (go_at_call 16; refine (K1.out _ _ (by simp [go_sem])).mono ?_; rintro e w' ⟨rfl, rfl⟩))
      go_ret
      exact ⟨rfl, (by repeat (first | with_reducible exact Below.refl _ _ | with_reducible apply Below.drew | with_reducible refine below_drewN ?_ _ | (with_reducible refine Below.setCell ?_ ?_ _; rotate_left; focus (first | omega | (simp <;> omega))) | (with_reducible refine Below.alloc ?_ ?_ _; rotate_left; focus (first | omega | (simp <;> omega)))))⟩
    · rw [if_neg h2]
      by_cases h3 : 16777216 < P
      · rw [if_pos h3]
        go_enter Tryz.func27, Tryz.ntmps27
        go_wp2_with (first | (go_at_call 42; refine (KW.out _ _ (by simp [go_sem]) (by simp [go_sem])).mono ?_; rintro e w' ⟨rfl, rfl⟩) | (go_at_call 16; refine (K1.out _ _ (by simp [go_sem])).mono ?_; rintro e w' ⟨rfl, rfl⟩))
        go_ret
        exact ⟨rfl, (by repeat (first | with_reducible exact Below.refl _ _ | with_reducible apply Below.drew | with_reducible refine below_drewN ?_ _ | (with_reducible refine Below.setCell ?_ ?_ _; rotate_left; focus (first | omega | (simp <;> omega))) | (with_reducible refine Below.alloc ?_ ?_ _; rotate_left; focus (first | omega | (simp <;> omega)))))⟩
      · rw [if_neg h3]
        by_cases h4 : A = 0
        · rw [if_pos h4]
          subst h4
          by_cases h5 : B = 0
          · rw [if_pos h5]
            subst h5
            go_enter Tryz.func27, Tryz.ntmps27
            go_wp2_with (first | (go_at_call 42; refine (KW.out _ _ (by simp [go_sem]) (by simp [go_sem])).mono ?_; rintro e w' ⟨rfl, rfl⟩) | (go_at_call 16; refine (K1.out _ _ (by simp [go_sem])).mono ?_; rintro e w' ⟨rfl, rfl⟩))
            go_ret
            exact ⟨rfl, (by repeat (first | with_reducible exact Below.refl _ _ | with_reducible apply Below.drew | with_reducible refine below_drewN ?_ _ | (with_reducible refine Below.setCell ?_ ?_ _; rotate_left; focus (first | omega | (simp <;> omega))) | (with_reducible refine Below.alloc ?_ ?_ _; rotate_left; focus (first | omega | (simp <;> omega)))))⟩
          · rw [if_neg h5]
            have q2 : (B == 0) = false := by simpa using h5
            go_enter Tryz.func27, Tryz.ntmps27
            go_wp2_with (first | (go_at_call 42; refine (KW.out _ _ (by simp [go_sem]) (by simp [go_sem])).mono ?_; rintro e w' ⟨rfl, rfl⟩) | (go_at_call 16; refine (K1.out _ _ (by simp [go_sem])).mono ?_; rintro e w' ⟨rfl, rfl⟩))
            go_ret
            exact ⟨rfl, (by repeat (first | with_reducible exact Below.refl _ _ | with_reducible apply Below.drew | with_reducible refine below_drewN ?_ _ | (with_reducible refine Below.setCell ?_ ?_ _; rotate_left; focus (first | omega | (simp <;> omega))) | (with_reducible refine Below.alloc ?_ ?_ _; rotate_left; focus (first | omega | (simp <;> omega)))))⟩
        · rw [if_neg h4]
          have q1 : (A == 0) = false := by simpa using h4
          go_enter Tryz.func27, Tryz.ntmps27
          go_wp2_with (first | (go_at_call 42; refine (KW.out _ _ (by simp [go_sem]) (by simp [go_sem])).mono ?_; rintro e w' ⟨rfl, rfl⟩) | (go_at_call 16; refine (K1.out _ _ (by simp [go_sem])).mono ?_; rintro e w' ⟨rfl, rfl⟩))
          go_ret
          exact ⟨rfl, (by repeat (first | with_reducible exact Below.refl _ _ | with_reducible apply Below.drew | with_reducible refine below_drewN ?_ _ | (with_reducible refine Below.setCell ?_ ?_ _; rotate_left; focus (first | omega | (simp <;> omega))) | (with_reducible refine Below.alloc ?_ ?_ _; rotate_left; focus (first | omega | (simp <;> omega)))))⟩

theorem foldin_any (n : Int) (w : World) : Calls Tryz.prog 91 #[.int .i64 n] w fun e w' => e = .returned (.bool (inB 1000 n)) ∧ w = w' := by
  unfold inB
  by_cases h1 : -1000 ≤ n
  · by_cases h2 : n ≤ 1000
    · rw [decide_eq_true (show -1000 ≤ n ∧ n ≤ 1000 from ⟨h1, h2⟩)]
      go_enter Tryz.func91, Tryz.ntmps91
      go_wp2
      go_ret
      exact ⟨rfl, rfl⟩
    · rw [decide_eq_false (show ¬ (-1000 ≤ n ∧ n ≤ 1000) by omega)]
      go_enter Tryz.func91, Tryz.ntmps91
      go_wp2
      go_ret
      exact ⟨rfl, rfl⟩
  · rw [decide_eq_false (show ¬ (-1000 ≤ n ∧ n ≤ 1000) by omega)]
    go_enter Tryz.func91, Tryz.ntmps91
    go_wp2
    go_ret
    exact ⟨rfl, rfl⟩
set_option maxHeartbeats 1000000 in
theorem refcheck_fold (A B P : Int) (H : Nat) (w : World) (hH : H < 4294967296) :
    Calls Tryz.prog 61 #[foldV A B P H] w fun e w' => e = .returned (.int .i64 (foldE A B P H)) ∧ Below w.heap.size w w' := by
  have K1 := Lib.hid (fun W g h => refheight_one W g H hH h)
  have kx := Lib.hid (fun w => foldin_any A w)
  have ky := Lib.hid (fun w => foldin_any B w)
  clear hH
  unfold foldE
  generalize htE [H] = a at *
  cases h0 : inB 1000 A with
  | false =>
    rw [h0] at kx
    rw [if_pos (by simp)]
    clear h0
    go_enter Tryz.func61, Tryz.ntmps61
    go_wp2_with (first | (go_at_call 91; (with_reducible refine (kx.out _).mono ?_); rintro e w' ⟨rfl, rfl⟩) | (go_at_call 91; (with_reducible refine (ky.out _).mono ?_); rintro e w' ⟨rfl, rfl⟩) | (go_at_call 49; refine (K1.out _ _ (by simp [go_sem])).mono ?_; rintro e w' ⟨rfl, rfl⟩))
    go_ret
    exact ⟨rfl, (by repeat (first | with_reducible exact Below.refl _ _ | with_reducible apply Below.drew | with_reducible refine below_drewN ?_ _ | (with_reducible refine Below.setCell ?_ ?_ _; rotate_left; focus (first | omega | (simp <;> omega))) | (with_reducible refine Below.alloc ?_ ?_ _; rotate_left; focus (first | omega | (simp <;> omega)))))⟩
  | true =>
    rw [h0] at kx
    cases h1 : inB 1000 B with
    | false =>
      rw [h1] at ky
      rw [if_pos (by simp)]
      clear h0 h1
      go_enter Tryz.func61, Tryz.ntmps61
      go_wp2_with (first | (go_at_call 91; (with_reducible refine (kx.out _).mono ?_); rintro e w' ⟨rfl, rfl⟩) | (go_at_call 91; (with_reducible refine (ky.out _).mono ?_); rintro e w' ⟨rfl, rfl⟩) | (go_at_call 49; refine (K1.out _ _ (by simp [go_sem])).mono ?_; rintro e w' ⟨rfl, rfl⟩))
      go_ret
      exact ⟨rfl, (by repeat (first | with_reducible exact Below.refl _ _ | with_reducible apply Below.drew | with_reducible refine below_drewN ?_ _ | (with_reducible refine Below.setCell ?_ ?_ _; rotate_left; focus (first | omega | (simp <;> omega))) | (with_reducible refine Below.alloc ?_ ?_ _; rotate_left; focus (first | omega | (simp <;> omega)))))⟩
    | true =>
      rw [h1] at ky
      rw [if_neg (by decide)]
      clear h0 h1
      by_cases h2 : P < 2
      · rw [if_pos h2]
        go_enter Tryz.func61, Tryz.ntmps61
        go_wp2_with (first | (go_at_call 91; (with_reducible refine (kx.out _).mono ?_); rintro e w' ⟨rfl, rfl⟩) | (go_at_call 91; (with_reducible refine (ky.out _).mono ?_); rintro e w' ⟨rfl, rfl⟩) | (go_at_call 49; refine (K1.out _ _ (by simp [go_sem])).mono ?_; rintro e w' ⟨rfl, rfl⟩))
        go_ret
        exact ⟨rfl, (by repeat (first | with_reducible exact Below.refl _ _ | with_reducible apply Below.drew | with_reducible refine below_drewN ?_ _ | (with_reducible refine Below.setCell ?_ ?_ _; rotate_left; focus (first | omega | (simp <;> omega))) | (with_reducible refine Below.alloc ?_ ?_ _; rotate_left; focus (first | omega | (simp <;> omega)))))⟩
      · rw [if_neg h2]
        by_cases h3 : 16777216 < P
        · rw [if_pos h3]
          go_enter Tryz.func61, Tryz.ntmps61
          go_wp2_with (first | (go_at_call 91; (with_reducible refine (kx.out _).mono ?_); rintro e w' ⟨rfl, rfl⟩) | (go_at_call 91; (with_reducible refine (ky.out _).mono ?_); rintro e w' ⟨rfl, rfl⟩) | (go_at_call 49; refine (K1.out _ _ (by simp [go_sem])).mono ?_; rintro e w' ⟨rfl, rfl⟩))
          go_ret
          exact ⟨rfl, (by repeat (first | with_reducible exact Below.refl _ _ | with_reducible apply Below.drew | with_reducible refine below_drewN ?_ _ | (with_reducible refine Below.setCell ?_ ?_ _; rotate_left; focus (first | omega | (simp <;> omega))) | (with_reducible refine Below.alloc ?_ ?_ _; rotate_left; focus (first | omega | (simp <;> omega)))))⟩
        · rw [if_neg h3]
          by_cases h4 : A = 0
          · rw [if_pos h4]
            subst h4
            by_cases h5 : B = 0
            · rw [if_pos h5]
              subst h5
              go_enter Tryz.func61, Tryz.ntmps61
              go_wp2_with (first | (go_at_call 91; (with_reducible refine (kx.out _).mono ?_); rintro e w' ⟨rfl, rfl⟩) | (go_at_call 91; (with_reducible refine (ky.out _).mono ?_); rintro e w' ⟨rfl, rfl⟩) | (go_at_call 49; refine (K1.out _ _ (by simp [go_sem])).mono ?_; rintro e w' ⟨rfl, rfl⟩))
              go_ret
              exact ⟨rfl, (by repeat (first | with_reducible exact Below.refl _ _ | with_reducible apply Below.drew | with_reducible refine below_drewN ?_ _ | (with_reducible refine Below.setCell ?_ ?_ _; rotate_left; focus (first | omega | (simp <;> omega))) | (with_reducible refine Below.alloc ?_ ?_ _; rotate_left; focus (first | omega | (simp <;> omega)))))⟩
            · rw [if_neg h5]
              have q2 : (B == 0) = false := by simpa using h5
              go_enter Tryz.func61, Tryz.ntmps61
              go_wp2_with (first | (go_at_call 91; (with_reducible refine (kx.out _).mono ?_); rintro e w' ⟨rfl, rfl⟩) | (go_at_call 91; (with_reducible refine (ky.out _).mono ?_); rintro e w' ⟨rfl, rfl⟩) | (go_at_call 49; refine (K1.out _ _ (by simp [go_sem])).mono ?_; rintro e w' ⟨rfl, rfl⟩))
              go_ret
              exact ⟨rfl, (by repeat (first | with_reducible exact Below.refl _ _ | with_reducible apply Below.drew | with_reducible refine below_drewN ?_ _ | (with_reducible refine Below.setCell ?_ ?_ _; rotate_left; focus (first | omega | (simp <;> omega))) | (with_reducible refine Below.alloc ?_ ?_ _; rotate_left; focus (first | omega | (simp <;> omega)))))⟩
          · rw [if_neg h4]
            have q1 : (A == 0) = false := by simpa using h4
            go_enter Tryz.func61, Tryz.ntmps61
            go_wp2_with (first | (go_at_call 91; (with_reducible refine (kx.out _).mono ?_); rintro e w' ⟨rfl, rfl⟩) | (go_at_call 91; (with_reducible refine (ky.out _).mono ?_); rintro e w' ⟨rfl, rfl⟩) | (go_at_call 49; refine (K1.out _ _ (by simp [go_sem])).mono ?_; rintro e w' ⟨rfl, rfl⟩))
            go_ret
            exact ⟨rfl, (by repeat (first | with_reducible exact Below.refl _ _ | with_reducible apply Below.drew | with_reducible refine below_drewN ?_ _ | (with_reducible refine Below.setCell ?_ ?_ _; rotate_left; focus (first | omega | (simp <;> omega))) | (with_reducible refine Below.alloc ?_ ?_ _; rotate_left; focus (first | omega | (simp <;> omega)))))⟩
end Go.Proofs.YtimhpmccmafnpaaGreat



namespace Go.Proofs.YtimhpmccmafnpaaGreat
open Go.ChangeShapes Go.WideShapes Go.ChangeAt Go.RowKit
open Ieee.Format (fin finE htE allFin allHt all_true all_false mulF subF addF Ht Bd divF rootF floorF easeF mixF)
set_option linter.unusedVariables false
open Ieee.Format (const_1)

abbrev faultV (A B C W : Int) (T : Nat) : Value := .agg #[.int .i64 A, .int .i64 B, .int .i64 C, .int .i64 W, .float .f32 T]
def faultE (A B C W : Int) (T : Nat) : Int := if (inB 1000 A && inB 1000 B) = false then 3 else if inB 1099511627776 C = false then 3 else if W < 0 then 3 else if 4096 < W then 3 else if A = 0 then (if B = 0 then 12 else htE [T]) else htE [T]
set_option maxRecDepth 100000 in
set_option maxHeartbeats 2000000 in
theorem check_fault (A B C W : Int) (T : Nat) (w : World) (hT : T < 4294967296) :
    Calls Tryz.prog 25 #[faultV A B C W T] w fun e w' => e = .returned (.int .i64 (faultE A B C W T)) ∧ Below w.heap.size w w' := by
  have K1 := Lib.hid (fun W g h => heights_one W g T hT h)
  have KW := Lib.hid (fun W b c0 c1 => within2 1000 b A B W (by decide) (by decide) c0 c1)
  have KU := Lib.hid (fun W b c0 => within1 1099511627776 b C W (by decide) (by decide) c0)
  clear hT
  unfold faultE
  generalize htE [T] = a at *
  cases h1 : (inB 1000 A && inB 1000 B) with
  | false =>
    rw [h1] at KW
    rw [if_pos rfl]
    clear h1
    go_enter Tryz.func25, Tryz.ntmps25
    go_wp2_with (first | (go_at_call 42; (with_reducible refine (KW.out _ _ (by simp [go_sem]) (by simp [go_sem])).mono ?_); rintro e w' ⟨rfl, rfl⟩) | (go_at_call 42; (with_reducible refine (KU.out _ _ (by simp [go_sem])).mono ?_); rintro e w' ⟨rfl, rfl⟩) | (go_at_call 16; refine (K1.out _ _ (by simp [go_sem])).mono ?_; rintro e w' ⟨rfl, rfl⟩))
    go_ret
    exact ⟨rfl, (by repeat (first | with_reducible exact Below.refl _ _ | with_reducible apply Below.drew | with_reducible refine below_drewN ?_ _ | (with_reducible refine Below.setCell ?_ ?_ _; rotate_left; focus (first | omega | (simp <;> omega))) | (with_reducible refine Below.alloc ?_ ?_ _; rotate_left; focus (first | omega | (simp <;> omega)))))⟩
  | true =>
    rw [h1] at KW
    rw [if_neg (by decide)]
    clear h1
    cases h0 : inB 1099511627776 C with
    | false =>
      rw [h0] at KU
      rw [if_pos rfl]
      clear h0
      go_enter Tryz.func25, Tryz.ntmps25
      go_wp2_with (first | (go_at_call 42; (with_reducible refine (KW.out _ _ (by simp [go_sem]) (by simp [go_sem])).mono ?_); rintro e w' ⟨rfl, rfl⟩) | (go_at_call 42; (with_reducible refine (KU.out _ _ (by simp [go_sem])).mono ?_); rintro e w' ⟨rfl, rfl⟩) | (go_at_call 16; refine (K1.out _ _ (by simp [go_sem])).mono ?_; rintro e w' ⟨rfl, rfl⟩))
      go_ret
      exact ⟨rfl, (by repeat (first | with_reducible exact Below.refl _ _ | with_reducible apply Below.drew | with_reducible refine below_drewN ?_ _ | (with_reducible refine Below.setCell ?_ ?_ _; rotate_left; focus (first | omega | (simp <;> omega))) | (with_reducible refine Below.alloc ?_ ?_ _; rotate_left; focus (first | omega | (simp <;> omega)))))⟩
    | true =>
      rw [h0] at KU
      rw [if_neg (by decide)]
      clear h0
      by_cases h2 : W < 0
      · rw [if_pos h2]
        go_enter Tryz.func25, Tryz.ntmps25
        go_wp2_with (first | (go_at_call 42; (with_reducible refine (KW.out _ _ (by simp [go_sem]) (by simp [go_sem])).mono ?_); rintro e w' ⟨rfl, rfl⟩) | (go_at_call 42; (with_reducible refine (KU.out _ _ (by simp [go_sem])).mono ?_); rintro e w' ⟨rfl, rfl⟩) | (go_at_call 16; refine (K1.out _ _ (by simp [go_sem])).mono ?_; rintro e w' ⟨rfl, rfl⟩))
        go_ret
        exact ⟨rfl, (by repeat (first | with_reducible exact Below.refl _ _ | with_reducible apply Below.drew | with_reducible refine below_drewN ?_ _ | (with_reducible refine Below.setCell ?_ ?_ _; rotate_left; focus (first | omega | (simp <;> omega))) | (with_reducible refine Below.alloc ?_ ?_ _; rotate_left; focus (first | omega | (simp <;> omega)))))⟩
      · rw [if_neg h2]
        by_cases h3 : 4096 < W
        · rw [if_pos h3]
          go_enter Tryz.func25, Tryz.ntmps25
          go_wp2_with (first | (go_at_call 42; (with_reducible refine (KW.out _ _ (by simp [go_sem]) (by simp [go_sem])).mono ?_); rintro e w' ⟨rfl, rfl⟩) | (go_at_call 42; (with_reducible refine (KU.out _ _ (by simp [go_sem])).mono ?_); rintro e w' ⟨rfl, rfl⟩) | (go_at_call 16; refine (K1.out _ _ (by simp [go_sem])).mono ?_; rintro e w' ⟨rfl, rfl⟩))
          go_ret
          exact ⟨rfl, (by repeat (first | with_reducible exact Below.refl _ _ | with_reducible apply Below.drew | with_reducible refine below_drewN ?_ _ | (with_reducible refine Below.setCell ?_ ?_ _; rotate_left; focus (first | omega | (simp <;> omega))) | (with_reducible refine Below.alloc ?_ ?_ _; rotate_left; focus (first | omega | (simp <;> omega)))))⟩
        · rw [if_neg h3]
          by_cases h4 : A = 0
          · rw [if_pos h4]
            subst h4
            by_cases h5 : B = 0
            · rw [if_pos h5]
              subst h5
              go_enter Tryz.func25, Tryz.ntmps25
              go_wp2_with (first | (go_at_call 42; (with_reducible refine (KW.out _ _ (by simp [go_sem]) (by simp [go_sem])).mono ?_); rintro e w' ⟨rfl, rfl⟩) | (go_at_call 42; (with_reducible refine (KU.out _ _ (by simp [go_sem])).mono ?_); rintro e w' ⟨rfl, rfl⟩) | (go_at_call 16; refine (K1.out _ _ (by simp [go_sem])).mono ?_; rintro e w' ⟨rfl, rfl⟩))
              go_ret
              exact ⟨rfl, (by repeat (first | with_reducible exact Below.refl _ _ | with_reducible apply Below.drew | with_reducible refine below_drewN ?_ _ | (with_reducible refine Below.setCell ?_ ?_ _; rotate_left; focus (first | omega | (simp <;> omega))) | (with_reducible refine Below.alloc ?_ ?_ _; rotate_left; focus (first | omega | (simp <;> omega)))))⟩
            · rw [if_neg h5]
              have q2 : (B == 0) = false := by simpa using h5
              go_enter Tryz.func25, Tryz.ntmps25
              go_wp2_with (first | (go_at_call 42; (with_reducible refine (KW.out _ _ (by simp [go_sem]) (by simp [go_sem])).mono ?_); rintro e w' ⟨rfl, rfl⟩) | (go_at_call 42; (with_reducible refine (KU.out _ _ (by simp [go_sem])).mono ?_); rintro e w' ⟨rfl, rfl⟩) | (go_at_call 16; refine (K1.out _ _ (by simp [go_sem])).mono ?_; rintro e w' ⟨rfl, rfl⟩))
              go_ret
              exact ⟨rfl, (by repeat (first | with_reducible exact Below.refl _ _ | with_reducible apply Below.drew | with_reducible refine below_drewN ?_ _ | (with_reducible refine Below.setCell ?_ ?_ _; rotate_left; focus (first | omega | (simp <;> omega))) | (with_reducible refine Below.alloc ?_ ?_ _; rotate_left; focus (first | omega | (simp <;> omega)))))⟩
          · rw [if_neg h4]
            have q1 : (A == 0) = false := by simpa using h4
            go_enter Tryz.func25, Tryz.ntmps25
            go_wp2_with (first | (go_at_call 42; (with_reducible refine (KW.out _ _ (by simp [go_sem]) (by simp [go_sem])).mono ?_); rintro e w' ⟨rfl, rfl⟩) | (go_at_call 42; (with_reducible refine (KU.out _ _ (by simp [go_sem])).mono ?_); rintro e w' ⟨rfl, rfl⟩) | (go_at_call 16; refine (K1.out _ _ (by simp [go_sem])).mono ?_; rintro e w' ⟨rfl, rfl⟩))
            go_ret
            exact ⟨rfl, (by repeat (first | with_reducible exact Below.refl _ _ | with_reducible apply Below.drew | with_reducible refine below_drewN ?_ _ | (with_reducible refine Below.setCell ?_ ?_ _; rotate_left; focus (first | omega | (simp <;> omega))) | (with_reducible refine Below.alloc ?_ ?_ _; rotate_left; focus (first | omega | (simp <;> omega)))))⟩

theorem faultin_any (n m : Int) (w : World) (h0 : 0 ≤ m) (hm : m ≤ 1099511627776) : Calls Tryz.prog 90 #[.int .i64 n, .int .i64 m] w fun e w' => e = .returned (.bool (inB m n)) ∧ w = w' := by
  unfold inB
  by_cases h1 : -m ≤ n
  · by_cases h2 : n ≤ m
    · rw [decide_eq_true (show -m ≤ n ∧ n ≤ m from ⟨h1, h2⟩)]
      go_enter Tryz.func90, Tryz.ntmps90
      go_wp2
      go_ret
      exact ⟨rfl, rfl⟩
    · rw [decide_eq_false (show ¬ (-m ≤ n ∧ n ≤ m) by omega)]
      go_enter Tryz.func90, Tryz.ntmps90
      go_wp2
      go_ret
      exact ⟨rfl, rfl⟩
  · rw [decide_eq_false (show ¬ (-m ≤ n ∧ n ≤ m) by omega)]
    go_enter Tryz.func90, Tryz.ntmps90
    go_wp2
    go_ret
    exact ⟨rfl, rfl⟩
set_option maxRecDepth 100000 in
set_option maxHeartbeats 2000000 in
theorem refcheck_fault (A B C W : Int) (T : Nat) (w : World) (hT : T < 4294967296) :
    Calls Tryz.prog 59 #[faultV A B C W T] w fun e w' => e = .returned (.int .i64 (faultE A B C W T)) ∧ Below w.heap.size w w' := by
  have K1 := Lib.hid (fun W g h => refheight_one W g T hT h)
  have kx := Lib.hid (fun w => faultin_any A 1000 w (by decide) (by decide))
  have ky := Lib.hid (fun w => faultin_any B 1000 w (by decide) (by decide))
  have kz := Lib.hid (fun w => faultin_any C 1099511627776 w (by decide) (by decide))
  clear hT
  unfold faultE
  generalize htE [T] = a at *
  cases h0 : inB 1000 A with
  | false =>
    rw [h0] at kx
    rw [if_pos (by simp)]
    clear h0
    go_enter Tryz.func59, Tryz.ntmps59
    go_wp2_with (first | (go_at_call 90; (with_reducible refine (kx.out _).mono ?_); rintro e w' ⟨rfl, rfl⟩) | (go_at_call 90; (with_reducible refine (ky.out _).mono ?_); rintro e w' ⟨rfl, rfl⟩) | (go_at_call 90; (with_reducible refine (kz.out _).mono ?_); rintro e w' ⟨rfl, rfl⟩) | (go_at_call 49; refine (K1.out _ _ (by simp [go_sem])).mono ?_; rintro e w' ⟨rfl, rfl⟩))
    go_ret
    exact ⟨rfl, (by repeat (first | with_reducible exact Below.refl _ _ | with_reducible apply Below.drew | with_reducible refine below_drewN ?_ _ | (with_reducible refine Below.setCell ?_ ?_ _; rotate_left; focus (first | omega | (simp <;> omega))) | (with_reducible refine Below.alloc ?_ ?_ _; rotate_left; focus (first | omega | (simp <;> omega)))))⟩
  | true =>
    rw [h0] at kx
    cases h1 : inB 1000 B with
    | false =>
      rw [h1] at ky
      rw [if_pos (by simp)]
      clear h0 h1
      go_enter Tryz.func59, Tryz.ntmps59
      go_wp2_with (first | (go_at_call 90; (with_reducible refine (kx.out _).mono ?_); rintro e w' ⟨rfl, rfl⟩) | (go_at_call 90; (with_reducible refine (ky.out _).mono ?_); rintro e w' ⟨rfl, rfl⟩) | (go_at_call 90; (with_reducible refine (kz.out _).mono ?_); rintro e w' ⟨rfl, rfl⟩) | (go_at_call 49; refine (K1.out _ _ (by simp [go_sem])).mono ?_; rintro e w' ⟨rfl, rfl⟩))
      go_ret
      exact ⟨rfl, (by repeat (first | with_reducible exact Below.refl _ _ | with_reducible apply Below.drew | with_reducible refine below_drewN ?_ _ | (with_reducible refine Below.setCell ?_ ?_ _; rotate_left; focus (first | omega | (simp <;> omega))) | (with_reducible refine Below.alloc ?_ ?_ _; rotate_left; focus (first | omega | (simp <;> omega)))))⟩
    | true =>
      rw [h1] at ky
      rw [if_neg (by decide)]
      clear h0 h1
      cases h9 : inB 1099511627776 C with
      | false =>
        rw [h9] at kz
        rw [if_pos rfl]
        clear h9
        go_enter Tryz.func59, Tryz.ntmps59
        go_wp2_with (first | (go_at_call 90; (with_reducible refine (kx.out _).mono ?_); rintro e w' ⟨rfl, rfl⟩) | (go_at_call 90; (with_reducible refine (ky.out _).mono ?_); rintro e w' ⟨rfl, rfl⟩) | (go_at_call 90; (with_reducible refine (kz.out _).mono ?_); rintro e w' ⟨rfl, rfl⟩) | (go_at_call 49; refine (K1.out _ _ (by simp [go_sem])).mono ?_; rintro e w' ⟨rfl, rfl⟩))
        go_ret
        exact ⟨rfl, (by repeat (first | with_reducible exact Below.refl _ _ | with_reducible apply Below.drew | with_reducible refine below_drewN ?_ _ | (with_reducible refine Below.setCell ?_ ?_ _; rotate_left; focus (first | omega | (simp <;> omega))) | (with_reducible refine Below.alloc ?_ ?_ _; rotate_left; focus (first | omega | (simp <;> omega)))))⟩
      | true =>
        rw [h9] at kz
        rw [if_neg (by decide)]
        clear h9
        by_cases h2 : W < 0
        · rw [if_pos h2]
          go_enter Tryz.func59, Tryz.ntmps59
          go_wp2_with (first | (go_at_call 90; (with_reducible refine (kx.out _).mono ?_); rintro e w' ⟨rfl, rfl⟩) | (go_at_call 90; (with_reducible refine (ky.out _).mono ?_); rintro e w' ⟨rfl, rfl⟩) | (go_at_call 90; (with_reducible refine (kz.out _).mono ?_); rintro e w' ⟨rfl, rfl⟩) | (go_at_call 49; refine (K1.out _ _ (by simp [go_sem])).mono ?_; rintro e w' ⟨rfl, rfl⟩))
          go_ret
          exact ⟨rfl, (by repeat (first | with_reducible exact Below.refl _ _ | with_reducible apply Below.drew | with_reducible refine below_drewN ?_ _ | (with_reducible refine Below.setCell ?_ ?_ _; rotate_left; focus (first | omega | (simp <;> omega))) | (with_reducible refine Below.alloc ?_ ?_ _; rotate_left; focus (first | omega | (simp <;> omega)))))⟩
        · rw [if_neg h2]
          by_cases h3 : 4096 < W
          · rw [if_pos h3]
            go_enter Tryz.func59, Tryz.ntmps59
            go_wp2_with (first | (go_at_call 90; (with_reducible refine (kx.out _).mono ?_); rintro e w' ⟨rfl, rfl⟩) | (go_at_call 90; (with_reducible refine (ky.out _).mono ?_); rintro e w' ⟨rfl, rfl⟩) | (go_at_call 90; (with_reducible refine (kz.out _).mono ?_); rintro e w' ⟨rfl, rfl⟩) | (go_at_call 49; refine (K1.out _ _ (by simp [go_sem])).mono ?_; rintro e w' ⟨rfl, rfl⟩))
            go_ret
            exact ⟨rfl, (by repeat (first | with_reducible exact Below.refl _ _ | with_reducible apply Below.drew | with_reducible refine below_drewN ?_ _ | (with_reducible refine Below.setCell ?_ ?_ _; rotate_left; focus (first | omega | (simp <;> omega))) | (with_reducible refine Below.alloc ?_ ?_ _; rotate_left; focus (first | omega | (simp <;> omega)))))⟩
          · rw [if_neg h3]
            by_cases h4 : A = 0
            · rw [if_pos h4]
              subst h4
              by_cases h5 : B = 0
              · rw [if_pos h5]
                subst h5
                go_enter Tryz.func59, Tryz.ntmps59
                go_wp2_with (first | (go_at_call 90; (with_reducible refine (kx.out _).mono ?_); rintro e w' ⟨rfl, rfl⟩) | (go_at_call 90; (with_reducible refine (ky.out _).mono ?_); rintro e w' ⟨rfl, rfl⟩) | (go_at_call 90; (with_reducible refine (kz.out _).mono ?_); rintro e w' ⟨rfl, rfl⟩) | (go_at_call 49; refine (K1.out _ _ (by simp [go_sem])).mono ?_; rintro e w' ⟨rfl, rfl⟩))
                go_ret
                exact ⟨rfl, (by repeat (first | with_reducible exact Below.refl _ _ | with_reducible apply Below.drew | with_reducible refine below_drewN ?_ _ | (with_reducible refine Below.setCell ?_ ?_ _; rotate_left; focus (first | omega | (simp <;> omega))) | (with_reducible refine Below.alloc ?_ ?_ _; rotate_left; focus (first | omega | (simp <;> omega)))))⟩
              · rw [if_neg h5]
                have q2 : (B == 0) = false := by simpa using h5
                go_enter Tryz.func59, Tryz.ntmps59
                go_wp2_with (first | (go_at_call 90; (with_reducible refine (kx.out _).mono ?_); rintro e w' ⟨rfl, rfl⟩) | (go_at_call 90; (with_reducible refine (ky.out _).mono ?_); rintro e w' ⟨rfl, rfl⟩) | (go_at_call 90; (with_reducible refine (kz.out _).mono ?_); rintro e w' ⟨rfl, rfl⟩) | (go_at_call 49; refine (K1.out _ _ (by simp [go_sem])).mono ?_; rintro e w' ⟨rfl, rfl⟩))
                go_ret
                exact ⟨rfl, (by repeat (first | with_reducible exact Below.refl _ _ | with_reducible apply Below.drew | with_reducible refine below_drewN ?_ _ | (with_reducible refine Below.setCell ?_ ?_ _; rotate_left; focus (first | omega | (simp <;> omega))) | (with_reducible refine Below.alloc ?_ ?_ _; rotate_left; focus (first | omega | (simp <;> omega)))))⟩
            · rw [if_neg h4]
              have q1 : (A == 0) = false := by simpa using h4
              go_enter Tryz.func59, Tryz.ntmps59
              go_wp2_with (first | (go_at_call 90; (with_reducible refine (kx.out _).mono ?_); rintro e w' ⟨rfl, rfl⟩) | (go_at_call 90; (with_reducible refine (ky.out _).mono ?_); rintro e w' ⟨rfl, rfl⟩) | (go_at_call 90; (with_reducible refine (kz.out _).mono ?_); rintro e w' ⟨rfl, rfl⟩) | (go_at_call 49; refine (K1.out _ _ (by simp [go_sem])).mono ?_; rintro e w' ⟨rfl, rfl⟩))
              go_ret
              exact ⟨rfl, (by repeat (first | with_reducible exact Below.refl _ _ | with_reducible apply Below.drew | with_reducible refine below_drewN ?_ _ | (with_reducible refine Below.setCell ?_ ?_ _; rotate_left; focus (first | omega | (simp <;> omega))) | (with_reducible refine Below.alloc ?_ ?_ _; rotate_left; focus (first | omega | (simp <;> omega)))))⟩
end Go.Proofs.YtimhpmccmafnpaaGreat
