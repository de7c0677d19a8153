import Derived.Test.YtimhpmccmafnpaaGreatG14
import Derived.BigQuiet
import Derived.Deep.CutBlock
import Derived.Deep.QuietTactic
import Derived.Deep.DeepCutAuto
import Derived.Deep.RegionHeld3
import Derived.IntWalk
import Derived.LoopN
import Derived.Test.YtimhpmccmafnpaaGreatG13
import Derived.Test.YtimhpmccmafnpaaGreatG09
namespace Go.Proofs.YtimhpmccmafnpaaGreat
open Go.ChangeShapes Go.WideShapes Go.ChangeAt Go.RowKit
open Ieee.Format (fin finE htE allFin allHt all_true all_false mulF subF addF Ht Bd divF rootF floorF easeF mixF)
set_option linter.unusedVariables false

set_option maxRecDepth 100000 in
set_option maxHeartbeats 1000000 in
theorem idx_shade (s : ByteArray) (hz : s.toList = [115, 104, 97, 100, 101]) (k : Nat) (W : World) (hk : W.heap[k]? = some (.cells #[.string { data := #[] }, .string { data := #[97, 100, 100] }, .string { data := #[115, 117, 98] }, .string { data := #[109, 117, 108] }, .string { data := #[100, 105, 118] }, .string { data := #[108, 101, 115, 115] }, .string { data := #[109, 111, 114, 101] }, .string { data := #[111, 118, 101, 114] }] 9 (0, 0))) :
    Calls Tryz.prog 122 #[.slice (some ⟨k, 0, none⟩) 8 8, .string s] W fun e w' => e = .returned (.int .i64 (-1)) ∧ W = w' := by
  have c0 : W.cell? ⟨k, 0, none⟩ = some (.string { data := #[] }) := cell_of_row W k 0 _ _ _ hk
  have c1 : W.cell? ⟨k, 1, none⟩ = some (.string { data := #[97, 100, 100] }) := cell_of_row W k 1 _ _ _ hk
  have c2 : W.cell? ⟨k, 2, none⟩ = some (.string { data := #[115, 117, 98] }) := cell_of_row W k 2 _ _ _ hk
  have c3 : W.cell? ⟨k, 3, none⟩ = some (.string { data := #[109, 117, 108] }) := cell_of_row W k 3 _ _ _ hk
  have c4 : W.cell? ⟨k, 4, none⟩ = some (.string { data := #[100, 105, 118] }) := cell_of_row W k 4 _ _ _ hk
  have c5 : W.cell? ⟨k, 5, none⟩ = some (.string { data := #[108, 101, 115, 115] }) := cell_of_row W k 5 _ _ _ hk
  have c6 : W.cell? ⟨k, 6, none⟩ = some (.string { data := #[109, 111, 114, 101] }) := cell_of_row W k 6 _ _ _ hk
  have c7 : W.cell? ⟨k, 7, none⟩ = some (.string { data := #[111, 118, 101, 114] }) := cell_of_row W k 7 _ _ _ hk
  clear hk
  go_enter Tryz.func122, Tryz.ntmps122
  go_wp2_with fail
  refine wp_loop_rounds 9 ?_
  rw [rounds_succ]
  go_wp2_with fail
  rw [rounds_succ]
  go_wp2_with fail
  rw [rounds_succ]
  go_wp2_with fail
  rw [rounds_succ]
  go_wp2_with fail
  rw [rounds_succ]
  go_wp2_with fail
  rw [rounds_succ]
  go_wp2_with fail
  rw [rounds_succ]
  go_wp2_with fail
  rw [rounds_succ]
  go_wp2_with fail
  rw [rounds_succ]
  go_wp2_with fail
  go_ret
  exact ⟨rfl, rfl⟩
set_option maxRecDepth 100000 in
set_option maxHeartbeats 1000000 in
theorem comb_shade (s : ByteArray) (hz : s.toList = [115, 104, 97, 100, 101]) (w : World) : Calls Tryz.prog 82 #[.string s] w fun e w' => e = .returned (.int .i64 (-1)) ∧ Below w.heap.size w w' := by
  have KI := Lib.hid (fun k W hk => idx_shade s hz k W hk)
  go_enter Tryz.func82, Tryz.ntmps82
  go_wp2_with fail
  refine (KI.out _ _ (heap_alloc_new w _)).mono ?_
  rintro e w2 ⟨rfl, rfl⟩
  go_wp2_with fail
  go_ret
  exact ⟨rfl, (by repeat (first | with_reducible exact Below.refl _ _ | with_reducible apply Below.drew | with_reducible refine below_drewN ?_ _ | (with_reducible refine Below.setCell ?_ ?_ _; rotate_left; focus (first | omega | (simp <;> omega))) | (with_reducible refine Below.alloc ?_ ?_ _; rotate_left; focus (first | omega | (simp <;> omega)))))⟩
set_option maxRecDepth 100000 in
set_option maxHeartbeats 1000000 in
theorem ap_shade (s : ByteArray) (ia : Option Addr) (nin cin b o cI g cap sb cR : Nat) (ra : Option Addr) (i0 i1 i2 : Int) (c : Int) (w : World) (hz : s.toList = [115, 104, 97, 100, 101])
    (hI : ZRow w (some ⟨b, o, none⟩) [i0, i1, i2]) (hR : SRow w ra []) (hF : Fld w sb 0 0 3 3 (.slice (some ⟨g, 0, none⟩) 9 cap)) (hl : SRow w (some ⟨g, 0, none⟩) l9)
    (KC : ∀ w', ZRow w' (some ⟨b, o, none⟩) [i0, i1, i2] → SRow w' (some ⟨g, 0, none⟩) l9 → Calls Tryz.prog 84 #[ndV s ia nin cin (some ⟨b, o, none⟩) 3 cI ra 0 cR, reg 1 1 1 1, fldV 0 0 3 3 (some ⟨g, 0, none⟩) 9 cap] w' (TryP c w')) :
    Calls Tryz.prog 44 #[ndV s ia nin cin (some ⟨b, o, none⟩) 3 cI ra 0 cR, reg 1 1 1 1, .slice (some ⟨sb, 0, none⟩) 1 1] w (TryP c w) := by
  have KC := Lib.hid KC
  have KI := Lib.hid (fun w => comb_shade s hz w)
  have HS := Lib.hid (ApS.start (s := s) (ia := ia) (nin := nin) (cin := cin) (nI := 3) (cI := cI) (nR := 0) (cR := cR) (X := 1) (Y := 1) (W := 1) (H := 1) hI hR hF hl)
  clear hI hR hF hl
  go_enter Tryz.func44, Tryz.ntmps44
  go_upto_region 1 with fail
  generalize ((w.alloc (.cells #[.string s, .slice ia nin cin, .slice (some ⟨b, o, none⟩) 3 cI, .slice ra 0 cR] 25)).alloc (.cells #[.int .i64 1, .int .i64 1, .int .i64 1, .int .i64 1] 33)).alloc (.cells #[.int .i64 0, .int .i64 0, .int .i64 0, .int .i64 0, .slice none 0 0] 78) = W0 at *
  have p0 := HS.out.nd.cells.1
  have l0 := HS.out.nd.lt
  go_wp2_with fail
  refine (KI.out _).mono ?_
  rintro e w1 ⟨rfl, hb⟩
  have HS1 := Lib.hid (HS.out.call hb)
  clear hb HS p0 l0
  go_wp2_with fail
  refine wp_region_noPanic ?_
  refine wp_region_heldT (ApS w s ia nin cin (some ⟨b, o, none⟩) 3 cI ra 0 cR [i0, i1, i2] [] 1 1 1 1 sb g cap) 8 (by kernel_rfl) HS1.out.drew (fun hHeld => ?_)
  refine wpAnyT_takeL [5, 6, 7, 8, 9] (i := 0) (v := ?_) rfl (by kernel_rfl) (by kernel_rfl) (by kernel_rfl) (by kernel_rfl) (fun _ _ _ h => h) (Or.inl ⟨by rfl, ?_⟩) (by with_reducible assumption) ?_
  rotate_left
  · intro w₁ hSw
    obtain ⟨p0, p1, p2, p3⟩ := hSw.nd.cells
    go_simp
    try with_reducible rfl
  try simp only [Act.put, List.setIfInBounds_toArray, List.set_cons_zero, List.set_cons_succ]
  refine wpAnyT_takeL [5, 6, 7, 8, 9] (i := 1) (v := ?_) rfl (by kernel_rfl) (by kernel_rfl) (by kernel_rfl) (by kernel_rfl) (fun _ _ _ h => h) (Or.inl ⟨by rfl, ?_⟩) (by with_reducible assumption) ?_
  rotate_left
  · intro w₁ hSw
    obtain ⟨f0, f1, f2, f3⟩ := hSw.rg.cells
    go_simp
    try with_reducible rfl
  try simp only [Act.put, List.setIfInBounds_toArray, List.set_cons_zero, List.set_cons_succ]
  refine wpAnyT_takeL [3, 4, 5, 6, 7, 8, 9] (i := 2) (v := ?_) rfl (by kernel_rfl) (by kernel_rfl) (by kernel_rfl) (by kernel_rfl) (fun _ _ _ h => h) (Or.inl ⟨by rfl, ?_⟩) (by with_reducible assumption) ?_
  rotate_left
  · intro w₁ hSw
    skip
    go_simp
    try with_reducible rfl
  try simp only [Act.put, List.setIfInBounds_toArray, List.set_cons_zero, List.set_cons_succ]
  refine wpAnyT_takeL [4, 5, 6, 7, 8, 9] (i := 3) (v := ?_) rfl (by kernel_rfl) (by kernel_rfl) (by kernel_rfl) (by kernel_rfl) (fun _ _ _ h => h) (Or.inl ⟨by rfl, ?_⟩) (by with_reducible assumption) ?_
  rotate_left
  · intro w₁ hSw
    skip
    go_simp
    try with_reducible rfl
  try simp only [Act.put, List.setIfInBounds_toArray, List.set_cons_zero, List.set_cons_succ]
  refine wpAnyT_takeL [5, 6, 7, 8, 9] (i := 4) (v := ?_) rfl (by kernel_rfl) (by kernel_rfl) (by kernel_rfl) (by kernel_rfl) (fun _ _ _ h => h) (Or.inl ⟨by rfl, ?_⟩) (by with_reducible assumption) ?_
  rotate_left
  · intro w₁ hSw
    obtain ⟨f0, f1, f2, f3, f4⟩ := hSw.f.cells
    go_simp
    try with_reducible rfl
  try simp only [Act.put, List.setIfInBounds_toArray, List.set_cons_zero, List.set_cons_succ]
  refine wpAnyT_ready (rs := [5]) (by kernel_rfl) (by simp) ?_
  refine AllReadyT.cons rfl (fun K hK => ?_) AllReadyT.nil
  go_simp
  (with_reducible refine (KC.out _ hHeld.i hHeld.l).mono ?_)
  rintro e w2 ⟨⟨x, y, p, q, a, n, k, rfl⟩, hb⟩
  have hN := hHeld.call hb
  clear hb
  go_wp2_with fail
  refine hK.out _ _ (fun _ => hN) (fun hS_ => ?_)
  have hHeld := hS_ (by omega)
  clear hS_ hK K
  try simp only [Act.put, List.setIfInBounds_toArray, List.set_cons_zero, List.set_cons_succ]
  refine wpAnyT_takeL [8, 9] (i := 6) (v := ?_) rfl (by kernel_rfl) (by kernel_rfl) (by kernel_rfl) (by kernel_rfl) (fun _ _ _ h => h) (Or.inl ⟨by rfl, ?_⟩) (by with_reducible assumption) ?_
  rotate_left
  · intro w₁ hSw
    skip
    go_simp
    try with_reducible rfl
  try simp only [Act.put, List.setIfInBounds_toArray, List.set_cons_zero, List.set_cons_succ]
  refine wpAnyT_takeL [8, 9] (i := 7) (v := ?_) rfl (by kernel_rfl) (by kernel_rfl) (by kernel_rfl) (by kernel_rfl) (fun _ _ _ h => h) (Or.inl ⟨by rfl, ?_⟩) (by with_reducible assumption) ?_
  rotate_left
  · intro w₁ hSw
    skip
    go_simp
    try with_reducible rfl
  try simp only [Act.put, List.setIfInBounds_toArray, List.set_cons_zero, List.set_cons_succ]
  refine wpAnyT_ready (rs := [8]) (by kernel_rfl) (by simp) ?_
  refine AllReadyT.cons rfl (fun K hK => ?_) AllReadyT.nil
  have q0 := hHeld.rs.frozen 0
  have q1 := hHeld.rs.frozen 1
  have q2 := hHeld.rs.frozen 2
  have q3 := hHeld.rs.frozen 3
  have q4 := hHeld.rs.frozen 4
  obtain ⟨d0, d1, d2, d3, d4⟩ := hHeld.rs.cells
  have lt := hHeld.rs.lt
  have HB := Lib.hid hHeld.b
  have HQ := Lib.hid (st_5 (W := w2) hHeld.rs (.int .i64 x) (.int .i64 y) (.int .i64 p) (.int .i64 q) (.slice a n k) _ rfl)
  go_simp
  refine hK.out _ _ (fun h => absurd h (by omega)) (fun _ => ?_)
  clear hK K
  try simp only [Act.put, List.setIfInBounds_toArray, List.set_cons_zero, List.set_cons_succ]
  refine wpAnyT_ready (rs := [9]) (by kernel_rfl) (by simp) ?_
  refine AllReadyT.cons rfl (fun K hK => ?_) AllReadyT.nil
  go_simp
  refine hK.out _ _ (fun h => absurd h (by omega)) (fun _ => ?_)
  clear hK K
  try simp only [Act.put, List.setIfInBounds_toArray, List.set_cons_zero, List.set_cons_succ]
  refine wpAnyT_done (by kernel_rfl) ?_ _
  refine NoPanic.normal ?_
  obtain ⟨e5, b5⟩ := HQ.out
  have lt5 : w.heap.size + 2 < (((((w2.setCell ⟨w.heap.size + 2, 0, none⟩ (.int .i64 x)).setCell ⟨w.heap.size + 2, 1, none⟩ (.int .i64 y)).setCell ⟨w.heap.size + 2, 2, none⟩ (.int .i64 p)).setCell ⟨w.heap.size + 2, 3, none⟩ (.int .i64 q)).setCell ⟨w.heap.size + 2, 4, none⟩ (.slice a n k)).heap.size := by simpa using lt
  clear HQ d0 d1 d2 d3 d4 q0 q1 q2 q3 q4
  generalize ((((w2.setCell ⟨w.heap.size + 2, 0, none⟩ (.int .i64 x)).setCell ⟨w.heap.size + 2, 1, none⟩ (.int .i64 y)).setCell ⟨w.heap.size + 2, 2, none⟩ (.int .i64 p)).setCell ⟨w.heap.size + 2, 3, none⟩ (.int .i64 q)).setCell ⟨w.heap.size + 2, 4, none⟩ (.slice a n k) = W5 at *
  have z0 : W5.cell? ⟨w.heap.size + 2, 0, none⟩ = some (.int .i64 x) := cell_of_row W5 _ 0 _ _ _ e5
  have z1 : W5.cell? ⟨w.heap.size + 2, 1, none⟩ = some (.int .i64 y) := cell_of_row W5 _ 1 _ _ _ e5
  have z2 : W5.cell? ⟨w.heap.size + 2, 2, none⟩ = some (.int .i64 p) := cell_of_row W5 _ 2 _ _ _ e5
  have z3 : W5.cell? ⟨w.heap.size + 2, 3, none⟩ = some (.int .i64 q) := cell_of_row W5 _ 3 _ _ _ e5
  have z4 : W5.cell? ⟨w.heap.size + 2, 4, none⟩ = some (.slice a n k) := cell_of_row W5 _ 4 _ _ _ e5
  have hb := HB.out.trans (b5.mono (by omega))
  clear e5 b5 HB
  go_wp2_with fail
  exact bodyPost_ret (v := .tuple #[fldV x y p q a n k, .int .i64 c]) (by simp [results, Tryz.results44, go_sem, *]) rfl ⟨⟨x, y, p, q, a, n, k, rfl⟩, hb⟩
/-- the memory of around -/
structure ArS (w : World) (s : ByteArray) (ia : Option Addr) (nin cin : Nat) (la : Option Addr) (nI cI : Nat) (ra : Option Addr) (nR cR : Nat) (I : List Int) (g cap : Nat) (wr : World) : Prop where
  nd : NdAt wr w.heap.size s ia nin cin la nI cI ra nR cR
  bx : Fld wr (w.heap.size + 2) 0 0 3 3 (.slice (some ⟨g, 0, none⟩) 9 cap)
  rs : Fld wr (w.heap.size + 3) 0 0 0 0 (.slice none 0 0)
  i : ZRow wr la I
  l : SRow wr (some ⟨g, 0, none⟩) l9
  b : Below w.heap.size w wr
section
variable {w wr w2 : World} {s : ByteArray} {ia la ra : Option Addr} {nin cin nI cI nR cR g cap : Nat} {I : List Int} {X Y W H : Int}
theorem ArS.call (h : ArS w s ia nin cin la nI cI ra nR cR I g cap wr) (hb : Below wr.heap.size wr w2) : ArS w s ia nin cin la nI cI ra nR cR I g cap w2 :=
  ⟨h.nd.below hb h.nd.lt, h.bx.below hb h.bx.lt, h.rs.below hb h.rs.lt, h.i.below hb, h.l.below hb, h.b.trans (hb.mono h.b.size)⟩
theorem ArS.drew (h : ArS w s ia nin cin la nI cI ra nR cR I g cap wr) : ArS w s ia nin cin la nI cI ra nR cR I g cap wr.drew :=
  ⟨⟨h.nd.blk⟩, h.bx, h.rs, h.i, h.l.drew, h.b.drew⟩
theorem ArS.start (hI : ZRow w la I) (hl : SRow w (some ⟨g, 0, none⟩) l9) :
    ArS w s ia nin cin la nI cI ra nR cR I g cap ((((w.alloc (.cells #[.string s, .slice ia nin cin, .slice la nI cI, .slice ra nR cR] 25)).alloc (.cells #[.int .i64 X, .int .i64 Y, .int .i64 W, .int .i64 H] 33)).alloc (.cells #[.int .i64 0, .int .i64 0, .int .i64 3, .int .i64 3, .slice (some ⟨g, 0, none⟩) 9 cap] 78)).alloc (.cells #[.int .i64 0, .int .i64 0, .int .i64 0, .int .i64 0, .slice none 0 0] 78)) := by
  have b0 : Below w.heap.size w ((((w.alloc (.cells #[.string s, .slice ia nin cin, .slice la nI cI, .slice ra nR cR] 25)).alloc (.cells #[.int .i64 X, .int .i64 Y, .int .i64 W, .int .i64 H] 33)).alloc (.cells #[.int .i64 0, .int .i64 0, .int .i64 3, .int .i64 3, .slice (some ⟨g, 0, none⟩) 9 cap] 78)).alloc (.cells #[.int .i64 0, .int .i64 0, .int .i64 0, .int .i64 0, .slice none 0 0] 78)) := (by repeat (first | with_reducible exact Below.refl _ _ | with_reducible apply Below.drew | with_reducible refine below_drewN ?_ _ | (with_reducible refine Below.setCell ?_ ?_ _; rotate_left; focus (first | omega | (simp <;> omega))) | (with_reducible refine Below.alloc ?_ ?_ _; rotate_left; focus (first | omega | (simp <;> omega)))))
  refine ⟨?_, ?_, ?_, hI.below b0, hl.below b0, b0⟩
  · exact (NdAt.new _ _ _ _ _ _ _ _ _ _ _).below (((Below.refl (w.heap.size + 1) _).alloc (by simp) _ |>.alloc (by simp) _) |>.alloc (by simp) _) (by omega)
  · have := (Fld.new ((w.alloc (.cells #[.string s, .slice ia nin cin, .slice la nI cI, .slice ra nR cR] 25)).alloc (.cells #[.int .i64 X, .int .i64 Y, .int .i64 W, .int .i64 H] 33)) 0 0 3 3 (.slice (some ⟨g, 0, none⟩) 9 cap)).alloc (.cells #[.int .i64 0, .int .i64 0, .int .i64 0, .int .i64 0, .slice none 0 0] 78)
    simpa using this
  · have := Fld.new (((w.alloc (.cells #[.string s, .slice ia nin cin, .slice la nI cI, .slice ra nR cR] 25)).alloc (.cells #[.int .i64 X, .int .i64 Y, .int .i64 W, .int .i64 H] 33)).alloc (.cells #[.int .i64 0, .int .i64 0, .int .i64 3, .int .i64 3, .slice (some ⟨g, 0, none⟩) 9 cap] 78)) 0 0 0 0 (.slice none 0 0)
    simpa using this
end
set_option maxRecDepth 100000 in
set_option maxHeartbeats 1000000 in
theorem around_shade (s : ByteArray) (ia : Option Addr) (nin cin b o cI g cap cR : Nat) (ra : Option Addr) (i0 i1 i2 : Int) (c : Int) (w : World) (hz : s.toList = [115, 104, 97, 100, 101])
    (hI : ZRow w (some ⟨b, o, none⟩) [i0, i1, i2]) (hl : SRow w (some ⟨g, 0, none⟩) l9)
    (KC : ∀ w', SRow w' (some ⟨g, 0, none⟩) l9 → Calls Tryz.prog 131 #[fldV 0 0 3 3 (some ⟨g, 0, none⟩) 9 cap, .int .i64 i0, .int .i64 i1, .int .i64 i2] w' (TryP c w')) :
    Calls Tryz.prog 84 #[ndV s ia nin cin (some ⟨b, o, none⟩) 3 cI ra 0 cR, reg 1 1 1 1, fldV 0 0 3 3 (some ⟨g, 0, none⟩) 9 cap] w (TryP c w) := by
  have KC := Lib.hid KC
  have HS := Lib.hid (ArS.start (s := s) (ia := ia) (nin := nin) (cin := cin) (nI := 3) (cI := cI) (ra := ra) (nR := 0) (cR := cR) (cap := cap) (X := 1) (Y := 1) (W := 1) (H := 1) hI hl)
  clear hI hl
  go_enter Tryz.func84, Tryz.ntmps84
  go_upto_region 1 with fail
  generalize (((w.alloc (.cells #[.string s, .slice ia nin cin, .slice (some ⟨b, o, none⟩) 3 cI, .slice ra 0 cR] 25)).alloc (.cells #[.int .i64 1, .int .i64 1, .int .i64 1, .int .i64 1] 33)).alloc (.cells #[.int .i64 0, .int .i64 0, .int .i64 3, .int .i64 3, .slice (some ⟨g, 0, none⟩) 9 cap] 78)).alloc (.cells #[.int .i64 0, .int .i64 0, .int .i64 0, .int .i64 0, .slice none 0 0] 78) = W0 at *
  have p0 := HS.out.nd.cells.1
  have l0 := HS.out.nd.lt
  go_wp2_with fail
  clear p0 l0
  refine wp_region_noPanic ?_
  refine wp_region_heldT (ArS w s ia nin cin (some ⟨b, o, none⟩) 3 cI ra 0 cR [i0, i1, i2] g cap) 16 (by kernel_rfl) HS.out.drew (fun hHeld => ?_)
  refine wpAnyT_takeL [13, 14, 15, 16, 17] (i := 0) (v := ?_) rfl (by kernel_rfl) (by kernel_rfl) (by kernel_rfl) (by kernel_rfl) (fun _ _ _ h => h) (Or.inl ⟨by rfl, ?_⟩) (by with_reducible assumption) ?_
  rotate_left
  · intro w₁ hSw
    obtain ⟨f0, f1, f2, f3, f4⟩ := hSw.bx.cells
    go_simp
    try with_reducible rfl
  try simp only [Act.put, List.setIfInBounds_toArray, List.set_cons_zero, List.set_cons_succ]
  refine wpAnyT_takeL [2, 3, 4, 13, 14, 15, 16, 17] (i := 1) (v := ?_) rfl (by kernel_rfl) (by kernel_rfl) (by kernel_rfl) (by kernel_rfl) (fun _ _ _ h => h) (Or.inl ⟨by rfl, ?_⟩) (by with_reducible assumption) ?_
  rotate_left
  · intro w₁ hSw
    skip
    go_simp
    try with_reducible rfl
  try simp only [Act.put, List.setIfInBounds_toArray, List.set_cons_zero, List.set_cons_succ]
  refine wpAnyT_takeL [3, 4, 13, 14, 15, 16, 17] (i := 2) (v := ?_) rfl (by kernel_rfl) (by kernel_rfl) (by kernel_rfl) (by kernel_rfl) (fun _ _ _ h => h) (Or.inl ⟨by rfl, ?_⟩) (by with_reducible assumption) ?_
  rotate_left
  · intro w₁ hSw
    have p2 := hSw.nd.cells.2.2.1
    go_simp
    try with_reducible rfl
  try simp only [Act.put, List.setIfInBounds_toArray, List.set_cons_zero, List.set_cons_succ]
  refine wpAnyT_takeL [4, 13, 14, 15, 16, 17] (i := 3) (v := ?_) rfl (by kernel_rfl) (by kernel_rfl) (by kernel_rfl) (by kernel_rfl) (fun _ _ _ h => h) (Or.inl ⟨by rfl, ?_⟩) (by with_reducible assumption) ?_
  rotate_left
  · intro w₁ hSw
    skip
    go_simp
    try with_reducible rfl
  try simp only [Act.put, List.setIfInBounds_toArray, List.set_cons_zero, List.set_cons_succ]
  refine wpAnyT_takeL [13, 14, 15, 16, 17] (i := 4) (v := ?_) rfl (by kernel_rfl) (by kernel_rfl) (by kernel_rfl) (by kernel_rfl) (fun _ _ _ h => h) (Or.inl ⟨by rfl, ?_⟩) (by with_reducible assumption) ?_
  rotate_left
  · intro w₁ hSw
    have x0 : w₁.cell? ⟨b, o, none⟩ = some (.int .i64 i0) := hSw.i.at_ 0 (by simp)
    go_simp
    try with_reducible rfl
  try simp only [Act.put, List.setIfInBounds_toArray, List.set_cons_zero, List.set_cons_succ]
  refine wpAnyT_takeL [6, 7, 8, 13, 14, 15, 16, 17] (i := 5) (v := ?_) rfl (by kernel_rfl) (by kernel_rfl) (by kernel_rfl) (by kernel_rfl) (fun _ _ _ h => h) (Or.inl ⟨by rfl, ?_⟩) (by with_reducible assumption) ?_
  rotate_left
  · intro w₁ hSw
    skip
    go_simp
    try with_reducible rfl
  try simp only [Act.put, List.setIfInBounds_toArray, List.set_cons_zero, List.set_cons_succ]
  refine wpAnyT_takeL [7, 8, 13, 14, 15, 16, 17] (i := 6) (v := ?_) rfl (by kernel_rfl) (by kernel_rfl) (by kernel_rfl) (by kernel_rfl) (fun _ _ _ h => h) (Or.inl ⟨by rfl, ?_⟩) (by with_reducible assumption) ?_
  rotate_left
  · intro w₁ hSw
    have p2 := hSw.nd.cells.2.2.1
    go_simp
    try with_reducible rfl
  try simp only [Act.put, List.setIfInBounds_toArray, List.set_cons_zero, List.set_cons_succ]
  refine wpAnyT_takeL [8, 13, 14, 15, 16, 17] (i := 7) (v := ?_) rfl (by kernel_rfl) (by kernel_rfl) (by kernel_rfl) (by kernel_rfl) (fun _ _ _ h => h) (Or.inl ⟨by rfl, ?_⟩) (by with_reducible assumption) ?_
  rotate_left
  · intro w₁ hSw
    skip
    go_simp
    try with_reducible rfl
  try simp only [Act.put, List.setIfInBounds_toArray, List.set_cons_zero, List.set_cons_succ]
  refine wpAnyT_takeL [13, 14, 15, 16, 17] (i := 8) (v := ?_) rfl (by kernel_rfl) (by kernel_rfl) (by kernel_rfl) (by kernel_rfl) (fun _ _ _ h => h) (Or.inl ⟨by rfl, ?_⟩) (by with_reducible assumption) ?_
  rotate_left
  · intro w₁ hSw
    have x0 : w₁.cell? ⟨b, o + 1, none⟩ = some (.int .i64 i1) := hSw.i.at_ 1 (by simp)
    go_simp
    try with_reducible rfl
  try simp only [Act.put, List.setIfInBounds_toArray, List.set_cons_zero, List.set_cons_succ]
  refine wpAnyT_takeL [10, 11, 12, 13, 14, 15, 16, 17] (i := 9) (v := ?_) rfl (by kernel_rfl) (by kernel_rfl) (by kernel_rfl) (by kernel_rfl) (fun _ _ _ h => h) (Or.inl ⟨by rfl, ?_⟩) (by with_reducible assumption) ?_
  rotate_left
  · intro w₁ hSw
    skip
    go_simp
    try with_reducible rfl
  try simp only [Act.put, List.setIfInBounds_toArray, List.set_cons_zero, List.set_cons_succ]
  refine wpAnyT_takeL [11, 12, 13, 14, 15, 16, 17] (i := 10) (v := ?_) rfl (by kernel_rfl) (by kernel_rfl) (by kernel_rfl) (by kernel_rfl) (fun _ _ _ h => h) (Or.inl ⟨by rfl, ?_⟩) (by with_reducible assumption) ?_
  rotate_left
  · intro w₁ hSw
    have p2 := hSw.nd.cells.2.2.1
    go_simp
    try with_reducible rfl
  try simp only [Act.put, List.setIfInBounds_toArray, List.set_cons_zero, List.set_cons_succ]
  refine wpAnyT_takeL [12, 13, 14, 15, 16, 17] (i := 11) (v := ?_) rfl (by kernel_rfl) (by kernel_rfl) (by kernel_rfl) (by kernel_rfl) (fun _ _ _ h => h) (Or.inl ⟨by rfl, ?_⟩) (by with_reducible assumption) ?_
  rotate_left
  · intro w₁ hSw
    skip
    go_simp
    try with_reducible rfl
  try simp only [Act.put, List.setIfInBounds_toArray, List.set_cons_zero, List.set_cons_succ]
  refine wpAnyT_takeL [13, 14, 15, 16, 17] (i := 12) (v := ?_) rfl (by kernel_rfl) (by kernel_rfl) (by kernel_rfl) (by kernel_rfl) (fun _ _ _ h => h) (Or.inl ⟨by rfl, ?_⟩) (by with_reducible assumption) ?_
  rotate_left
  · intro w₁ hSw
    have x0 : w₁.cell? ⟨b, o + 2, none⟩ = some (.int .i64 i2) := hSw.i.at_ 2 (by simp)
    go_simp
    try with_reducible rfl
  try simp only [Act.put, List.setIfInBounds_toArray, List.set_cons_zero, List.set_cons_succ]
  refine wpAnyT_ready (rs := [13]) (by kernel_rfl) (by simp) ?_
  refine AllReadyT.cons rfl (fun K hK => ?_) AllReadyT.nil
  go_simp
  (with_reducible refine (KC.out _ hHeld.l).mono ?_)
  rintro e w2 ⟨⟨x, y, p, q, a, n, k, rfl⟩, hb⟩
  have hN := hHeld.call hb
  clear hb
  go_wp2_with fail
  refine hK.out _ _ (fun _ => hN) (fun hS_ => ?_)
  have hHeld := hS_ (by omega)
  clear hS_ hK K
  try simp only [Act.put, List.setIfInBounds_toArray, List.set_cons_zero, List.set_cons_succ]
  refine wpAnyT_takeL [16, 17] (i := 14) (v := ?_) rfl (by kernel_rfl) (by kernel_rfl) (by kernel_rfl) (by kernel_rfl) (fun _ _ _ h => h) (Or.inl ⟨by rfl, ?_⟩) (by with_reducible assumption) ?_
  rotate_left
  · intro w₁ hSw
    skip
    go_simp
    try with_reducible rfl
  try simp only [Act.put, List.setIfInBounds_toArray, List.set_cons_zero, List.set_cons_succ]
  refine wpAnyT_takeL [16, 17] (i := 15) (v := ?_) rfl (by kernel_rfl) (by kernel_rfl) (by kernel_rfl) (by kernel_rfl) (fun _ _ _ h => h) (Or.inl ⟨by rfl, ?_⟩) (by with_reducible assumption) ?_
  rotate_left
  · intro w₁ hSw
    skip
    go_simp
    try with_reducible rfl
  try simp only [Act.put, List.setIfInBounds_toArray, List.set_cons_zero, List.set_cons_succ]
  refine wpAnyT_ready (rs := [16]) (by kernel_rfl) (by simp) ?_
  refine AllReadyT.cons rfl (fun K hK => ?_) AllReadyT.nil
  have q0 := hHeld.rs.frozen 0
  have q1 := hHeld.rs.frozen 1
  have q2 := hHeld.rs.frozen 2
  have q3 := hHeld.rs.frozen 3
  have q4 := hHeld.rs.frozen 4
  obtain ⟨d0, d1, d2, d3, d4⟩ := hHeld.rs.cells
  have lt := hHeld.rs.lt
  have HB := Lib.hid hHeld.b
  have HQ := Lib.hid (st_5 (W := w2) hHeld.rs (.int .i64 x) (.int .i64 y) (.int .i64 p) (.int .i64 q) (.slice a n k) _ rfl)
  go_simp
  refine hK.out _ _ (fun h => absurd h (by omega)) (fun _ => ?_)
  clear hK K
  try simp only [Act.put, List.setIfInBounds_toArray, List.set_cons_zero, List.set_cons_succ]
  refine wpAnyT_ready (rs := [17]) (by kernel_rfl) (by simp) ?_
  refine AllReadyT.cons rfl (fun K hK => ?_) AllReadyT.nil
  go_simp
  refine hK.out _ _ (fun h => absurd h (by omega)) (fun _ => ?_)
  clear hK K
  try simp only [Act.put, List.setIfInBounds_toArray, List.set_cons_zero, List.set_cons_succ]
  refine wpAnyT_done (by kernel_rfl) ?_ _
  refine NoPanic.normal ?_
  obtain ⟨e5, b5⟩ := HQ.out
  have lt5 : w.heap.size + 3 < (((((w2.setCell ⟨w.heap.size + 3, 0, none⟩ (.int .i64 x)).setCell ⟨w.heap.size + 3, 1, none⟩ (.int .i64 y)).setCell ⟨w.heap.size + 3, 2, none⟩ (.int .i64 p)).setCell ⟨w.heap.size + 3, 3, none⟩ (.int .i64 q)).setCell ⟨w.heap.size + 3, 4, none⟩ (.slice a n k)).heap.size := by simpa using lt
  clear HQ d0 d1 d2 d3 d4 q0 q1 q2 q3 q4
  generalize ((((w2.setCell ⟨w.heap.size + 3, 0, none⟩ (.int .i64 x)).setCell ⟨w.heap.size + 3, 1, none⟩ (.int .i64 y)).setCell ⟨w.heap.size + 3, 2, none⟩ (.int .i64 p)).setCell ⟨w.heap.size + 3, 3, none⟩ (.int .i64 q)).setCell ⟨w.heap.size + 3, 4, none⟩ (.slice a n k) = W5 at *
  have z0 : W5.cell? ⟨w.heap.size + 3, 0, none⟩ = some (.int .i64 x) := cell_of_row W5 _ 0 _ _ _ e5
  have z1 : W5.cell? ⟨w.heap.size + 3, 1, none⟩ = some (.int .i64 y) := cell_of_row W5 _ 1 _ _ _ e5
  have z2 : W5.cell? ⟨w.heap.size + 3, 2, none⟩ = some (.int .i64 p) := cell_of_row W5 _ 2 _ _ _ e5
  have z3 : W5.cell? ⟨w.heap.size + 3, 3, none⟩ = some (.int .i64 q) := cell_of_row W5 _ 3 _ _ _ e5
  have z4 : W5.cell? ⟨w.heap.size + 3, 4, none⟩ = some (.slice a n k) := cell_of_row W5 _ 4 _ _ _ e5
  have hb := HB.out.trans (b5.mono (by omega))
  clear e5 b5 HB
  go_wp2_with fail
  exact bodyPost_ret (v := .tuple #[fldV x y p q a n k, .int .i64 c]) (by simp [results, Tryz.results84, go_sem, *]) rfl ⟨⟨x, y, p, q, a, n, k, rfl⟩, hb⟩
end Go.Proofs.YtimhpmccmafnpaaGreat

namespace Go.Proofs.YtimhpmccmafnpaaGreat
open Go.ChangeShapes Go.WideShapes Go.ChangeAt Go.RowKit
open Ieee.Format (fin finE htE allFin allHt all_true all_false mulF subF addF Ht Bd divF rootF floorF easeF mixF)
set_option linter.unusedVariables false
theorem SRow.setC {w : World} {g : Nat} {l : List Nat} (h : SRow w (some ⟨g, 0, none⟩) l) {p : Addr} (hp : g ≠ p.block) (u : Value) : SRow (w.setCell p u) (some ⟨g, 0, none⟩) l := by
  obtain ⟨h1, h2⟩ := h
  refine ⟨h1, ?_⟩
  rcases h2 with h2 | ⟨b, o, e, hc⟩
  · exact .inl h2
  · cases e
    refine .inr ⟨g, 0, rfl, fun i hi => ?_⟩
    rw [← hc i hi]
    exact World.cell?_of_block (w := w) (w' := w.setCell p u) (a := ⟨g, 0 + i, none⟩) (Below.heap_setCell w p u g hp)
set_option maxRecDepth 100000 in
set_option maxHeartbeats 1000000 in
theorem tried_o (s : ByteArray) (ia : Option Addr) (nin cin : Nat) (la : Option Addr) (nI cI : Nat) (ra : Option Addr) (nR cR : Nat) (c : Int) (w : World) (hz : (s.toList == [115, 104, 97, 100, 101]) = false)
    (KA : ∀ w' sb g cap, Below w.heap.size w w' → Fld w' sb 0 0 3 3 (.slice (some ⟨g, 0, none⟩) 9 cap) → SRow w' (some ⟨g, 0, none⟩) l9 → Calls Tryz.prog 44 #[ndV s ia nin cin la nI cI ra nR cR, reg 0 0 3 3, .slice (some ⟨sb, 0, none⟩) 1 1] w' (TryP c w')) :
    Calls Tryz.prog 31 #[ndV s ia nin cin la nI cI ra nR cR] w fun e w' => e = .returned (.int .i64 c) ∧ Below w.heap.size w w' := by
  have KA := Lib.hid KA
  have KF := Lib.hid (fun w => fill_ok 0 0 3 3 0 w (by decide) (by decide))
  go_enter Tryz.func31, Tryz.ntmps31
  go_wp2_with fail
  generalize hW0 : (w.alloc (.cells #[.string s, .slice ia nin cin, .slice la nI cI, .slice ra nR cR] 25)).alloc (.cells #[.int .i64 0, .int .i64 0, .int .i64 3, .int .i64 3] 33) = W0
  have b0 : Below w.heap.size w W0 := by subst hW0; exact (by repeat (first | with_reducible exact Below.refl _ _ | with_reducible apply Below.drew | with_reducible refine below_drewN ?_ _ | (with_reducible refine Below.setCell ?_ ?_ _; rotate_left; focus (first | omega | (simp <;> omega))) | (with_reducible refine Below.alloc ?_ ?_ _; rotate_left; focus (first | omega | (simp <;> omega)))))
  have A0 : NdAt W0 w.heap.size s ia nin cin la nI cI ra nR cR := by
    subst hW0
    exact (NdAt.new _ _ _ _ _ _ _ _ _ _ _).below ((Below.refl (w.heap.size + 1) _).alloc (by simp) _) (by omega)
  have G0 : Reg W0 (w.heap.size + 1) 0 0 3 3 := by
    subst hW0
    have := Reg.new (w.alloc (.cells #[.string s, .slice ia nin cin, .slice la nI cI, .slice ra nR cR] 25)) 0 0 3 3
    simpa using this
  refine (KF.out W0).mono ?_
  rintro e w1 ⟨⟨x, y, p, q, a, n, k, rfl, ho⟩, hb⟩
  rcases ho with ⟨h, _⟩ | ⟨_, rfl, rfl, rfl, rfl, g, rfl, rfl, ho⟩
  · exact absurd rfl h
  rw [fill9] at ho ⊢
  have hrow := ho.row (by decide)
  have hg2 : w.heap.size + 2 ≤ g := by
    have h1 := ho.lt.1
    have h2 : W0.heap.size = w.heap.size + 2 := by subst hW0; simp
    omega
  have HL1 := Lib.hid hrow
  have HA1 := Lib.hid (A0.below hb A0.lt)
  have HG1 := Lib.hid (G0.below hb G0.lt)
  have HB1 := Lib.hid (b0.trans (hb.mono b0.size))
  clear hW0 b0 A0 G0 hb ho hrow KF
  obtain ⟨p0, p1, p2, p3⟩ := HA1.out.cells
  obtain ⟨r0, r1, r2, r3⟩ := HG1.out.cells
  have l0 := HA1.out.lt
  have l1 := HG1.out.lt
  go_wp2_with fail
  generalize hW2 : (w1.alloc (.cells #[.int .i64 0, .int .i64 0, .int .i64 3, .int .i64 3, .slice (some ⟨g, 0, none⟩) 9 k] 78)).alloc (.cells #[.int .i64 0, .int .i64 0, .int .i64 3, .int .i64 3, .slice (some ⟨g, 0, none⟩) 9 k] 78) = W2 at *
  have b2 : Below w1.heap.size w1 W2 := by subst hW2; exact (by repeat (first | with_reducible exact Below.refl _ _ | with_reducible apply Below.drew | with_reducible refine below_drewN ?_ _ | (with_reducible refine Below.setCell ?_ ?_ _; rotate_left; focus (first | omega | (simp <;> omega))) | (with_reducible refine Below.alloc ?_ ?_ _; rotate_left; focus (first | omega | (simp <;> omega)))))
  have F2 : Fld W2 (w1.heap.size + 1) 0 0 3 3 (.slice (some ⟨g, 0, none⟩) 9 k) := by
    subst hW2
    have := Fld.new (w1.alloc (.cells #[.int .i64 0, .int .i64 0, .int .i64 3, .int .i64 3, .slice (some ⟨g, 0, none⟩) 9 k] 78)) 0 0 3 3 (.slice (some ⟨g, 0, none⟩) 9 k)
    simpa using this
  have HB2 := Lib.hid (HB1.out.trans (b2.mono HB1.out.size))
  refine (KA.out W2 (w1.heap.size + 1) g k HB2.out F2 (HL1.out.below b2)).mono ?_
  rintro e w2 ⟨⟨x, y, p, q, a, n, k2, rfl⟩, hb⟩
  have HB3 := Lib.hid (HB2.out.trans (hb.mono HB2.out.size))
  clear hb F2 b2 hW2
  go_wp2_with fail
  go_ret
  have hb := HB3.out
  exact ⟨rfl, (by have hszz := hb.size; repeat (first | with_reducible exact hb | with_reducible apply Below.drew | with_reducible refine below_drewN ?_ _ | (with_reducible refine Below.setCell ?_ ?_ _; rotate_left; focus (first | omega | (simp <;> omega))) | (with_reducible refine Below.alloc ?_ ?_ _; rotate_left; focus (first | omega | (simp <;> omega)))))⟩
set_option maxRecDepth 100000 in
set_option maxHeartbeats 1000000 in
theorem tried_s (s : ByteArray) (ia : Option Addr) (nin cin : Nat) (la : Option Addr) (nI cI : Nat) (ra : Option Addr) (nR cR : Nat) (c : Int) (w : World) (hz : s.toList = [115, 104, 97, 100, 101])
    (KA : ∀ w' sb g cap, Below w.heap.size w w' → Fld w' sb 0 0 3 3 (.slice (some ⟨g, 0, none⟩) 9 cap) → SRow w' (some ⟨g, 0, none⟩) l9 → Calls Tryz.prog 44 #[ndV s ia nin cin la nI cI ra nR cR, reg 1 1 1 1, .slice (some ⟨sb, 0, none⟩) 1 1] w' (TryP c w')) :
    Calls Tryz.prog 31 #[ndV s ia nin cin la nI cI ra nR cR] w fun e w' => e = .returned (.int .i64 c) ∧ Below w.heap.size w w' := by
  have KA := Lib.hid KA
  have KF := Lib.hid (fun w => fill_ok 0 0 3 3 0 w (by decide) (by decide))
  go_enter Tryz.func31, Tryz.ntmps31
  go_wp2_with fail
  generalize hW0 : (w.alloc (.cells #[.string s, .slice ia nin cin, .slice la nI cI, .slice ra nR cR] 25)).alloc (.cells #[.int .i64 0, .int .i64 0, .int .i64 3, .int .i64 3] 33) = W0
  have b0 : Below w.heap.size w W0 := by subst hW0; exact (by repeat (first | with_reducible exact Below.refl _ _ | with_reducible apply Below.drew | with_reducible refine below_drewN ?_ _ | (with_reducible refine Below.setCell ?_ ?_ _; rotate_left; focus (first | omega | (simp <;> omega))) | (with_reducible refine Below.alloc ?_ ?_ _; rotate_left; focus (first | omega | (simp <;> omega)))))
  have A0 : NdAt W0 w.heap.size s ia nin cin la nI cI ra nR cR := by
    subst hW0
    exact (NdAt.new _ _ _ _ _ _ _ _ _ _ _).below ((Below.refl (w.heap.size + 1) _).alloc (by simp) _) (by omega)
  have G0 : Reg W0 (w.heap.size + 1) 0 0 3 3 := by
    subst hW0
    have := Reg.new (w.alloc (.cells #[.string s, .slice ia nin cin, .slice la nI cI, .slice ra nR cR] 25)) 0 0 3 3
    simpa using this
  refine (KF.out W0).mono ?_
  rintro e w1 ⟨⟨x, y, p, q, a, n, k, rfl, ho⟩, hb⟩
  rcases ho with ⟨h, _⟩ | ⟨_, rfl, rfl, rfl, rfl, g, rfl, rfl, ho⟩
  · exact absurd rfl h
  rw [fill9] at ho ⊢
  have hrow := ho.row (by decide)
  have hg2 : w.heap.size + 2 ≤ g := by
    have h1 := ho.lt.1
    have h2 : W0.heap.size = w.heap.size + 2 := by subst hW0; simp
    omega
  have HL1 := Lib.hid hrow
  have HA1 := Lib.hid (A0.below hb A0.lt)
  have HG1 := Lib.hid (G0.below hb G0.lt)
  have HB1 := Lib.hid (b0.trans (hb.mono b0.size))
  clear hW0 b0 A0 G0 hb ho hrow KF
  obtain ⟨p0, p1, p2, p3⟩ := HA1.out.cells
  obtain ⟨r0, r1, r2, r3⟩ := HG1.out.cells
  have l0 := HA1.out.lt
  have l1 := HG1.out.lt
  have q0 := frozen_of_row w1 (w.heap.size + 1) 0 _ _ HG1.out
  have q1 := frozen_of_row w1 (w.heap.size + 1) 1 _ _ HG1.out
  have q2 := frozen_of_row w1 (w.heap.size + 1) 2 _ _ HG1.out
  have q3 := frozen_of_row w1 (w.heap.size + 1) 3 _ _ HG1.out
  go_upto_region 5 with fail
  obtain ⟨e5, b5⟩ := st_4 (W := w1) HG1.out (.int .i64 1) (.int .i64 1) (.int .i64 1) (.int .i64 1) _ rfl
  have hrow2 := (((HL1.out.setC (p := ⟨w.heap.size + 1, 0, none⟩) (by show g ≠ w.heap.size + 1; omega) (.int .i64 1)).setC (p := ⟨w.heap.size + 1, 1, none⟩) (by show g ≠ w.heap.size + 1; omega) (.int .i64 1)).setC (p := ⟨w.heap.size + 1, 2, none⟩) (by show g ≠ w.heap.size + 1; omega) (.int .i64 1)).setC (p := ⟨w.heap.size + 1, 3, none⟩) (by show g ≠ w.heap.size + 1; omega) (.int .i64 1)
  generalize hW2 : (((w1.setCell ⟨w.heap.size + 1, 0, none⟩ (.int .i64 1)).setCell ⟨w.heap.size + 1, 1, none⟩ (.int .i64 1)).setCell ⟨w.heap.size + 1, 2, none⟩ (.int .i64 1)).setCell ⟨w.heap.size + 1, 3, none⟩ (.int .i64 1) = W2 at *
  have hsz : W2.heap.size = w1.heap.size := by subst hW2; simp
  have HA2 := Lib.hid (HA1.out.below b5 (by omega))
  have HG2 : Hid (Reg W2 (w.heap.size + 1) 1 1 1 1) := e5
  have HB2 := Lib.hid (HB1.out.trans (b5.mono (by omega)))
  have HL2 := Lib.hid hrow2
  clear hW2 e5 b5 hrow2 p0 p1 p2 p3 r0 r1 r2 r3 l0 l1 q0 q1 q2 q3 HA1 HG1 HB1 HL1 hg2
  rw [← hsz]
  clear hsz
  obtain ⟨p0, p1, p2, p3⟩ := HA2.out.cells
  obtain ⟨r0, r1, r2, r3⟩ := HG2.out.cells
  have l0 := HA2.out.lt
  have l1 := HG2.out.lt
  go_wp2_with fail
  generalize hW3 : (W2.alloc (.cells #[.int .i64 0, .int .i64 0, .int .i64 3, .int .i64 3, .slice (some ⟨g, 0, none⟩) 9 k] 78)).alloc (.cells #[.int .i64 0, .int .i64 0, .int .i64 3, .int .i64 3, .slice (some ⟨g, 0, none⟩) 9 k] 78) = W3 at *
  have b3 : Below W2.heap.size W2 W3 := by subst hW3; exact (by repeat (first | with_reducible exact Below.refl _ _ | with_reducible apply Below.drew | with_reducible refine below_drewN ?_ _ | (with_reducible refine Below.setCell ?_ ?_ _; rotate_left; focus (first | omega | (simp <;> omega))) | (with_reducible refine Below.alloc ?_ ?_ _; rotate_left; focus (first | omega | (simp <;> omega)))))
  have F3 : Fld W3 (W2.heap.size + 1) 0 0 3 3 (.slice (some ⟨g, 0, none⟩) 9 k) := by
    subst hW3
    have := Fld.new (W2.alloc (.cells #[.int .i64 0, .int .i64 0, .int .i64 3, .int .i64 3, .slice (some ⟨g, 0, none⟩) 9 k] 78)) 0 0 3 3 (.slice (some ⟨g, 0, none⟩) 9 k)
    simpa using this
  have HB3 := Lib.hid (HB2.out.trans (b3.mono HB2.out.size))
  refine (KA.out W3 (W2.heap.size + 1) g k HB3.out F3 (HL2.out.below b3)).mono ?_
  rintro e w3 ⟨⟨x, y, p, q, a, n, k2, rfl⟩, hb⟩
  have HB4 := Lib.hid (HB3.out.trans (hb.mono HB3.out.size))
  clear hb F3 b3 hW3
  go_wp2_with fail
  go_ret
  have hb := HB4.out
  exact ⟨rfl, (by have hszz := hb.size; repeat (first | with_reducible exact hb | with_reducible apply Below.drew | with_reducible refine below_drewN ?_ _ | (with_reducible refine Below.setCell ?_ ?_ _; rotate_left; focus (first | omega | (simp <;> omega))) | (with_reducible refine Below.alloc ?_ ?_ _; rotate_left; focus (first | omega | (simp <;> omega)))))⟩
end Go.Proofs.YtimhpmccmafnpaaGreat



namespace Go.Proofs.YtimhpmccmafnpaaGreat
open Go.ChangeShapes Go.WideShapes Go.ChangeAt Go.RowKit
open Ieee.Format (fin finE htE allFin allHt all_true all_false mulF subF addF Ht Bd divF rootF floorF easeF mixF)
set_option linter.unusedVariables false

set_option maxRecDepth 100000 in
theorem specklefn_any (seed : Int) (p : Nat) (x y : Int) (pa pb : Nat) (w : World) (ha : Blk w pa #[.int .u32 seed] 45) (hb : Blk w pb #[.float .f32 p] 46) :
    Calls Tryz.prog 97 #[.int .i64 x, .int .i64 y, .pointer (some ⟨pa, 0, none⟩), .pointer (some ⟨pb, 0, none⟩)] w fun e w' => e = .returned (.float .f32 (spkF p (hsF seed x y 9))) ∧ Below w.heap.size w w' := by
  have KH := Lib.hid (fun w => hash1 seed x y 9 w)
  have KU := Lib.hid (fun w => unit_word seed x y 9 w)
  have da : w.cell? ⟨pa, 0, none⟩ = some (.int .u32 seed) := ha.cell 0
  have db : w.cell? ⟨pb, 0, none⟩ = some (.float .f32 p) := hb.cell 0
  have l2 := ha.lt
  have l3 := hb.lt
  clear ha hb
  unfold spkF
  cases hc : lss (hsF seed x y 9) p with
  | true =>
    rw [if_pos rfl]
    change (FloatKind.f32.format.order (hsF seed x y 9) p == some .lt) = true at hc
    generalize hashTo seed x y 9 3 = hh at *
    generalize hsF seed x y 9 = u at *
    go_enter Tryz.func97, Tryz.ntmps97
    go_wp2_with fail
    go_quiet ((first
      | (go_at_call 99; with_reducible exact Calls.quiet_of_same ((KH.out _).mono fun _ _ h => ⟨h.1, h.2.symm⟩))
      | (go_at_call 98; with_reducible exact Calls.quiet_of_same ((KU.out _).mono fun _ _ h => ⟨h.1, h.2.symm⟩))))
    go_wp2_with fail
    go_ret
    exact ⟨rfl, (by repeat (first | with_reducible exact Below.refl _ _ | with_reducible apply Below.drew | with_reducible refine below_drewN ?_ _ | (with_reducible refine Below.setCell ?_ ?_ _; rotate_left; focus (first | omega | (simp <;> omega))) | (with_reducible refine Below.alloc ?_ ?_ _; rotate_left; focus (first | omega | (simp <;> omega)))))⟩
  | false =>
    rw [if_neg (by decide)]
    change (FloatKind.f32.format.order (hsF seed x y 9) p == some .lt) = false at hc
    generalize hashTo seed x y 9 3 = hh at *
    generalize hsF seed x y 9 = u at *
    go_enter Tryz.func97, Tryz.ntmps97
    go_wp2_with fail
    go_quiet ((first
      | (go_at_call 99; with_reducible exact Calls.quiet_of_same ((KH.out _).mono fun _ _ h => ⟨h.1, h.2.symm⟩))
      | (go_at_call 98; with_reducible exact Calls.quiet_of_same ((KU.out _).mono fun _ _ h => ⟨h.1, h.2.symm⟩))))
    go_wp2_with fail
    go_ret
    exact ⟨rfl, (by repeat (first | with_reducible exact Below.refl _ _ | with_reducible apply Below.drew | with_reducible refine below_drewN ?_ _ | (with_reducible refine Below.setCell ?_ ?_ _; rotate_left; focus (first | omega | (simp <;> omega))) | (with_reducible refine Below.alloc ?_ ?_ _; rotate_left; focus (first | omega | (simp <;> omega)))))⟩

/-- what Speckle makes -/
def spkL (seed : Int) (p : Nat) (X Y : Int) (Wn Hn : Nat) : List Nat := madeL (fun x y => spkF p (hsF seed x y 9)) X Y Wn (Hn * Wn)
theorem spk_res (seed : Int) (p : Nat) (X Y : Int) (Wn Hn : Nat) : resC (spkL seed p X Y Wn Hn) = 0 := by
  unfold resC
  rw [if_pos]
  refine Ieee.Format.allHt_iff.2 fun x hx => ?_
  unfold spkL madeL at hx
  obtain ⟨k, _, rfl⟩ := List.mem_map.1 hx
  exact spkF_ht _ _

theorem box_sp (w : World) (X Y W H : Int) (c1 : Array Value) (t1 : TypeId) (c2 : Array Value) (t2 : TypeId) : ∀ W0, W0 = (((w.alloc (.cells #[.int .i64 X, .int .i64 Y, .int .i64 W, .int .i64 H] 33)).alloc (.cells c1 t1)).alloc (.cells c2 t2)).alloc (.cells #[.int .i64 0, .int .i64 0, .int .i64 0, .int .i64 0, .slice none 0 0] 78) →
    Reg W0 w.heap.size X Y W H ∧ Blk W0 (w.heap.size + 1) c1 t1 ∧ Blk W0 (w.heap.size + 1 + 1) c2 t2 ∧ Fld W0 (w.heap.size + 1 + 1 + 1) 0 0 0 0 (.slice none 0 0) ∧ Below w.heap.size w W0 := by
  rintro _ rfl
  refine ⟨(((Reg.new w X Y W H).alloc _).alloc _).alloc _, ?_, ?_, ?_, (by repeat (first | with_reducible exact Below.refl _ _ | with_reducible apply Below.drew | with_reducible refine below_drewN ?_ _ | (with_reducible refine Below.setCell ?_ ?_ _; rotate_left; focus (first | omega | (simp <;> omega))) | (with_reducible refine Below.alloc ?_ ?_ _; rotate_left; focus (first | omega | (simp <;> omega)))))⟩
  · have := ((Blk.new (w.alloc (.cells #[.int .i64 X, .int .i64 Y, .int .i64 W, .int .i64 H] 33)) c1 t1).alloc (.cells c2 t2)).alloc (.cells #[.int .i64 0, .int .i64 0, .int .i64 0, .int .i64 0, .slice none 0 0] 78)
    simpa using this
  · have := (Blk.new ((w.alloc (.cells #[.int .i64 X, .int .i64 Y, .int .i64 W, .int .i64 H] 33)).alloc (.cells c1 t1)) c2 t2).alloc (.cells #[.int .i64 0, .int .i64 0, .int .i64 0, .int .i64 0, .slice none 0 0] 78)
    simpa using this
  · have := Fld.new (((w.alloc (.cells #[.int .i64 X, .int .i64 Y, .int .i64 W, .int .i64 H] 33)).alloc (.cells c1 t1)).alloc (.cells c2 t2)) 0 0 0 0 (.slice none 0 0)
    simpa using this

theorem chk_right {X Y : Int} {Wn Hn : Nat} {l : List Nat} (h : Right X Y Wn Hn l) : chk X Y Wn Hn = 0 := by
  have h1 := h.w1; have h2 := h.w2; have h3 := h.h1; have h4 := h.h2; have h5 := h.x1; have h6 := h.x2; have h7 := h.y1; have h8 := h.y2
  have h9 := h.wh
  have h9' : (Wn : Int) * (Hn : Int) ≤ 65536 := by rw [← Int.natCast_mul]; omega
  unfold chk
  rw [if_neg (by omega), if_neg (by omega), if_neg (by omega)]
set_option maxRecDepth 100000 in
theorem speckle_bad (X Y : Int) (Wn Hn : Nat) (l : List Nat) (seed : Int) (p : Nat) (w : World) (hr : Right X Y Wn Hn l) (hp : p < 4294967296) (hz : shareE p ≠ 0) :
    Calls Tryz.prog 72 #[reg X Y Wn Hn, .int .u32 seed, .float .f32 p] w fun e w' => e = .returned (.tuple #[fldV 0 0 0 0 none 0 0, .int .i64 (shareE p)]) ∧ Below w.heap.size w w' := by
  have K := Lib.hid (fun w => check1 X Y Wn Hn w)
  rw [chk_right hr] at K
  have KC := Lib.hid (fun w => share_any p hp w)
  clear hr hp
  generalize shareE p = a at *
  have hb' : (a != 0) = true := by rw [bne_iff_ne]; exact hz
  clear hz
  go_enter Tryz.func72, Tryz.ntmps72
  go_wp2_with fail
  generalize hW0 : (((w.alloc (.cells #[.int .i64 X, .int .i64 Y, .int .i64 Wn, .int .i64 Hn] 33)).alloc (.cells #[.int .u32 seed] 45)).alloc (.cells #[.float .f32 p] 46)).alloc (.cells #[.int .i64 0, .int .i64 0, .int .i64 0, .int .i64 0, .slice none 0 0] 78) = W0 at *
  obtain ⟨E0, P0, Q0, F0, B0⟩ := box_sp w X Y Wn Hn #[.int .u32 seed] 45 #[.float .f32 p] 46 W0 hW0.symm
  clear hW0
  refine (K.out _).mono ?_
  rintro e w1 ⟨rfl, b1⟩
  have HE1 := Lib.hid (E0.below b1 E0.lt)
  have HP1 := Lib.hid (P0.below b1 P0.lt)
  have HQ1 := Lib.hid (Q0.below b1 Q0.lt)
  have HF1 := Lib.hid (F0.below b1 F0.lt)
  have HB1 := Lib.hid (B0.trans (b1.mono B0.size))
  clear b1 B0 F0 E0 P0 Q0 K
  have p1 : w1.cell? ⟨w.heap.size + 1 + 1, 0, none⟩ = some (.float .f32 p) := HQ1.out.cell 0
  have l3 : w.heap.size + 1 + 1 + 1 < w1.heap.size := HF1.out.lt
  have l2 : w.heap.size + 1 + 1 < w1.heap.size := by omega
  go_wp2_with fail
  refine (KC.out _).mono ?_
  rintro e w2 ⟨rfl, b2⟩
  have HE2 := Lib.hid (HE1.out.below b2 HE1.out.lt)
  have HP2 := Lib.hid (HP1.out.below b2 HP1.out.lt)
  have HQ2 := Lib.hid (HQ1.out.below b2 HQ1.out.lt)
  have HF2 := Lib.hid (HF1.out.below b2 HF1.out.lt)
  have HB2 := Lib.hid (HB1.out.trans (b2.mono HB1.out.size))
  clear b2 p1 l3 l2 HE1 HP1 HQ1 HF1 HB1
  obtain ⟨d0, d1, d2, d3, d4⟩ := HF2.out.cells
  have qf0 := HF2.out.frozen 0
  have qf1 := HF2.out.frozen 1
  have qf2 := HF2.out.frozen 2
  have qf3 := HF2.out.frozen 3
  have qf4 := HF2.out.frozen 4
  have lz := HF2.out.lt
  go_wp2_with fail
  have B3 := HB2.out
  exact bodyPost_ret (v := .tuple #[fldV 0 0 0 0 none 0 0, .int .i64 a]) (by simp [results, Tryz.results72, go_sem, *]) rfl ⟨rfl, (by have hszz := B3.size; repeat (first | with_reducible exact B3 | with_reducible apply Below.drew | with_reducible refine below_drewN ?_ _ | (with_reducible refine Below.setCell ?_ ?_ _; rotate_left; focus (first | omega | (simp <;> omega))) | (with_reducible refine Below.alloc ?_ ?_ _; rotate_left; focus (first | omega | (simp <;> omega)))))⟩
theorem MakeP.outv {X Y W H : Int} {m : List Nat} {w : World} {e : Ending} {w' : World} (h : MakeP X Y W H m w e w') : (∃ x y p q a n k, e = .returned (fldV x y p q a n k) ∧ OutV 0 X Y W H m w' w.heap.size x y p q a n k) ∧ Below w.heap.size w w' := by
  obtain ⟨⟨g, cap, he, ho⟩, hb⟩ := h
  exact ⟨⟨X, Y, W, H, _, _, cap, he, .inr ⟨rfl, rfl, rfl, rfl, rfl, g, rfl, rfl, ho⟩⟩, hb⟩
set_option maxRecDepth 100000 in
set_option maxHeartbeats 1000000 in
theorem speckle_ok (X Y : Int) (Wn Hn : Nat) (l : List Nat) (seed : Int) (p : Nat) (w : World) (hr : Right X Y Wn Hn l) (hp : p < 4294967296) (hz : shareE p = 0) :
    Calls Tryz.prog 72 #[reg X Y Wn Hn, .int .u32 seed, .float .f32 p] w fun e w' => OpP 0 X Y Wn Hn (spkL seed p X Y Wn Hn) w e w' := by
  have K := Lib.hid (fun w => check1 X Y Wn Hn w)
  rw [chk_right hr] at K
  have KC := Lib.hid (fun w => share_any p hp w)
  rw [hz] at KC
  have g1 := hr.w1; have g2 := hr.w2; have g3 := hr.h1; have g4 := hr.h2; have g5 := hr.x1; have g6 := hr.x2; have g7 := hr.y1; have g8 := hr.y2
  have KM := Lib.hid (fun pa pb w1 (ha : Blk w1 pa #[.int .u32 seed] 45) (hb : Blk w1 pb #[.float .f32 p] 46) => (make_any 97 #[.pointer (some ⟨pa, 0, none⟩), .pointer (some ⟨pb, 0, none⟩)] (fun x y => spkF p (hsF seed x y 9)) X Y Wn Hn w1 (by omega) (by omega) (by omega) (by omega) (by omega) (by omega) (by omega) (by omega)
    (enters_of Tryz.func97 (by kernel_rfl) rfl) (fun x y _ _ _ _ => spkF_lt _ _) (fun x y _ _ _ _ W' hb' => specklefn_any seed p x y pa pb W' (ha.below hb' ha.lt) (hb.below hb' hb.lt))).mono fun e w' h => MakeP.outv h)
  change Hid (∀ pa pb w1 (ha : Blk w1 pa #[.int .u32 seed] 45) (hb : Blk w1 pb #[.float .f32 p] 46), Calls Tryz.prog 69 #[reg X Y Wn Hn, .func (.func 97) #[] #[.pointer (some ⟨pa, 0, none⟩), .pointer (some ⟨pb, 0, none⟩)]] w1 fun e w' => (∃ x y pp q a n k, e = .returned (fldV x y pp q a n k) ∧ OutV 0 X Y Wn Hn (spkL seed p X Y Wn Hn) w' w1.heap.size x y pp q a n k) ∧ Below w1.heap.size w1 w') at KM
  clear hr hp hz g1 g2 g3 g4 g5 g6 g7 g8
  generalize spkL seed p X Y Wn Hn = S at *
  go_enter Tryz.func72, Tryz.ntmps72
  go_wp2_with fail
  generalize hW0 : (((w.alloc (.cells #[.int .i64 X, .int .i64 Y, .int .i64 Wn, .int .i64 Hn] 33)).alloc (.cells #[.int .u32 seed] 45)).alloc (.cells #[.float .f32 p] 46)).alloc (.cells #[.int .i64 0, .int .i64 0, .int .i64 0, .int .i64 0, .slice none 0 0] 78) = W0 at *
  obtain ⟨E0, P0, Q0, F0, B0⟩ := box_sp w X Y Wn Hn #[.int .u32 seed] 45 #[.float .f32 p] 46 W0 hW0.symm
  clear hW0
  refine (K.out _).mono ?_
  rintro e w1 ⟨rfl, b1⟩
  have HE1 := Lib.hid (E0.below b1 E0.lt)
  have HP1 := Lib.hid (P0.below b1 P0.lt)
  have HQ1 := Lib.hid (Q0.below b1 Q0.lt)
  have HF1 := Lib.hid (F0.below b1 F0.lt)
  have HB1 := Lib.hid (B0.trans (b1.mono B0.size))
  clear b1 B0 F0 E0 P0 Q0 K
  have p1 : w1.cell? ⟨w.heap.size + 1 + 1, 0, none⟩ = some (.float .f32 p) := HQ1.out.cell 0
  have l3 : w.heap.size + 1 + 1 + 1 < w1.heap.size := HF1.out.lt
  have l2 : w.heap.size + 1 + 1 < w1.heap.size := by omega
  go_wp2_with fail
  refine (KC.out _).mono ?_
  rintro e w2 ⟨rfl, b2⟩
  have HE2 := Lib.hid (HE1.out.below b2 HE1.out.lt)
  have HP2 := Lib.hid (HP1.out.below b2 HP1.out.lt)
  have HQ2 := Lib.hid (HQ1.out.below b2 HQ1.out.lt)
  have HF2 := Lib.hid (HF1.out.below b2 HF1.out.lt)
  have HB2 := Lib.hid (HB1.out.trans (b2.mono HB1.out.size))
  clear b2 p1 l3 l2 HE1 HP1 HQ1 HF1 HB1
  have l3 : w.heap.size + 1 + 1 + 1 < w2.heap.size := HF2.out.lt
  obtain ⟨c0, c1, c2, c3⟩ := HE2.out.cells
  have l0 := HE2.out.lt
  go_wp2_with fail
  generalize p = part at *
  refine (KM.out _ _ _ HP2.out HQ2.out).mono ?_
  rintro e w7 ⟨⟨x, y, p, q, a, m, k, rfl, o7⟩, b7⟩
  have HOZ := Lib.hid o7
  have HFZ := Lib.hid (HF2.out.below b7 HF2.out.lt)
  have HBZ := Lib.hid (HB2.out.trans (b7.mono HB2.out.size))
  have HZB : Hid (w.heap.size + 1 + 1 + 1 < w2.heap.size) := HF2.out.lt
  have HBB : Hid (w.heap.size ≤ w2.heap.size) := HB2.out.size
  clear o7 b7 KM HE2 HP2 HQ2 HF2 HB2 c0 c1 c2 c3 l0 l3
  obtain ⟨d0, d1, d2, d3, d4⟩ := HFZ.out.cells
  have qf0 := HFZ.out.frozen 0
  have qf1 := HFZ.out.frozen 1
  have qf2 := HFZ.out.frozen 2
  have qf3 := HFZ.out.frozen 3
  have qf4 := HFZ.out.frozen 4
  have lz := HFZ.out.lt
  go_wp2_with fail
  generalize hW5 : ((((w7.setCell ⟨w.heap.size + 1 + 1 + 1, 0, none⟩ (.int .i64 x)).setCell ⟨w.heap.size + 1 + 1 + 1, 1, none⟩ (.int .i64 y)).setCell ⟨w.heap.size + 1 + 1 + 1, 2, none⟩ (.int .i64 p)).setCell ⟨w.heap.size + 1 + 1 + 1, 3, none⟩ (.int .i64 q)).setCell ⟨w.heap.size + 1 + 1 + 1, 4, none⟩ (.slice a m k) = W5 at *
  obtain ⟨f5, bb5, oo5, _, z5⟩ := fld_store w7 (w.heap.size + 1 + 1 + 1) 0 0 0 0 _ x y p q (.slice a m k) HFZ.out W5 hW5.symm
  have hO5 := (HOZ.out.set oo5 HZB.out).base HBB.out
  have hB5 := HBZ.out.trans (bb5.mono (by omega))
  clear d0 d1 d2 d3 d4 qf0 qf1 qf2 qf3 qf4 hW5 oo5
  obtain ⟨d0, d1, d2, d3, d4⟩ := f5.cells
  exact bodyPost_ret (v := .tuple #[fldV x y p q a m k, .int .i64 0]) (by simp [results, Tryz.results72, go_sem, *]) rfl ⟨⟨x, y, p, q, a, m, k, rfl, hO5⟩, hB5⟩

end Go.Proofs.YtimhpmccmafnpaaGreat

namespace Go.Proofs.YtimhpmccmafnpaaGreat
open Go.ChangeShapes Go.WideShapes Go.ChangeAt Go.RowKit
open Ieee.Format (fin finE htE allFin allHt all_true all_false mulF subF addF Ht Bd divF rootF floorF easeF mixF)
set_option linter.unusedVariables false
/-! ### the code of each tried step -/
theorem Calls.tryP {c : Int} {n : Nat} {args : Array Value} {w : World} {Q : Ending → World → Prop} (h : Calls Tryz.prog n args w Q) (hQ : ∀ e w', Q e w' → TryP c w e w') : Calls Tryz.prog n args w (TryP c w) := h.mono hQ
theorem try_clamp (s : ByteArray) (ia : Option Addr) (nin cin cI rb ro cR : Nat) (la : Option Addr) (r0 r1 : Nat) (w : World) (hz : s.toList = [99, 108, 97, 109, 112]) (hI : ZRow w la []) (hR : SRow w (some ⟨rb, ro, none⟩) [r0, r1]) :
    Calls Tryz.prog 31 #[ndV s ia nin cin la 0 cI (some ⟨rb, ro, none⟩) 2 cR] w fun e w' => e = .returned (.int .i64 (clampC r0 r1)) ∧ Below w.heap.size w w' := by
  have h0 := hR.1.2 r0 (by simp)
  have h1 := hR.1.2 r1 (by simp)
  refine tried_o s ia nin cin la 0 cI (some ⟨rb, ro, none⟩) 2 cR _ w (by rw [hz]; rfl) fun w' sb g cap hb hF hl => ?_
  refine ap_clamp s ia nin cin cI rb ro cR g cap sb la r0 r1 _ w' hz (hI.below hb) (hR.below hb) hF hl fun w2 hl2 => ?_
  exact Calls.tryP (clamp_op 0 0 3 3 g 0 cap l9 r0 r1 w2 hl2 right9 h0 h1) fun e w' h => h.tryP
theorem try_select (s : ByteArray) (ia : Option Addr) (nin cin cI rb ro cR : Nat) (la : Option Addr) (r0 r1 r2 : Nat) (w : World) (hz : s.toList = [115, 101, 108, 101, 99, 116]) (hI : ZRow w la []) (hR : SRow w (some ⟨rb, ro, none⟩) [r0, r1, r2]) :
    Calls Tryz.prog 31 #[ndV s ia nin cin la 0 cI (some ⟨rb, ro, none⟩) 3 cR] w fun e w' => e = .returned (.int .i64 (selC r0 r1 r2)) ∧ Below w.heap.size w w' := by
  have h0 := hR.1.2 r0 (by simp)
  have h1 := hR.1.2 r1 (by simp)
  have h2 := hR.1.2 r2 (by simp)
  refine tried_o s ia nin cin la 0 cI (some ⟨rb, ro, none⟩) 3 cR _ w (by rw [hz]; rfl) fun w' sb g cap hb hF hl => ?_
  refine ap_select s ia nin cin cI rb ro cR g cap sb la r0 r1 r2 _ w' hz (hI.below hb) (hR.below hb) hF hl fun w2 hl2 => ?_
  by_cases hc : selC r0 r1 r2 = 0
  · rw [hc]
    exact Calls.tryP (select_ok 0 0 3 3 g 0 cap l9 r0 r1 r2 w2 hl2 right9 h0 h1 h2 hc) fun e w' h => h.tryP
  · exact Calls.tryP (select_bad 0 0 3 3 g 0 cap l9 r0 r1 r2 w2 hl2 right9 h0 h1 h2 hc) fun e w' h => tryP_err h
theorem try_terrace (s : ByteArray) (ia : Option Addr) (nin cin cI rb ro cR : Nat) (la : Option Addr) (r0 r1 : Nat) (w : World) (hz : s.toList = [116, 101, 114, 114, 97, 99, 101]) (hI : ZRow w la []) (hR : SRow w (some ⟨rb, ro, none⟩) [r0, r1]) :
    Calls Tryz.prog 31 #[ndV s ia nin cin la 0 cI (some ⟨rb, ro, none⟩) 2 cR] w fun e w' => e = .returned (.int .i64 (terC r0 r1)) ∧ Below w.heap.size w w' := by
  have h0 := hR.1.2 r0 (by simp)
  have h1 := hR.1.2 r1 (by simp)
  refine tried_o s ia nin cin la 0 cI (some ⟨rb, ro, none⟩) 2 cR _ w (by rw [hz]; rfl) fun w' sb g cap hb hF hl => ?_
  refine ap_terrace s ia nin cin cI rb ro cR g cap sb la r0 r1 _ w' hz (hI.below hb) (hR.below hb) hF hl fun w2 hl2 => ?_
  by_cases hc : terC r0 r1 = 0
  · rw [hc]
    exact Calls.tryP (terrace_ok 0 0 3 3 g 0 cap l9 r0 r1 w2 hl2 right9 h0 h1 hc) fun e w' h => by rw [ter_res hc] at h; exact h.tryP
  · exact Calls.tryP (terrace_bad 0 0 3 3 g 0 cap l9 r0 r1 w2 hl2 right9 h0 h1 hc) fun e w' h => tryP_err h
theorem try_dither (s : ByteArray) (ia : Option Addr) (nin cin b o cI rb ro cR : Nat) (i0 : Int) (r0 : Nat) (w : World) (hz : s.toList = [100, 105, 116, 104, 101, 114]) (hI : ZRow w (some ⟨b, o, none⟩) [i0]) (hR : SRow w (some ⟨rb, ro, none⟩) [r0]) :
    Calls Tryz.prog 31 #[ndV s ia nin cin (some ⟨b, o, none⟩) 1 cI (some ⟨rb, ro, none⟩) 1 cR] w fun e w' => e = .returned (.int .i64 (dithE r0)) ∧ Below w.heap.size w w' := by
  have h0 := hR.1.2 r0 (by simp)
  refine tried_o s ia nin cin (some ⟨b, o, none⟩) 1 cI (some ⟨rb, ro, none⟩) 1 cR _ w (by rw [hz]; rfl) fun w' sb g cap hb hF hl => ?_
  refine ap_dither s ia nin cin b o cI rb ro cR g cap sb i0 r0 _ w' hz (hI.below hb) (hR.below hb) hF hl fun w2 hl2 => ?_
  by_cases hc : dithE r0 = 0
  · rw [hc]
    exact Calls.tryP (dither_ok 0 0 3 3 g 0 cap l9 (IntKind.u32.wrap i0) r0 w2 hl2 right9 h0 hc) fun e w' h => by rw [dit_res _ hc] at h; exact h.tryP
  · exact Calls.tryP (dither_bad 0 0 3 3 g 0 cap l9 (IntKind.u32.wrap i0) r0 w2 hl2 right9 h0 hc) fun e w' h => tryP_err h
theorem try_speckle (s : ByteArray) (ia : Option Addr) (nin cin b o cI rb ro cR : Nat) (i0 : Int) (r0 : Nat) (w : World) (hz : s.toList = [115, 112, 101, 99, 107, 108, 101]) (hI : ZRow w (some ⟨b, o, none⟩) [i0]) (hR : SRow w (some ⟨rb, ro, none⟩) [r0]) :
    Calls Tryz.prog 31 #[ndV s ia nin cin (some ⟨b, o, none⟩) 1 cI (some ⟨rb, ro, none⟩) 1 cR] w fun e w' => e = .returned (.int .i64 (shareE r0)) ∧ Below w.heap.size w w' := by
  have h0 := hR.1.2 r0 (by simp)
  refine tried_o s ia nin cin (some ⟨b, o, none⟩) 1 cI (some ⟨rb, ro, none⟩) 1 cR _ w (by rw [hz]; rfl) fun w' sb g cap hb hF hl => ?_
  refine ap_speckle s ia nin cin b o cI rb ro cR g cap sb i0 r0 _ w' hz (hI.below hb) (hR.below hb) hF hl fun w2 hl2 => ?_
  by_cases hc : shareE r0 = 0
  · rw [hc]
    exact Calls.tryP (speckle_ok 0 0 3 3 l9 (IntKind.u32.wrap i0) r0 w2 right9 h0 hc) fun e w' h => h.tryP
  · exact Calls.tryP (speckle_bad 0 0 3 3 l9 (IntKind.u32.wrap i0) r0 w2 right9 h0 hc) fun e w' h => tryP_err h
theorem try_shade (s : ByteArray) (ia : Option Addr) (nin cin b o cI cR : Nat) (ra : Option Addr) (i0 i1 i2 : Int) (w : World) (hz : s.toList = [115, 104, 97, 100, 101]) (hI : ZRow w (some ⟨b, o, none⟩) [i0, i1, i2]) (hR : SRow w ra []) :
    Calls Tryz.prog 31 #[ndV s ia nin cin (some ⟨b, o, none⟩) 3 cI ra 0 cR] w fun e w' => e = .returned (.int .i64 (lightE i0 i1 i2)) ∧ Below w.heap.size w w' := by
  refine tried_s s ia nin cin (some ⟨b, o, none⟩) 3 cI ra 0 cR _ w hz fun w' sb g cap hb hF hl => ?_
  refine ap_shade s ia nin cin b o cI g cap sb cR ra i0 i1 i2 _ w' hz (hI.below hb) (hR.below hb) hF hl fun w2 hI2 hl2 => ?_
  refine around_shade s ia nin cin b o cI g cap cR ra i0 i1 i2 _ w2 hz hI2 hl2 fun w3 hl3 => ?_
  by_cases hc : lightE i0 i1 i2 = 0
  · rw [hc]
    exact Calls.tryP (shade_ok 0 0 3 3 g 0 cap l9 i0 i1 i2 w3 hl3 right9 (by decide) (by decide) hc _ rfl) fun e w' h => by rw [shade_res hc] at h; exact h.tryP
  · exact Calls.tryP (shade_bad 0 0 3 3 g 0 cap l9 i0 i1 i2 w3 hl3 right9 (by decide) (by decide) hc) fun e w' h => tryP_err h
end Go.Proofs.YtimhpmccmafnpaaGreat
