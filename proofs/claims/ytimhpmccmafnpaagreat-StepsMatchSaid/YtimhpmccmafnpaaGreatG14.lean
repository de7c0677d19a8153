import Derived.Test.YtimhpmccmafnpaaGreatG06
import Derived.Test.YtimhpmccmafnpaaGreatG13
import Derived.BigQuiet
import Derived.Deep.CutBlock
import Derived.Deep.QuietTactic
import Derived.Deep.DeepCutAuto
import Derived.Deep.RegionHeld3
import Derived.IntWalk
namespace Go.Proofs.YtimhpmccmafnpaaGreat
open Go.ChangeShapes Go.WideShapes Go.ChangeAt Go.RowKit
open Ieee.Format (fin finE htE allFin allHt all_true all_false mulF subF addF Ht Bd divF rootF floorF easeF mixF)
set_option linter.unusedVariables false

/-- what a tried function gives: some field and a code -/
def TryP (c : Int) (w : World) (e : Ending) (w' : World) : Prop := (∃ x y p q a n k, e = .returned (.tuple #[fldV x y p q a n k, .int .i64 c])) ∧ Below w.heap.size w w'
theorem OpP.tryP {c X Y W H : Int} {m : List Nat} {w : World} {e : Ending} {w' : World} (h : OpP c X Y W H m w e w') : TryP c w e w' := by
  obtain ⟨⟨x, y, p, q, a, n, k, he, _⟩, hb⟩ := h
  exact ⟨⟨x, y, p, q, a, n, k, he⟩, hb⟩
theorem tryP_err {c : Int} {w : World} {e : Ending} {w' : World} (h : e = .returned (.tuple #[fldV 0 0 0 0 none 0 0, .int .i64 c]) ∧ Below w.heap.size w w') : TryP c w e w' := ⟨⟨0, 0, 0, 0, none, 0, 0, h.1⟩, h.2⟩
/-- the memory of apply -/
structure ApS (w : World) (s : ByteArray) (ia : Option Addr) (nin cin : Nat) (la : Option Addr) (nI cI : Nat) (ra : Option Addr) (nR cR : Nat) (I : List Int) (L : List Nat) (X Y W H : Int) (sb g cap : Nat) (wr : World) : Prop where
  nd : NdAt wr w.heap.size s ia nin cin la nI cI ra nR cR
  rg : Reg wr (w.heap.size + 1) X Y W H
  rs : Fld wr (w.heap.size + 2) 0 0 0 0 (.slice none 0 0)
  i : ZRow wr la I
  r : SRow wr ra L
  f : Fld wr sb 0 0 3 3 (.slice (some ⟨g, 0, none⟩) 9 cap)
  l : SRow wr (some ⟨g, 0, none⟩) l9
  b : Below w.heap.size w wr
section
variable {w wr w2 : World} {s : ByteArray} {ia la ra : Option Addr} {nin cin nI cI nR cR sb g cap : Nat} {I : List Int} {L : List Nat} {X Y W H : Int}
theorem ApS.call (h : ApS w s ia nin cin la nI cI ra nR cR I L X Y W H sb g cap wr) (hb : Below wr.heap.size wr w2) : ApS w s ia nin cin la nI cI ra nR cR I L X Y W H sb g cap w2 :=
  ⟨h.nd.below hb h.nd.lt, h.rg.below hb h.rg.lt, h.rs.below hb h.rs.lt, h.i.below hb, h.r.below hb, h.f.below hb h.f.lt, h.l.below hb, h.b.trans (hb.mono h.b.size)⟩
theorem ApS.drew (h : ApS w s ia nin cin la nI cI ra nR cR I L X Y W H sb g cap wr) : ApS w s ia nin cin la nI cI ra nR cR I L X Y W H sb g cap wr.drew :=
  ⟨⟨h.nd.blk⟩, h.rg, h.rs, h.i, h.r.drew, h.f, h.l.drew, h.b.drew⟩
theorem ApS.start (hI : ZRow w la I) (hR : SRow w ra L) (hF : Fld w sb 0 0 3 3 (.slice (some ⟨g, 0, none⟩) 9 cap)) (hl : SRow w (some ⟨g, 0, none⟩) l9) :
    ApS w s ia nin cin la nI cI ra nR cR I L X Y W H sb g cap (((w.alloc (.cells #[.string s, .slice ia nin cin, .slice la nI cI, .slice ra nR cR] 25)).alloc (.cells #[.int .i64 X, .int .i64 Y, .int .i64 W, .int .i64 H] 33)).alloc (.cells #[.int .i64 0, .int .i64 0, .int .i64 0, .int .i64 0, .slice none 0 0] 78)) := by
  have b0 : Below w.heap.size w (((w.alloc (.cells #[.string s, .slice ia nin cin, .slice la nI cI, .slice ra nR cR] 25)).alloc (.cells #[.int .i64 X, .int .i64 Y, .int .i64 W, .int .i64 H] 33)).alloc (.cells #[.int .i64 0, .int .i64 0, .int .i64 0, .int .i64 0, .slice none 0 0] 78)) := (by repeat (first | with_reducible exact Below.refl _ _ | with_reducible apply Below.drew | with_reducible refine below_drewN ?_ _ | (with_reducible refine Below.setCell ?_ ?_ _; rotate_left; focus (first | omega | (simp <;> omega))) | (with_reducible refine Below.alloc ?_ ?_ _; rotate_left; focus (first | omega | (simp <;> omega)))))
  refine ⟨?_, ?_, ?_, hI.below b0, hR.below b0, hF.below b0 hF.lt, hl.below b0, b0⟩
  · exact (NdAt.new _ _ _ _ _ _ _ _ _ _ _).below ((Below.refl (w.heap.size + 1) _).alloc (by simp) _ |>.alloc (by simp) _) (by omega)
  · have := (Reg.new (w.alloc (.cells #[.string s, .slice ia nin cin, .slice la nI cI, .slice ra nR cR] 25)) X Y W H).alloc (.cells #[.int .i64 0, .int .i64 0, .int .i64 0, .int .i64 0, .slice none 0 0] 78)
    simpa using this
  · have := Fld.new ((w.alloc (.cells #[.string s, .slice ia nin cin, .slice la nI cI, .slice ra nR cR] 25)).alloc (.cells #[.int .i64 X, .int .i64 Y, .int .i64 W, .int .i64 H] 33)) 0 0 0 0 (.slice none 0 0)
    simpa using this
end
set_option maxRecDepth 100000 in
set_option maxHeartbeats 1000000 in
theorem ap_speckle (s : ByteArray) (ia : Option Addr) (nin cin b o cI rb ro cR g cap sb : Nat) (i0 : Int) (r0 : Nat) (c : Int) (w : World) (hz : s.toList = [115, 112, 101, 99, 107, 108, 101])
    (hI : ZRow w (some ⟨b, o, none⟩) [i0]) (hR : SRow w (some ⟨rb, ro, none⟩) [r0]) (hF : Fld w sb 0 0 3 3 (.slice (some ⟨g, 0, none⟩) 9 cap)) (hl : SRow w (some ⟨g, 0, none⟩) l9)
    (KC : ∀ w', SRow w' (some ⟨g, 0, none⟩) l9 → Calls Tryz.prog 72 #[reg 0 0 3 3, .int .u32 (IntKind.u32.wrap i0), .float .f32 r0] w' (TryP c w')) :
    Calls Tryz.prog 44 #[ndV s ia nin cin (some ⟨b, o, none⟩) 1 cI (some ⟨rb, ro, none⟩) 1 cR, reg 0 0 3 3, .slice (some ⟨sb, 0, none⟩) 1 1] w (TryP c w) := by
  have KC := Lib.hid KC
  have HS := Lib.hid (ApS.start (s := s) (ia := ia) (nin := nin) (cin := cin) (nI := 1) (cI := cI) (nR := 1) (cR := cR) (X := 0) (Y := 0) (W := 3) (H := 3) hI hR hF hl)
  clear hI hR hF hl
  go_enter Tryz.func44, Tryz.ntmps44
  go_upto_region 1 with fail
  generalize ((w.alloc (.cells #[.string s, .slice ia nin cin, .slice (some ⟨b, o, none⟩) 1 cI, .slice (some ⟨rb, ro, none⟩) 1 cR] 25)).alloc (.cells #[.int .i64 0, .int .i64 0, .int .i64 3, .int .i64 3] 33)).alloc (.cells #[.int .i64 0, .int .i64 0, .int .i64 0, .int .i64 0, .slice none 0 0] 78) = W0 at *
  have p0 := HS.out.nd.cells.1
  have l0 := HS.out.nd.lt
  go_wp2_with fail
  clear p0 l0
  refine wp_region_noPanic ?_
  refine wp_region_heldT (ApS w s ia nin cin (some ⟨b, o, none⟩) 1 cI (some ⟨rb, ro, none⟩) 1 cR [i0] [r0] 0 0 3 3 sb g cap) 13 (by kernel_rfl) HS.out.drew (fun hHeld => ?_)
  refine wpAnyT_takeL [10, 11, 12, 13, 14] (i := 0) (v := ?_) rfl (by kernel_rfl) (by kernel_rfl) (by kernel_rfl) (by kernel_rfl) (fun _ _ _ h => h) (Or.inl ⟨by rfl, ?_⟩) (by with_reducible assumption) ?_
  rotate_left
  · intro w₁ hSw
    obtain ⟨f0, f1, f2, f3⟩ := hSw.rg.cells
    go_simp
    try with_reducible rfl
  try simp only [Act.put, List.setIfInBounds_toArray, List.set_cons_zero, List.set_cons_succ]
  refine wpAnyT_takeL [2, 3, 4, 5, 10, 11, 12, 13, 14] (i := 1) (v := ?_) rfl (by kernel_rfl) (by kernel_rfl) (by kernel_rfl) (by kernel_rfl) (fun _ _ _ h => h) (Or.inl ⟨by rfl, ?_⟩) (by with_reducible assumption) ?_
  rotate_left
  · intro w₁ hSw
    skip
    go_simp
    try with_reducible rfl
  try simp only [Act.put, List.setIfInBounds_toArray, List.set_cons_zero, List.set_cons_succ]
  refine wpAnyT_takeL [3, 4, 5, 10, 11, 12, 13, 14] (i := 2) (v := ?_) rfl (by kernel_rfl) (by kernel_rfl) (by kernel_rfl) (by kernel_rfl) (fun _ _ _ h => h) (Or.inl ⟨by rfl, ?_⟩) (by with_reducible assumption) ?_
  rotate_left
  · intro w₁ hSw
    have p2 := hSw.nd.cells.2.2.1
    go_simp
    try with_reducible rfl
  try simp only [Act.put, List.setIfInBounds_toArray, List.set_cons_zero, List.set_cons_succ]
  refine wpAnyT_takeL [4, 5, 10, 11, 12, 13, 14] (i := 3) (v := ?_) rfl (by kernel_rfl) (by kernel_rfl) (by kernel_rfl) (by kernel_rfl) (fun _ _ _ h => h) (Or.inl ⟨by rfl, ?_⟩) (by with_reducible assumption) ?_
  rotate_left
  · intro w₁ hSw
    skip
    go_simp
    try with_reducible rfl
  try simp only [Act.put, List.setIfInBounds_toArray, List.set_cons_zero, List.set_cons_succ]
  refine wpAnyT_takeL [5, 10, 11, 12, 13, 14] (i := 4) (v := ?_) rfl (by kernel_rfl) (by kernel_rfl) (by kernel_rfl) (by kernel_rfl) (fun _ _ _ h => h) (Or.inl ⟨by rfl, ?_⟩) (by with_reducible assumption) ?_
  rotate_left
  · intro w₁ hSw
    have x0 : w₁.cell? ⟨b, o, none⟩ = some (.int .i64 i0) := hSw.i.at_ 0 (by simp)
    go_simp
    try with_reducible rfl
  try simp only [Act.put, List.setIfInBounds_toArray, List.set_cons_zero, List.set_cons_succ]
  refine wpAnyT_takeL [10, 11, 12, 13, 14] (i := 5) (v := ?_) rfl (by kernel_rfl) (by kernel_rfl) (by kernel_rfl) (by kernel_rfl) (fun _ _ _ h => h) (Or.inl ⟨by rfl, ?_⟩) (by with_reducible assumption) ?_
  rotate_left
  · intro w₁ hSw
    skip
    go_simp
    try with_reducible rfl
  try simp only [Act.put, List.setIfInBounds_toArray, List.set_cons_zero, List.set_cons_succ]
  refine wpAnyT_takeL [7, 8, 9, 10, 11, 12, 13, 14] (i := 6) (v := ?_) rfl (by kernel_rfl) (by kernel_rfl) (by kernel_rfl) (by kernel_rfl) (fun _ _ _ h => h) (Or.inl ⟨by rfl, ?_⟩) (by with_reducible assumption) ?_
  rotate_left
  · intro w₁ hSw
    skip
    go_simp
    try with_reducible rfl
  try simp only [Act.put, List.setIfInBounds_toArray, List.set_cons_zero, List.set_cons_succ]
  refine wpAnyT_takeL [8, 9, 10, 11, 12, 13, 14] (i := 7) (v := ?_) rfl (by kernel_rfl) (by kernel_rfl) (by kernel_rfl) (by kernel_rfl) (fun _ _ _ h => h) (Or.inl ⟨by rfl, ?_⟩) (by with_reducible assumption) ?_
  rotate_left
  · intro w₁ hSw
    have p3 := hSw.nd.cells.2.2.2
    go_simp
    try with_reducible rfl
  try simp only [Act.put, List.setIfInBounds_toArray, List.set_cons_zero, List.set_cons_succ]
  refine wpAnyT_takeL [9, 10, 11, 12, 13, 14] (i := 8) (v := ?_) rfl (by kernel_rfl) (by kernel_rfl) (by kernel_rfl) (by kernel_rfl) (fun _ _ _ h => h) (Or.inl ⟨by rfl, ?_⟩) (by with_reducible assumption) ?_
  rotate_left
  · intro w₁ hSw
    skip
    go_simp
    try with_reducible rfl
  try simp only [Act.put, List.setIfInBounds_toArray, List.set_cons_zero, List.set_cons_succ]
  refine wpAnyT_takeL [10, 11, 12, 13, 14] (i := 9) (v := ?_) rfl (by kernel_rfl) (by kernel_rfl) (by kernel_rfl) (by kernel_rfl) (fun _ _ _ h => h) (Or.inl ⟨by rfl, ?_⟩) (by with_reducible assumption) ?_
  rotate_left
  · intro w₁ hSw
    have y0 : w₁.cell? ⟨rb, ro, none⟩ = some (.float .f32 r0) := hSw.r.cell1 0 (by simp)
    go_simp
    try with_reducible rfl
  try simp only [Act.put, List.setIfInBounds_toArray, List.set_cons_zero, List.set_cons_succ]
  refine wpAnyT_ready (rs := [10]) (by kernel_rfl) (by simp) ?_
  refine AllReadyT.cons rfl (fun K hK => ?_) AllReadyT.nil
  go_simp
  (with_reducible refine (KC.out _ hHeld.l).mono ?_)
  rintro e w2 ⟨⟨x, y, p, q, a, n, k, rfl⟩, hb⟩
  have hN := hHeld.call hb
  clear hb
  go_wp2_with fail
  refine hK.out _ _ (fun _ => hN) (fun hS_ => ?_)
  have hHeld := hS_ (by omega)
  clear hS_ hK K
  try simp only [Act.put, List.setIfInBounds_toArray, List.set_cons_zero, List.set_cons_succ]
  refine wpAnyT_takeL [13, 14] (i := 11) (v := ?_) rfl (by kernel_rfl) (by kernel_rfl) (by kernel_rfl) (by kernel_rfl) (fun _ _ _ h => h) (Or.inl ⟨by rfl, ?_⟩) (by with_reducible assumption) ?_
  rotate_left
  · intro w₁ hSw
    skip
    go_simp
    try with_reducible rfl
  try simp only [Act.put, List.setIfInBounds_toArray, List.set_cons_zero, List.set_cons_succ]
  refine wpAnyT_takeL [13, 14] (i := 12) (v := ?_) rfl (by kernel_rfl) (by kernel_rfl) (by kernel_rfl) (by kernel_rfl) (fun _ _ _ h => h) (Or.inl ⟨by rfl, ?_⟩) (by with_reducible assumption) ?_
  rotate_left
  · intro w₁ hSw
    skip
    go_simp
    try with_reducible rfl
  try simp only [Act.put, List.setIfInBounds_toArray, List.set_cons_zero, List.set_cons_succ]
  refine wpAnyT_ready (rs := [13]) (by kernel_rfl) (by simp) ?_
  refine AllReadyT.cons rfl (fun K hK => ?_) AllReadyT.nil
  have q0 := hHeld.rs.frozen 0
  have q1 := hHeld.rs.frozen 1
  have q2 := hHeld.rs.frozen 2
  have q3 := hHeld.rs.frozen 3
  have q4 := hHeld.rs.frozen 4
  obtain ⟨d0, d1, d2, d3, d4⟩ := hHeld.rs.cells
  have lt := hHeld.rs.lt
  have HB := Lib.hid hHeld.b
  have HQ := Lib.hid (st_5 (W := w2) hHeld.rs (.int .i64 x) (.int .i64 y) (.int .i64 p) (.int .i64 q) (.slice a n k) _ rfl)
  go_simp
  refine hK.out _ _ (fun h => absurd h (by omega)) (fun _ => ?_)
  clear hK K
  try simp only [Act.put, List.setIfInBounds_toArray, List.set_cons_zero, List.set_cons_succ]
  refine wpAnyT_ready (rs := [14]) (by kernel_rfl) (by simp) ?_
  refine AllReadyT.cons rfl (fun K hK => ?_) AllReadyT.nil
  go_simp
  refine hK.out _ _ (fun h => absurd h (by omega)) (fun _ => ?_)
  clear hK K
  try simp only [Act.put, List.setIfInBounds_toArray, List.set_cons_zero, List.set_cons_succ]
  refine wpAnyT_done (by kernel_rfl) ?_ _
  refine NoPanic.normal ?_
  obtain ⟨e5, b5⟩ := HQ.out
  have lt5 : w.heap.size + 2 < (((((w2.setCell ⟨w.heap.size + 2, 0, none⟩ (.int .i64 x)).setCell ⟨w.heap.size + 2, 1, none⟩ (.int .i64 y)).setCell ⟨w.heap.size + 2, 2, none⟩ (.int .i64 p)).setCell ⟨w.heap.size + 2, 3, none⟩ (.int .i64 q)).setCell ⟨w.heap.size + 2, 4, none⟩ (.slice a n k)).heap.size := by simpa using lt
  clear HQ d0 d1 d2 d3 d4 q0 q1 q2 q3 q4
  generalize ((((w2.setCell ⟨w.heap.size + 2, 0, none⟩ (.int .i64 x)).setCell ⟨w.heap.size + 2, 1, none⟩ (.int .i64 y)).setCell ⟨w.heap.size + 2, 2, none⟩ (.int .i64 p)).setCell ⟨w.heap.size + 2, 3, none⟩ (.int .i64 q)).setCell ⟨w.heap.size + 2, 4, none⟩ (.slice a n k) = W5 at *
  have z0 : W5.cell? ⟨w.heap.size + 2, 0, none⟩ = some (.int .i64 x) := cell_of_row W5 _ 0 _ _ _ e5
  have z1 : W5.cell? ⟨w.heap.size + 2, 1, none⟩ = some (.int .i64 y) := cell_of_row W5 _ 1 _ _ _ e5
  have z2 : W5.cell? ⟨w.heap.size + 2, 2, none⟩ = some (.int .i64 p) := cell_of_row W5 _ 2 _ _ _ e5
  have z3 : W5.cell? ⟨w.heap.size + 2, 3, none⟩ = some (.int .i64 q) := cell_of_row W5 _ 3 _ _ _ e5
  have z4 : W5.cell? ⟨w.heap.size + 2, 4, none⟩ = some (.slice a n k) := cell_of_row W5 _ 4 _ _ _ e5
  have hb := HB.out.trans (b5.mono (by omega))
  clear e5 b5 HB
  go_wp2_with fail
  exact bodyPost_ret (v := .tuple #[fldV x y p q a n k, .int .i64 c]) (by simp [results, Tryz.results44, go_sem, *]) rfl ⟨⟨x, y, p, q, a, n, k, rfl⟩, hb⟩
set_option maxRecDepth 100000 in
set_option maxHeartbeats 1000000 in
theorem ap_clamp (s : ByteArray) (ia : Option Addr) (nin cin cI rb ro cR g cap sb : Nat) (la : Option Addr) (r0 r1 : Nat) (c : Int) (w : World) (hz : s.toList = [99, 108, 97, 109, 112])
    (hI : ZRow w la []) (hR : SRow w (some ⟨rb, ro, none⟩) [r0, r1]) (hF : Fld w sb 0 0 3 3 (.slice (some ⟨g, 0, none⟩) 9 cap)) (hl : SRow w (some ⟨g, 0, none⟩) l9)
    (KC : ∀ w', SRow w' (some ⟨g, 0, none⟩) l9 → Calls Tryz.prog 74 #[fldV 0 0 3 3 (some ⟨g, 0, none⟩) 9 cap, .float .f32 r0, .float .f32 r1] w' (TryP c w')) :
    Calls Tryz.prog 44 #[ndV s ia nin cin la 0 cI (some ⟨rb, ro, none⟩) 2 cR, reg 0 0 3 3, .slice (some ⟨sb, 0, none⟩) 1 1] w (TryP c w) := by
  have KC := Lib.hid KC
  have HS := Lib.hid (ApS.start (s := s) (ia := ia) (nin := nin) (cin := cin) (nI := 0) (cI := cI) (nR := 2) (cR := cR) (X := 0) (Y := 0) (W := 3) (H := 3) hI hR hF hl)
  clear hI hR hF hl
  go_enter Tryz.func44, Tryz.ntmps44
  go_upto_region 1 with fail
  generalize ((w.alloc (.cells #[.string s, .slice ia nin cin, .slice la 0 cI, .slice (some ⟨rb, ro, none⟩) 2 cR] 25)).alloc (.cells #[.int .i64 0, .int .i64 0, .int .i64 3, .int .i64 3] 33)).alloc (.cells #[.int .i64 0, .int .i64 0, .int .i64 0, .int .i64 0, .slice none 0 0] 78) = W0 at *
  have p0 := HS.out.nd.cells.1
  have l0 := HS.out.nd.lt
  go_wp2_with fail
  clear p0 l0
  refine wp_region_noPanic ?_
  refine wp_region_heldT (ApS w s ia nin cin la 0 cI (some ⟨rb, ro, none⟩) 2 cR [] [r0, r1] 0 0 3 3 sb g cap) 14 (by kernel_rfl) HS.out.drew (fun hHeld => ?_)
  refine wpAnyT_takeL [1, 2, 11, 12, 13, 14, 15] (i := 0) (v := ?_) rfl (by kernel_rfl) (by kernel_rfl) (by kernel_rfl) (by kernel_rfl) (fun _ _ _ h => h) (Or.inl ⟨by rfl, ?_⟩) (by with_reducible assumption) ?_
  rotate_left
  · intro w₁ hSw
    skip
    go_simp
    try with_reducible rfl
  try simp only [Act.put, List.setIfInBounds_toArray, List.set_cons_zero, List.set_cons_succ]
  refine wpAnyT_takeL [2, 11, 12, 13, 14, 15] (i := 1) (v := ?_) rfl (by kernel_rfl) (by kernel_rfl) (by kernel_rfl) (by kernel_rfl) (fun _ _ _ h => h) (Or.inl ⟨by rfl, ?_⟩) (by with_reducible assumption) ?_
  rotate_left
  · intro w₁ hSw
    skip
    go_simp
    try with_reducible rfl
  try simp only [Act.put, List.setIfInBounds_toArray, List.set_cons_zero, List.set_cons_succ]
  refine wpAnyT_takeL [11, 12, 13, 14, 15] (i := 2) (v := ?_) rfl (by kernel_rfl) (by kernel_rfl) (by kernel_rfl) (by kernel_rfl) (fun _ _ _ h => h) (Or.inl ⟨by rfl, ?_⟩) (by with_reducible assumption) ?_
  rotate_left
  · intro w₁ hSw
    obtain ⟨f0, f1, f2, f3, f4⟩ := hSw.f.cells
    go_simp
    try with_reducible rfl
  try simp only [Act.put, List.setIfInBounds_toArray, List.set_cons_zero, List.set_cons_succ]
  refine wpAnyT_takeL [4, 5, 6, 11, 12, 13, 14, 15] (i := 3) (v := ?_) rfl (by kernel_rfl) (by kernel_rfl) (by kernel_rfl) (by kernel_rfl) (fun _ _ _ h => h) (Or.inl ⟨by rfl, ?_⟩) (by with_reducible assumption) ?_
  rotate_left
  · intro w₁ hSw
    skip
    go_simp
    try with_reducible rfl
  try simp only [Act.put, List.setIfInBounds_toArray, List.set_cons_zero, List.set_cons_succ]
  refine wpAnyT_takeL [5, 6, 11, 12, 13, 14, 15] (i := 4) (v := ?_) rfl (by kernel_rfl) (by kernel_rfl) (by kernel_rfl) (by kernel_rfl) (fun _ _ _ h => h) (Or.inl ⟨by rfl, ?_⟩) (by with_reducible assumption) ?_
  rotate_left
  · intro w₁ hSw
    have p3 := hSw.nd.cells.2.2.2
    go_simp
    try with_reducible rfl
  try simp only [Act.put, List.setIfInBounds_toArray, List.set_cons_zero, List.set_cons_succ]
  refine wpAnyT_takeL [6, 11, 12, 13, 14, 15] (i := 5) (v := ?_) rfl (by kernel_rfl) (by kernel_rfl) (by kernel_rfl) (by kernel_rfl) (fun _ _ _ h => h) (Or.inl ⟨by rfl, ?_⟩) (by with_reducible assumption) ?_
  rotate_left
  · intro w₁ hSw
    skip
    go_simp
    try with_reducible rfl
  try simp only [Act.put, List.setIfInBounds_toArray, List.set_cons_zero, List.set_cons_succ]
  refine wpAnyT_takeL [11, 12, 13, 14, 15] (i := 6) (v := ?_) rfl (by kernel_rfl) (by kernel_rfl) (by kernel_rfl) (by kernel_rfl) (fun _ _ _ h => h) (Or.inl ⟨by rfl, ?_⟩) (by with_reducible assumption) ?_
  rotate_left
  · intro w₁ hSw
    have y0 : w₁.cell? ⟨rb, ro, none⟩ = some (.float .f32 r0) := hSw.r.cell1 0 (by simp)
    go_simp
    try with_reducible rfl
  try simp only [Act.put, List.setIfInBounds_toArray, List.set_cons_zero, List.set_cons_succ]
  refine wpAnyT_takeL [8, 9, 10, 11, 12, 13, 14, 15] (i := 7) (v := ?_) rfl (by kernel_rfl) (by kernel_rfl) (by kernel_rfl) (by kernel_rfl) (fun _ _ _ h => h) (Or.inl ⟨by rfl, ?_⟩) (by with_reducible assumption) ?_
  rotate_left
  · intro w₁ hSw
    skip
    go_simp
    try with_reducible rfl
  try simp only [Act.put, List.setIfInBounds_toArray, List.set_cons_zero, List.set_cons_succ]
  refine wpAnyT_takeL [9, 10, 11, 12, 13, 14, 15] (i := 8) (v := ?_) rfl (by kernel_rfl) (by kernel_rfl) (by kernel_rfl) (by kernel_rfl) (fun _ _ _ h => h) (Or.inl ⟨by rfl, ?_⟩) (by with_reducible assumption) ?_
  rotate_left
  · intro w₁ hSw
    have p3 := hSw.nd.cells.2.2.2
    go_simp
    try with_reducible rfl
  try simp only [Act.put, List.setIfInBounds_toArray, List.set_cons_zero, List.set_cons_succ]
  refine wpAnyT_takeL [10, 11, 12, 13, 14, 15] (i := 9) (v := ?_) rfl (by kernel_rfl) (by kernel_rfl) (by kernel_rfl) (by kernel_rfl) (fun _ _ _ h => h) (Or.inl ⟨by rfl, ?_⟩) (by with_reducible assumption) ?_
  rotate_left
  · intro w₁ hSw
    skip
    go_simp
    try with_reducible rfl
  try simp only [Act.put, List.setIfInBounds_toArray, List.set_cons_zero, List.set_cons_succ]
  refine wpAnyT_takeL [11, 12, 13, 14, 15] (i := 10) (v := ?_) rfl (by kernel_rfl) (by kernel_rfl) (by kernel_rfl) (by kernel_rfl) (fun _ _ _ h => h) (Or.inl ⟨by rfl, ?_⟩) (by with_reducible assumption) ?_
  rotate_left
  · intro w₁ hSw
    have y0 : w₁.cell? ⟨rb, ro + 1, none⟩ = some (.float .f32 r1) := hSw.r.cell1 1 (by simp)
    go_simp
    try with_reducible rfl
  try simp only [Act.put, List.setIfInBounds_toArray, List.set_cons_zero, List.set_cons_succ]
  refine wpAnyT_ready (rs := [11]) (by kernel_rfl) (by simp) ?_
  refine AllReadyT.cons rfl (fun K hK => ?_) AllReadyT.nil
  go_simp
  (with_reducible refine (KC.out _ hHeld.l).mono ?_)
  rintro e w2 ⟨⟨x, y, p, q, a, n, k, rfl⟩, hb⟩
  have hN := hHeld.call hb
  clear hb
  go_wp2_with fail
  refine hK.out _ _ (fun _ => hN) (fun hS_ => ?_)
  have hHeld := hS_ (by omega)
  clear hS_ hK K
  try simp only [Act.put, List.setIfInBounds_toArray, List.set_cons_zero, List.set_cons_succ]
  refine wpAnyT_takeL [14, 15] (i := 12) (v := ?_) rfl (by kernel_rfl) (by kernel_rfl) (by kernel_rfl) (by kernel_rfl) (fun _ _ _ h => h) (Or.inl ⟨by rfl, ?_⟩) (by with_reducible assumption) ?_
  rotate_left
  · intro w₁ hSw
    skip
    go_simp
    try with_reducible rfl
  try simp only [Act.put, List.setIfInBounds_toArray, List.set_cons_zero, List.set_cons_succ]
  refine wpAnyT_takeL [14, 15] (i := 13) (v := ?_) rfl (by kernel_rfl) (by kernel_rfl) (by kernel_rfl) (by kernel_rfl) (fun _ _ _ h => h) (Or.inl ⟨by rfl, ?_⟩) (by with_reducible assumption) ?_
  rotate_left
  · intro w₁ hSw
    skip
    go_simp
    try with_reducible rfl
  try simp only [Act.put, List.setIfInBounds_toArray, List.set_cons_zero, List.set_cons_succ]
  refine wpAnyT_ready (rs := [14]) (by kernel_rfl) (by simp) ?_
  refine AllReadyT.cons rfl (fun K hK => ?_) AllReadyT.nil
  have q0 := hHeld.rs.frozen 0
  have q1 := hHeld.rs.frozen 1
  have q2 := hHeld.rs.frozen 2
  have q3 := hHeld.rs.frozen 3
  have q4 := hHeld.rs.frozen 4
  obtain ⟨d0, d1, d2, d3, d4⟩ := hHeld.rs.cells
  have lt := hHeld.rs.lt
  have HB := Lib.hid hHeld.b
  have HQ := Lib.hid (st_5 (W := w2) hHeld.rs (.int .i64 x) (.int .i64 y) (.int .i64 p) (.int .i64 q) (.slice a n k) _ rfl)
  go_simp
  refine hK.out _ _ (fun h => absurd h (by omega)) (fun _ => ?_)
  clear hK K
  try simp only [Act.put, List.setIfInBounds_toArray, List.set_cons_zero, List.set_cons_succ]
  refine wpAnyT_ready (rs := [15]) (by kernel_rfl) (by simp) ?_
  refine AllReadyT.cons rfl (fun K hK => ?_) AllReadyT.nil
  go_simp
  refine hK.out _ _ (fun h => absurd h (by omega)) (fun _ => ?_)
  clear hK K
  try simp only [Act.put, List.setIfInBounds_toArray, List.set_cons_zero, List.set_cons_succ]
  refine wpAnyT_done (by kernel_rfl) ?_ _
  refine NoPanic.normal ?_
  obtain ⟨e5, b5⟩ := HQ.out
  have lt5 : w.heap.size + 2 < (((((w2.setCell ⟨w.heap.size + 2, 0, none⟩ (.int .i64 x)).setCell ⟨w.heap.size + 2, 1, none⟩ (.int .i64 y)).setCell ⟨w.heap.size + 2, 2, none⟩ (.int .i64 p)).setCell ⟨w.heap.size + 2, 3, none⟩ (.int .i64 q)).setCell ⟨w.heap.size + 2, 4, none⟩ (.slice a n k)).heap.size := by simpa using lt
  clear HQ d0 d1 d2 d3 d4 q0 q1 q2 q3 q4
  generalize ((((w2.setCell ⟨w.heap.size + 2, 0, none⟩ (.int .i64 x)).setCell ⟨w.heap.size + 2, 1, none⟩ (.int .i64 y)).setCell ⟨w.heap.size + 2, 2, none⟩ (.int .i64 p)).setCell ⟨w.heap.size + 2, 3, none⟩ (.int .i64 q)).setCell ⟨w.heap.size + 2, 4, none⟩ (.slice a n k) = W5 at *
  have z0 : W5.cell? ⟨w.heap.size + 2, 0, none⟩ = some (.int .i64 x) := cell_of_row W5 _ 0 _ _ _ e5
  have z1 : W5.cell? ⟨w.heap.size + 2, 1, none⟩ = some (.int .i64 y) := cell_of_row W5 _ 1 _ _ _ e5
  have z2 : W5.cell? ⟨w.heap.size + 2, 2, none⟩ = some (.int .i64 p) := cell_of_row W5 _ 2 _ _ _ e5
  have z3 : W5.cell? ⟨w.heap.size + 2, 3, none⟩ = some (.int .i64 q) := cell_of_row W5 _ 3 _ _ _ e5
  have z4 : W5.cell? ⟨w.heap.size + 2, 4, none⟩ = some (.slice a n k) := cell_of_row W5 _ 4 _ _ _ e5
  have hb := HB.out.trans (b5.mono (by omega))
  clear e5 b5 HB
  go_wp2_with fail
  exact bodyPost_ret (v := .tuple #[fldV x y p q a n k, .int .i64 c]) (by simp [results, Tryz.results44, go_sem, *]) rfl ⟨⟨x, y, p, q, a, n, k, rfl⟩, hb⟩
set_option maxRecDepth 100000 in
set_option maxHeartbeats 1000000 in
theorem ap_select (s : ByteArray) (ia : Option Addr) (nin cin cI rb ro cR g cap sb : Nat) (la : Option Addr) (r0 r1 r2 : Nat) (c : Int) (w : World) (hz : s.toList = [115, 101, 108, 101, 99, 116])
    (hI : ZRow w la []) (hR : SRow w (some ⟨rb, ro, none⟩) [r0, r1, r2]) (hF : Fld w sb 0 0 3 3 (.slice (some ⟨g, 0, none⟩) 9 cap)) (hl : SRow w (some ⟨g, 0, none⟩) l9)
    (KC : ∀ w', SRow w' (some ⟨g, 0, none⟩) l9 → Calls Tryz.prog 76 #[fldV 0 0 3 3 (some ⟨g, 0, none⟩) 9 cap, .float .f32 r0, .float .f32 r1, .float .f32 r2] w' (TryP c w')) :
    Calls Tryz.prog 44 #[ndV s ia nin cin la 0 cI (some ⟨rb, ro, none⟩) 3 cR, reg 0 0 3 3, .slice (some ⟨sb, 0, none⟩) 1 1] w (TryP c w) := by
  have KC := Lib.hid KC
  have HS := Lib.hid (ApS.start (s := s) (ia := ia) (nin := nin) (cin := cin) (nI := 0) (cI := cI) (nR := 3) (cR := cR) (X := 0) (Y := 0) (W := 3) (H := 3) hI hR hF hl)
  clear hI hR hF hl
  go_enter Tryz.func44, Tryz.ntmps44
  go_upto_region 1 with fail
  generalize ((w.alloc (.cells #[.string s, .slice ia nin cin, .slice la 0 cI, .slice (some ⟨rb, ro, none⟩) 3 cR] 25)).alloc (.cells #[.int .i64 0, .int .i64 0, .int .i64 3, .int .i64 3] 33)).alloc (.cells #[.int .i64 0, .int .i64 0, .int .i64 0, .int .i64 0, .slice none 0 0] 78) = W0 at *
  have p0 := HS.out.nd.cells.1
  have l0 := HS.out.nd.lt
  go_wp2_with fail
  clear p0 l0
  refine wp_region_noPanic ?_
  refine wp_region_heldT (ApS w s ia nin cin la 0 cI (some ⟨rb, ro, none⟩) 3 cR [] [r0, r1, r2] 0 0 3 3 sb g cap) 18 (by kernel_rfl) HS.out.drew (fun hHeld => ?_)
  refine wpAnyT_takeL [1, 2, 15, 16, 17, 18, 19] (i := 0) (v := ?_) rfl (by kernel_rfl) (by kernel_rfl) (by kernel_rfl) (by kernel_rfl) (fun _ _ _ h => h) (Or.inl ⟨by rfl, ?_⟩) (by with_reducible assumption) ?_
  rotate_left
  · intro w₁ hSw
    skip
    go_simp
    try with_reducible rfl
  try simp only [Act.put, List.setIfInBounds_toArray, List.set_cons_zero, List.set_cons_succ]
  refine wpAnyT_takeL [2, 15, 16, 17, 18, 19] (i := 1) (v := ?_) rfl (by kernel_rfl) (by kernel_rfl) (by kernel_rfl) (by kernel_rfl) (fun _ _ _ h => h) (Or.inl ⟨by rfl, ?_⟩) (by with_reducible assumption) ?_
  rotate_left
  · intro w₁ hSw
    skip
    go_simp
    try with_reducible rfl
  try simp only [Act.put, List.setIfInBounds_toArray, List.set_cons_zero, List.set_cons_succ]
  refine wpAnyT_takeL [15, 16, 17, 18, 19] (i := 2) (v := ?_) rfl (by kernel_rfl) (by kernel_rfl) (by kernel_rfl) (by kernel_rfl) (fun _ _ _ h => h) (Or.inl ⟨by rfl, ?_⟩) (by with_reducible assumption) ?_
  rotate_left
  · intro w₁ hSw
    obtain ⟨f0, f1, f2, f3, f4⟩ := hSw.f.cells
    go_simp
    try with_reducible rfl
  try simp only [Act.put, List.setIfInBounds_toArray, List.set_cons_zero, List.set_cons_succ]
  refine wpAnyT_takeL [4, 5, 6, 15, 16, 17, 18, 19] (i := 3) (v := ?_) rfl (by kernel_rfl) (by kernel_rfl) (by kernel_rfl) (by kernel_rfl) (fun _ _ _ h => h) (Or.inl ⟨by rfl, ?_⟩) (by with_reducible assumption) ?_
  rotate_left
  · intro w₁ hSw
    skip
    go_simp
    try with_reducible rfl
  try simp only [Act.put, List.setIfInBounds_toArray, List.set_cons_zero, List.set_cons_succ]
  refine wpAnyT_takeL [5, 6, 15, 16, 17, 18, 19] (i := 4) (v := ?_) rfl (by kernel_rfl) (by kernel_rfl) (by kernel_rfl) (by kernel_rfl) (fun _ _ _ h => h) (Or.inl ⟨by rfl, ?_⟩) (by with_reducible assumption) ?_
  rotate_left
  · intro w₁ hSw
    have p3 := hSw.nd.cells.2.2.2
    go_simp
    try with_reducible rfl
  try simp only [Act.put, List.setIfInBounds_toArray, List.set_cons_zero, List.set_cons_succ]
  refine wpAnyT_takeL [6, 15, 16, 17, 18, 19] (i := 5) (v := ?_) rfl (by kernel_rfl) (by kernel_rfl) (by kernel_rfl) (by kernel_rfl) (fun _ _ _ h => h) (Or.inl ⟨by rfl, ?_⟩) (by with_reducible assumption) ?_
  rotate_left
  · intro w₁ hSw
    skip
    go_simp
    try with_reducible rfl
  try simp only [Act.put, List.setIfInBounds_toArray, List.set_cons_zero, List.set_cons_succ]
  refine wpAnyT_takeL [15, 16, 17, 18, 19] (i := 6) (v := ?_) rfl (by kernel_rfl) (by kernel_rfl) (by kernel_rfl) (by kernel_rfl) (fun _ _ _ h => h) (Or.inl ⟨by rfl, ?_⟩) (by with_reducible assumption) ?_
  rotate_left
  · intro w₁ hSw
    have y0 : w₁.cell? ⟨rb, ro, none⟩ = some (.float .f32 r0) := hSw.r.cell1 0 (by simp)
    go_simp
    try with_reducible rfl
  try simp only [Act.put, List.setIfInBounds_toArray, List.set_cons_zero, List.set_cons_succ]
  refine wpAnyT_takeL [8, 9, 10, 15, 16, 17, 18, 19] (i := 7) (v := ?_) rfl (by kernel_rfl) (by kernel_rfl) (by kernel_rfl) (by kernel_rfl) (fun _ _ _ h => h) (Or.inl ⟨by rfl, ?_⟩) (by with_reducible assumption) ?_
  rotate_left
  · intro w₁ hSw
    skip
    go_simp
    try with_reducible rfl
  try simp only [Act.put, List.setIfInBounds_toArray, List.set_cons_zero, List.set_cons_succ]
  refine wpAnyT_takeL [9, 10, 15, 16, 17, 18, 19] (i := 8) (v := ?_) rfl (by kernel_rfl) (by kernel_rfl) (by kernel_rfl) (by kernel_rfl) (fun _ _ _ h => h) (Or.inl ⟨by rfl, ?_⟩) (by with_reducible assumption) ?_
  rotate_left
  · intro w₁ hSw
    have p3 := hSw.nd.cells.2.2.2
    go_simp
    try with_reducible rfl
  try simp only [Act.put, List.setIfInBounds_toArray, List.set_cons_zero, List.set_cons_succ]
  refine wpAnyT_takeL [10, 15, 16, 17, 18, 19] (i := 9) (v := ?_) rfl (by kernel_rfl) (by kernel_rfl) (by kernel_rfl) (by kernel_rfl) (fun _ _ _ h => h) (Or.inl ⟨by rfl, ?_⟩) (by with_reducible assumption) ?_
  rotate_left
  · intro w₁ hSw
    skip
    go_simp
    try with_reducible rfl
  try simp only [Act.put, List.setIfInBounds_toArray, List.set_cons_zero, List.set_cons_succ]
  refine wpAnyT_takeL [15, 16, 17, 18, 19] (i := 10) (v := ?_) rfl (by kernel_rfl) (by kernel_rfl) (by kernel_rfl) (by kernel_rfl) (fun _ _ _ h => h) (Or.inl ⟨by rfl, ?_⟩) (by with_reducible assumption) ?_
  rotate_left
  · intro w₁ hSw
    have y0 : w₁.cell? ⟨rb, ro + 1, none⟩ = some (.float .f32 r1) := hSw.r.cell1 1 (by simp)
    go_simp
    try with_reducible rfl
  try simp only [Act.put, List.setIfInBounds_toArray, List.set_cons_zero, List.set_cons_succ]
  refine wpAnyT_takeL [12, 13, 14, 15, 16, 17, 18, 19] (i := 11) (v := ?_) rfl (by kernel_rfl) (by kernel_rfl) (by kernel_rfl) (by kernel_rfl) (fun _ _ _ h => h) (Or.inl ⟨by rfl, ?_⟩) (by with_reducible assumption) ?_
  rotate_left
  · intro w₁ hSw
    skip
    go_simp
    try with_reducible rfl
  try simp only [Act.put, List.setIfInBounds_toArray, List.set_cons_zero, List.set_cons_succ]
  refine wpAnyT_takeL [13, 14, 15, 16, 17, 18, 19] (i := 12) (v := ?_) rfl (by kernel_rfl) (by kernel_rfl) (by kernel_rfl) (by kernel_rfl) (fun _ _ _ h => h) (Or.inl ⟨by rfl, ?_⟩) (by with_reducible assumption) ?_
  rotate_left
  · intro w₁ hSw
    have p3 := hSw.nd.cells.2.2.2
    go_simp
    try with_reducible rfl
  try simp only [Act.put, List.setIfInBounds_toArray, List.set_cons_zero, List.set_cons_succ]
  refine wpAnyT_takeL [14, 15, 16, 17, 18, 19] (i := 13) (v := ?_) rfl (by kernel_rfl) (by kernel_rfl) (by kernel_rfl) (by kernel_rfl) (fun _ _ _ h => h) (Or.inl ⟨by rfl, ?_⟩) (by with_reducible assumption) ?_
  rotate_left
  · intro w₁ hSw
    skip
    go_simp
    try with_reducible rfl
  try simp only [Act.put, List.setIfInBounds_toArray, List.set_cons_zero, List.set_cons_succ]
  refine wpAnyT_takeL [15, 16, 17, 18, 19] (i := 14) (v := ?_) rfl (by kernel_rfl) (by kernel_rfl) (by kernel_rfl) (by kernel_rfl) (fun _ _ _ h => h) (Or.inl ⟨by rfl, ?_⟩) (by with_reducible assumption) ?_
  rotate_left
  · intro w₁ hSw
    have y0 : w₁.cell? ⟨rb, ro + 2, none⟩ = some (.float .f32 r2) := hSw.r.cell1 2 (by simp)
    go_simp
    try with_reducible rfl
  try simp only [Act.put, List.setIfInBounds_toArray, List.set_cons_zero, List.set_cons_succ]
  refine wpAnyT_ready (rs := [15]) (by kernel_rfl) (by simp) ?_
  refine AllReadyT.cons rfl (fun K hK => ?_) AllReadyT.nil
  go_simp
  (with_reducible refine (KC.out _ hHeld.l).mono ?_)
  rintro e w2 ⟨⟨x, y, p, q, a, n, k, rfl⟩, hb⟩
  have hN := hHeld.call hb
  clear hb
  go_wp2_with fail
  refine hK.out _ _ (fun _ => hN) (fun hS_ => ?_)
  have hHeld := hS_ (by omega)
  clear hS_ hK K
  try simp only [Act.put, List.setIfInBounds_toArray, List.set_cons_zero, List.set_cons_succ]
  refine wpAnyT_takeL [18, 19] (i := 16) (v := ?_) rfl (by kernel_rfl) (by kernel_rfl) (by kernel_rfl) (by kernel_rfl) (fun _ _ _ h => h) (Or.inl ⟨by rfl, ?_⟩) (by with_reducible assumption) ?_
  rotate_left
  · intro w₁ hSw
    skip
    go_simp
    try with_reducible rfl
  try simp only [Act.put, List.setIfInBounds_toArray, List.set_cons_zero, List.set_cons_succ]
  refine wpAnyT_takeL [18, 19] (i := 17) (v := ?_) rfl (by kernel_rfl) (by kernel_rfl) (by kernel_rfl) (by kernel_rfl) (fun _ _ _ h => h) (Or.inl ⟨by rfl, ?_⟩) (by with_reducible assumption) ?_
  rotate_left
  · intro w₁ hSw
    skip
    go_simp
    try with_reducible rfl
  try simp only [Act.put, List.setIfInBounds_toArray, List.set_cons_zero, List.set_cons_succ]
  refine wpAnyT_ready (rs := [18]) (by kernel_rfl) (by simp) ?_
  refine AllReadyT.cons rfl (fun K hK => ?_) AllReadyT.nil
  have q0 := hHeld.rs.frozen 0
  have q1 := hHeld.rs.frozen 1
  have q2 := hHeld.rs.frozen 2
  have q3 := hHeld.rs.frozen 3
  have q4 := hHeld.rs.frozen 4
  obtain ⟨d0, d1, d2, d3, d4⟩ := hHeld.rs.cells
  have lt := hHeld.rs.lt
  have HB := Lib.hid hHeld.b
  have HQ := Lib.hid (st_5 (W := w2) hHeld.rs (.int .i64 x) (.int .i64 y) (.int .i64 p) (.int .i64 q) (.slice a n k) _ rfl)
  go_simp
  refine hK.out _ _ (fun h => absurd h (by omega)) (fun _ => ?_)
  clear hK K
  try simp only [Act.put, List.setIfInBounds_toArray, List.set_cons_zero, List.set_cons_succ]
  refine wpAnyT_ready (rs := [19]) (by kernel_rfl) (by simp) ?_
  refine AllReadyT.cons rfl (fun K hK => ?_) AllReadyT.nil
  go_simp
  refine hK.out _ _ (fun h => absurd h (by omega)) (fun _ => ?_)
  clear hK K
  try simp only [Act.put, List.setIfInBounds_toArray, List.set_cons_zero, List.set_cons_succ]
  refine wpAnyT_done (by kernel_rfl) ?_ _
  refine NoPanic.normal ?_
  obtain ⟨e5, b5⟩ := HQ.out
  have lt5 : w.heap.size + 2 < (((((w2.setCell ⟨w.heap.size + 2, 0, none⟩ (.int .i64 x)).setCell ⟨w.heap.size + 2, 1, none⟩ (.int .i64 y)).setCell ⟨w.heap.size + 2, 2, none⟩ (.int .i64 p)).setCell ⟨w.heap.size + 2, 3, none⟩ (.int .i64 q)).setCell ⟨w.heap.size + 2, 4, none⟩ (.slice a n k)).heap.size := by simpa using lt
  clear HQ d0 d1 d2 d3 d4 q0 q1 q2 q3 q4
  generalize ((((w2.setCell ⟨w.heap.size + 2, 0, none⟩ (.int .i64 x)).setCell ⟨w.heap.size + 2, 1, none⟩ (.int .i64 y)).setCell ⟨w.heap.size + 2, 2, none⟩ (.int .i64 p)).setCell ⟨w.heap.size + 2, 3, none⟩ (.int .i64 q)).setCell ⟨w.heap.size + 2, 4, none⟩ (.slice a n k) = W5 at *
  have z0 : W5.cell? ⟨w.heap.size + 2, 0, none⟩ = some (.int .i64 x) := cell_of_row W5 _ 0 _ _ _ e5
  have z1 : W5.cell? ⟨w.heap.size + 2, 1, none⟩ = some (.int .i64 y) := cell_of_row W5 _ 1 _ _ _ e5
  have z2 : W5.cell? ⟨w.heap.size + 2, 2, none⟩ = some (.int .i64 p) := cell_of_row W5 _ 2 _ _ _ e5
  have z3 : W5.cell? ⟨w.heap.size + 2, 3, none⟩ = some (.int .i64 q) := cell_of_row W5 _ 3 _ _ _ e5
  have z4 : W5.cell? ⟨w.heap.size + 2, 4, none⟩ = some (.slice a n k) := cell_of_row W5 _ 4 _ _ _ e5
  have hb := HB.out.trans (b5.mono (by omega))
  clear e5 b5 HB
  go_wp2_with fail
  exact bodyPost_ret (v := .tuple #[fldV x y p q a n k, .int .i64 c]) (by simp [results, Tryz.results44, go_sem, *]) rfl ⟨⟨x, y, p, q, a, n, k, rfl⟩, hb⟩
set_option maxRecDepth 100000 in
set_option maxHeartbeats 1000000 in
theorem ap_terrace (s : ByteArray) (ia : Option Addr) (nin cin cI rb ro cR g cap sb : Nat) (la : Option Addr) (r0 r1 : Nat) (c : Int) (w : World) (hz : s.toList = [116, 101, 114, 114, 97, 99, 101])
    (hI : ZRow w la []) (hR : SRow w (some ⟨rb, ro, none⟩) [r0, r1]) (hF : Fld w sb 0 0 3 3 (.slice (some ⟨g, 0, none⟩) 9 cap)) (hl : SRow w (some ⟨g, 0, none⟩) l9)
    (KC : ∀ w', SRow w' (some ⟨g, 0, none⟩) l9 → Calls Tryz.prog 77 #[fldV 0 0 3 3 (some ⟨g, 0, none⟩) 9 cap, .float .f32 r0, .float .f32 r1] w' (TryP c w')) :
    Calls Tryz.prog 44 #[ndV s ia nin cin la 0 cI (some ⟨rb, ro, none⟩) 2 cR, reg 0 0 3 3, .slice (some ⟨sb, 0, none⟩) 1 1] w (TryP c w) := by
  have KC := Lib.hid KC
  have HS := Lib.hid (ApS.start (s := s) (ia := ia) (nin := nin) (cin := cin) (nI := 0) (cI := cI) (nR := 2) (cR := cR) (X := 0) (Y := 0) (W := 3) (H := 3) hI hR hF hl)
  clear hI hR hF hl
  go_enter Tryz.func44, Tryz.ntmps44
  go_upto_region 1 with fail
  generalize ((w.alloc (.cells #[.string s, .slice ia nin cin, .slice la 0 cI, .slice (some ⟨rb, ro, none⟩) 2 cR] 25)).alloc (.cells #[.int .i64 0, .int .i64 0, .int .i64 3, .int .i64 3] 33)).alloc (.cells #[.int .i64 0, .int .i64 0, .int .i64 0, .int .i64 0, .slice none 0 0] 78) = W0 at *
  have p0 := HS.out.nd.cells.1
  have l0 := HS.out.nd.lt
  go_wp2_with fail
  clear p0 l0
  refine wp_region_noPanic ?_
  refine wp_region_heldT (ApS w s ia nin cin la 0 cI (some ⟨rb, ro, none⟩) 2 cR [] [r0, r1] 0 0 3 3 sb g cap) 14 (by kernel_rfl) HS.out.drew (fun hHeld => ?_)
  refine wpAnyT_takeL [1, 2, 11, 12, 13, 14, 15] (i := 0) (v := ?_) rfl (by kernel_rfl) (by kernel_rfl) (by kernel_rfl) (by kernel_rfl) (fun _ _ _ h => h) (Or.inl ⟨by rfl, ?_⟩) (by with_reducible assumption) ?_
  rotate_left
  · intro w₁ hSw
    skip
    go_simp
    try with_reducible rfl
  try simp only [Act.put, List.setIfInBounds_toArray, List.set_cons_zero, List.set_cons_succ]
  refine wpAnyT_takeL [2, 11, 12, 13, 14, 15] (i := 1) (v := ?_) rfl (by kernel_rfl) (by kernel_rfl) (by kernel_rfl) (by kernel_rfl) (fun _ _ _ h => h) (Or.inl ⟨by rfl, ?_⟩) (by with_reducible assumption) ?_
  rotate_left
  · intro w₁ hSw
    skip
    go_simp
    try with_reducible rfl
  try simp only [Act.put, List.setIfInBounds_toArray, List.set_cons_zero, List.set_cons_succ]
  refine wpAnyT_takeL [11, 12, 13, 14, 15] (i := 2) (v := ?_) rfl (by kernel_rfl) (by kernel_rfl) (by kernel_rfl) (by kernel_rfl) (fun _ _ _ h => h) (Or.inl ⟨by rfl, ?_⟩) (by with_reducible assumption) ?_
  rotate_left
  · intro w₁ hSw
    obtain ⟨f0, f1, f2, f3, f4⟩ := hSw.f.cells
    go_simp
    try with_reducible rfl
  try simp only [Act.put, List.setIfInBounds_toArray, List.set_cons_zero, List.set_cons_succ]
  refine wpAnyT_takeL [4, 5, 6, 11, 12, 13, 14, 15] (i := 3) (v := ?_) rfl (by kernel_rfl) (by kernel_rfl) (by kernel_rfl) (by kernel_rfl) (fun _ _ _ h => h) (Or.inl ⟨by rfl, ?_⟩) (by with_reducible assumption) ?_
  rotate_left
  · intro w₁ hSw
    skip
    go_simp
    try with_reducible rfl
  try simp only [Act.put, List.setIfInBounds_toArray, List.set_cons_zero, List.set_cons_succ]
  refine wpAnyT_takeL [5, 6, 11, 12, 13, 14, 15] (i := 4) (v := ?_) rfl (by kernel_rfl) (by kernel_rfl) (by kernel_rfl) (by kernel_rfl) (fun _ _ _ h => h) (Or.inl ⟨by rfl, ?_⟩) (by with_reducible assumption) ?_
  rotate_left
  · intro w₁ hSw
    have p3 := hSw.nd.cells.2.2.2
    go_simp
    try with_reducible rfl
  try simp only [Act.put, List.setIfInBounds_toArray, List.set_cons_zero, List.set_cons_succ]
  refine wpAnyT_takeL [6, 11, 12, 13, 14, 15] (i := 5) (v := ?_) rfl (by kernel_rfl) (by kernel_rfl) (by kernel_rfl) (by kernel_rfl) (fun _ _ _ h => h) (Or.inl ⟨by rfl, ?_⟩) (by with_reducible assumption) ?_
  rotate_left
  · intro w₁ hSw
    skip
    go_simp
    try with_reducible rfl
  try simp only [Act.put, List.setIfInBounds_toArray, List.set_cons_zero, List.set_cons_succ]
  refine wpAnyT_takeL [11, 12, 13, 14, 15] (i := 6) (v := ?_) rfl (by kernel_rfl) (by kernel_rfl) (by kernel_rfl) (by kernel_rfl) (fun _ _ _ h => h) (Or.inl ⟨by rfl, ?_⟩) (by with_reducible assumption) ?_
  rotate_left
  · intro w₁ hSw
    have y0 : w₁.cell? ⟨rb, ro, none⟩ = some (.float .f32 r0) := hSw.r.cell1 0 (by simp)
    go_simp
    try with_reducible rfl
  try simp only [Act.put, List.setIfInBounds_toArray, List.set_cons_zero, List.set_cons_succ]
  refine wpAnyT_takeL [8, 9, 10, 11, 12, 13, 14, 15] (i := 7) (v := ?_) rfl (by kernel_rfl) (by kernel_rfl) (by kernel_rfl) (by kernel_rfl) (fun _ _ _ h => h) (Or.inl ⟨by rfl, ?_⟩) (by with_reducible assumption) ?_
  rotate_left
  · intro w₁ hSw
    skip
    go_simp
    try with_reducible rfl
  try simp only [Act.put, List.setIfInBounds_toArray, List.set_cons_zero, List.set_cons_succ]
  refine wpAnyT_takeL [9, 10, 11, 12, 13, 14, 15] (i := 8) (v := ?_) rfl (by kernel_rfl) (by kernel_rfl) (by kernel_rfl) (by kernel_rfl) (fun _ _ _ h => h) (Or.inl ⟨by rfl, ?_⟩) (by with_reducible assumption) ?_
  rotate_left
  · intro w₁ hSw
    have p3 := hSw.nd.cells.2.2.2
    go_simp
    try with_reducible rfl
  try simp only [Act.put, List.setIfInBounds_toArray, List.set_cons_zero, List.set_cons_succ]
  refine wpAnyT_takeL [10, 11, 12, 13, 14, 15] (i := 9) (v := ?_) rfl (by kernel_rfl) (by kernel_rfl) (by kernel_rfl) (by kernel_rfl) (fun _ _ _ h => h) (Or.inl ⟨by rfl, ?_⟩) (by with_reducible assumption) ?_
  rotate_left
  · intro w₁ hSw
    skip
    go_simp
    try with_reducible rfl
  try simp only [Act.put, List.setIfInBounds_toArray, List.set_cons_zero, List.set_cons_succ]
  refine wpAnyT_takeL [11, 12, 13, 14, 15] (i := 10) (v := ?_) rfl (by kernel_rfl) (by kernel_rfl) (by kernel_rfl) (by kernel_rfl) (fun _ _ _ h => h) (Or.inl ⟨by rfl, ?_⟩) (by with_reducible assumption) ?_
  rotate_left
  · intro w₁ hSw
    have y0 : w₁.cell? ⟨rb, ro + 1, none⟩ = some (.float .f32 r1) := hSw.r.cell1 1 (by simp)
    go_simp
    try with_reducible rfl
  try simp only [Act.put, List.setIfInBounds_toArray, List.set_cons_zero, List.set_cons_succ]
  refine wpAnyT_ready (rs := [11]) (by kernel_rfl) (by simp) ?_
  refine AllReadyT.cons rfl (fun K hK => ?_) AllReadyT.nil
  go_simp
  (with_reducible refine (KC.out _ hHeld.l).mono ?_)
  rintro e w2 ⟨⟨x, y, p, q, a, n, k, rfl⟩, hb⟩
  have hN := hHeld.call hb
  clear hb
  go_wp2_with fail
  refine hK.out _ _ (fun _ => hN) (fun hS_ => ?_)
  have hHeld := hS_ (by omega)
  clear hS_ hK K
  try simp only [Act.put, List.setIfInBounds_toArray, List.set_cons_zero, List.set_cons_succ]
  refine wpAnyT_takeL [14, 15] (i := 12) (v := ?_) rfl (by kernel_rfl) (by kernel_rfl) (by kernel_rfl) (by kernel_rfl) (fun _ _ _ h => h) (Or.inl ⟨by rfl, ?_⟩) (by with_reducible assumption) ?_
  rotate_left
  · intro w₁ hSw
    skip
    go_simp
    try with_reducible rfl
  try simp only [Act.put, List.setIfInBounds_toArray, List.set_cons_zero, List.set_cons_succ]
  refine wpAnyT_takeL [14, 15] (i := 13) (v := ?_) rfl (by kernel_rfl) (by kernel_rfl) (by kernel_rfl) (by kernel_rfl) (fun _ _ _ h => h) (Or.inl ⟨by rfl, ?_⟩) (by with_reducible assumption) ?_
  rotate_left
  · intro w₁ hSw
    skip
    go_simp
    try with_reducible rfl
  try simp only [Act.put, List.setIfInBounds_toArray, List.set_cons_zero, List.set_cons_succ]
  refine wpAnyT_ready (rs := [14]) (by kernel_rfl) (by simp) ?_
  refine AllReadyT.cons rfl (fun K hK => ?_) AllReadyT.nil
  have q0 := hHeld.rs.frozen 0
  have q1 := hHeld.rs.frozen 1
  have q2 := hHeld.rs.frozen 2
  have q3 := hHeld.rs.frozen 3
  have q4 := hHeld.rs.frozen 4
  obtain ⟨d0, d1, d2, d3, d4⟩ := hHeld.rs.cells
  have lt := hHeld.rs.lt
  have HB := Lib.hid hHeld.b
  have HQ := Lib.hid (st_5 (W := w2) hHeld.rs (.int .i64 x) (.int .i64 y) (.int .i64 p) (.int .i64 q) (.slice a n k) _ rfl)
  go_simp
  refine hK.out _ _ (fun h => absurd h (by omega)) (fun _ => ?_)
  clear hK K
  try simp only [Act.put, List.setIfInBounds_toArray, List.set_cons_zero, List.set_cons_succ]
  refine wpAnyT_ready (rs := [15]) (by kernel_rfl) (by simp) ?_
  refine AllReadyT.cons rfl (fun K hK => ?_) AllReadyT.nil
  go_simp
  refine hK.out _ _ (fun h => absurd h (by omega)) (fun _ => ?_)
  clear hK K
  try simp only [Act.put, List.setIfInBounds_toArray, List.set_cons_zero, List.set_cons_succ]
  refine wpAnyT_done (by kernel_rfl) ?_ _
  refine NoPanic.normal ?_
  obtain ⟨e5, b5⟩ := HQ.out
  have lt5 : w.heap.size + 2 < (((((w2.setCell ⟨w.heap.size + 2, 0, none⟩ (.int .i64 x)).setCell ⟨w.heap.size + 2, 1, none⟩ (.int .i64 y)).setCell ⟨w.heap.size + 2, 2, none⟩ (.int .i64 p)).setCell ⟨w.heap.size + 2, 3, none⟩ (.int .i64 q)).setCell ⟨w.heap.size + 2, 4, none⟩ (.slice a n k)).heap.size := by simpa using lt
  clear HQ d0 d1 d2 d3 d4 q0 q1 q2 q3 q4
  generalize ((((w2.setCell ⟨w.heap.size + 2, 0, none⟩ (.int .i64 x)).setCell ⟨w.heap.size + 2, 1, none⟩ (.int .i64 y)).setCell ⟨w.heap.size + 2, 2, none⟩ (.int .i64 p)).setCell ⟨w.heap.size + 2, 3, none⟩ (.int .i64 q)).setCell ⟨w.heap.size + 2, 4, none⟩ (.slice a n k) = W5 at *
  have z0 : W5.cell? ⟨w.heap.size + 2, 0, none⟩ = some (.int .i64 x) := cell_of_row W5 _ 0 _ _ _ e5
  have z1 : W5.cell? ⟨w.heap.size + 2, 1, none⟩ = some (.int .i64 y) := cell_of_row W5 _ 1 _ _ _ e5
  have z2 : W5.cell? ⟨w.heap.size + 2, 2, none⟩ = some (.int .i64 p) := cell_of_row W5 _ 2 _ _ _ e5
  have z3 : W5.cell? ⟨w.heap.size + 2, 3, none⟩ = some (.int .i64 q) := cell_of_row W5 _ 3 _ _ _ e5
  have z4 : W5.cell? ⟨w.heap.size + 2, 4, none⟩ = some (.slice a n k) := cell_of_row W5 _ 4 _ _ _ e5
  have hb := HB.out.trans (b5.mono (by omega))
  clear e5 b5 HB
  go_wp2_with fail
  exact bodyPost_ret (v := .tuple #[fldV x y p q a n k, .int .i64 c]) (by simp [results, Tryz.results44, go_sem, *]) rfl ⟨⟨x, y, p, q, a, n, k, rfl⟩, hb⟩
set_option maxRecDepth 100000 in
set_option maxHeartbeats 1000000 in
theorem ap_dither (s : ByteArray) (ia : Option Addr) (nin cin b o cI rb ro cR g cap sb : Nat) (i0 : Int) (r0 : Nat) (c : Int) (w : World) (hz : s.toList = [100, 105, 116, 104, 101, 114])
    (hI : ZRow w (some ⟨b, o, none⟩) [i0]) (hR : SRow w (some ⟨rb, ro, none⟩) [r0]) (hF : Fld w sb 0 0 3 3 (.slice (some ⟨g, 0, none⟩) 9 cap)) (hl : SRow w (some ⟨g, 0, none⟩) l9)
    (KC : ∀ w', SRow w' (some ⟨g, 0, none⟩) l9 → Calls Tryz.prog 78 #[fldV 0 0 3 3 (some ⟨g, 0, none⟩) 9 cap, .int .u32 (IntKind.u32.wrap i0), .float .f32 r0] w' (TryP c w')) :
    Calls Tryz.prog 44 #[ndV s ia nin cin (some ⟨b, o, none⟩) 1 cI (some ⟨rb, ro, none⟩) 1 cR, reg 0 0 3 3, .slice (some ⟨sb, 0, none⟩) 1 1] w (TryP c w) := by
  have KC := Lib.hid KC
  have HS := Lib.hid (ApS.start (s := s) (ia := ia) (nin := nin) (cin := cin) (nI := 1) (cI := cI) (nR := 1) (cR := cR) (X := 0) (Y := 0) (W := 3) (H := 3) hI hR hF hl)
  clear hI hR hF hl
  go_enter Tryz.func44, Tryz.ntmps44
  go_upto_region 1 with fail
  generalize ((w.alloc (.cells #[.string s, .slice ia nin cin, .slice (some ⟨b, o, none⟩) 1 cI, .slice (some ⟨rb, ro, none⟩) 1 cR] 25)).alloc (.cells #[.int .i64 0, .int .i64 0, .int .i64 3, .int .i64 3] 33)).alloc (.cells #[.int .i64 0, .int .i64 0, .int .i64 0, .int .i64 0, .slice none 0 0] 78) = W0 at *
  have p0 := HS.out.nd.cells.1
  have l0 := HS.out.nd.lt
  go_wp2_with fail
  clear p0 l0
  refine wp_region_noPanic ?_
  refine wp_region_heldT (ApS w s ia nin cin (some ⟨b, o, none⟩) 1 cI (some ⟨rb, ro, none⟩) 1 cR [i0] [r0] 0 0 3 3 sb g cap) 15 (by kernel_rfl) HS.out.drew (fun hHeld => ?_)
  refine wpAnyT_takeL [1, 2, 12, 13, 14, 15, 16] (i := 0) (v := ?_) rfl (by kernel_rfl) (by kernel_rfl) (by kernel_rfl) (by kernel_rfl) (fun _ _ _ h => h) (Or.inl ⟨by rfl, ?_⟩) (by with_reducible assumption) ?_
  rotate_left
  · intro w₁ hSw
    skip
    go_simp
    try with_reducible rfl
  try simp only [Act.put, List.setIfInBounds_toArray, List.set_cons_zero, List.set_cons_succ]
  refine wpAnyT_takeL [2, 12, 13, 14, 15, 16] (i := 1) (v := ?_) rfl (by kernel_rfl) (by kernel_rfl) (by kernel_rfl) (by kernel_rfl) (fun _ _ _ h => h) (Or.inl ⟨by rfl, ?_⟩) (by with_reducible assumption) ?_
  rotate_left
  · intro w₁ hSw
    skip
    go_simp
    try with_reducible rfl
  try simp only [Act.put, List.setIfInBounds_toArray, List.set_cons_zero, List.set_cons_succ]
  refine wpAnyT_takeL [12, 13, 14, 15, 16] (i := 2) (v := ?_) rfl (by kernel_rfl) (by kernel_rfl) (by kernel_rfl) (by kernel_rfl) (fun _ _ _ h => h) (Or.inl ⟨by rfl, ?_⟩) (by with_reducible assumption) ?_
  rotate_left
  · intro w₁ hSw
    obtain ⟨f0, f1, f2, f3, f4⟩ := hSw.f.cells
    go_simp
    try with_reducible rfl
  try simp only [Act.put, List.setIfInBounds_toArray, List.set_cons_zero, List.set_cons_succ]
  refine wpAnyT_takeL [4, 5, 6, 7, 12, 13, 14, 15, 16] (i := 3) (v := ?_) rfl (by kernel_rfl) (by kernel_rfl) (by kernel_rfl) (by kernel_rfl) (fun _ _ _ h => h) (Or.inl ⟨by rfl, ?_⟩) (by with_reducible assumption) ?_
  rotate_left
  · intro w₁ hSw
    skip
    go_simp
    try with_reducible rfl
  try simp only [Act.put, List.setIfInBounds_toArray, List.set_cons_zero, List.set_cons_succ]
  refine wpAnyT_takeL [5, 6, 7, 12, 13, 14, 15, 16] (i := 4) (v := ?_) rfl (by kernel_rfl) (by kernel_rfl) (by kernel_rfl) (by kernel_rfl) (fun _ _ _ h => h) (Or.inl ⟨by rfl, ?_⟩) (by with_reducible assumption) ?_
  rotate_left
  · intro w₁ hSw
    have p2 := hSw.nd.cells.2.2.1
    go_simp
    try with_reducible rfl
  try simp only [Act.put, List.setIfInBounds_toArray, List.set_cons_zero, List.set_cons_succ]
  refine wpAnyT_takeL [6, 7, 12, 13, 14, 15, 16] (i := 5) (v := ?_) rfl (by kernel_rfl) (by kernel_rfl) (by kernel_rfl) (by kernel_rfl) (fun _ _ _ h => h) (Or.inl ⟨by rfl, ?_⟩) (by with_reducible assumption) ?_
  rotate_left
  · intro w₁ hSw
    skip
    go_simp
    try with_reducible rfl
  try simp only [Act.put, List.setIfInBounds_toArray, List.set_cons_zero, List.set_cons_succ]
  refine wpAnyT_takeL [7, 12, 13, 14, 15, 16] (i := 6) (v := ?_) rfl (by kernel_rfl) (by kernel_rfl) (by kernel_rfl) (by kernel_rfl) (fun _ _ _ h => h) (Or.inl ⟨by rfl, ?_⟩) (by with_reducible assumption) ?_
  rotate_left
  · intro w₁ hSw
    have x0 : w₁.cell? ⟨b, o, none⟩ = some (.int .i64 i0) := hSw.i.at_ 0 (by simp)
    go_simp
    try with_reducible rfl
  try simp only [Act.put, List.setIfInBounds_toArray, List.set_cons_zero, List.set_cons_succ]
  refine wpAnyT_takeL [12, 13, 14, 15, 16] (i := 7) (v := ?_) rfl (by kernel_rfl) (by kernel_rfl) (by kernel_rfl) (by kernel_rfl) (fun _ _ _ h => h) (Or.inl ⟨by rfl, ?_⟩) (by with_reducible assumption) ?_
  rotate_left
  · intro w₁ hSw
    skip
    go_simp
    try with_reducible rfl
  try simp only [Act.put, List.setIfInBounds_toArray, List.set_cons_zero, List.set_cons_succ]
  refine wpAnyT_takeL [9, 10, 11, 12, 13, 14, 15, 16] (i := 8) (v := ?_) rfl (by kernel_rfl) (by kernel_rfl) (by kernel_rfl) (by kernel_rfl) (fun _ _ _ h => h) (Or.inl ⟨by rfl, ?_⟩) (by with_reducible assumption) ?_
  rotate_left
  · intro w₁ hSw
    skip
    go_simp
    try with_reducible rfl
  try simp only [Act.put, List.setIfInBounds_toArray, List.set_cons_zero, List.set_cons_succ]
  refine wpAnyT_takeL [10, 11, 12, 13, 14, 15, 16] (i := 9) (v := ?_) rfl (by kernel_rfl) (by kernel_rfl) (by kernel_rfl) (by kernel_rfl) (fun _ _ _ h => h) (Or.inl ⟨by rfl, ?_⟩) (by with_reducible assumption) ?_
  rotate_left
  · intro w₁ hSw
    have p3 := hSw.nd.cells.2.2.2
    go_simp
    try with_reducible rfl
  try simp only [Act.put, List.setIfInBounds_toArray, List.set_cons_zero, List.set_cons_succ]
  refine wpAnyT_takeL [11, 12, 13, 14, 15, 16] (i := 10) (v := ?_) rfl (by kernel_rfl) (by kernel_rfl) (by kernel_rfl) (by kernel_rfl) (fun _ _ _ h => h) (Or.inl ⟨by rfl, ?_⟩) (by with_reducible assumption) ?_
  rotate_left
  · intro w₁ hSw
    skip
    go_simp
    try with_reducible rfl
  try simp only [Act.put, List.setIfInBounds_toArray, List.set_cons_zero, List.set_cons_succ]
  refine wpAnyT_takeL [12, 13, 14, 15, 16] (i := 11) (v := ?_) rfl (by kernel_rfl) (by kernel_rfl) (by kernel_rfl) (by kernel_rfl) (fun _ _ _ h => h) (Or.inl ⟨by rfl, ?_⟩) (by with_reducible assumption) ?_
  rotate_left
  · intro w₁ hSw
    have y0 : w₁.cell? ⟨rb, ro, none⟩ = some (.float .f32 r0) := hSw.r.cell1 0 (by simp)
    go_simp
    try with_reducible rfl
  try simp only [Act.put, List.setIfInBounds_toArray, List.set_cons_zero, List.set_cons_succ]
  refine wpAnyT_ready (rs := [12]) (by kernel_rfl) (by simp) ?_
  refine AllReadyT.cons rfl (fun K hK => ?_) AllReadyT.nil
  go_simp
  (with_reducible refine (KC.out _ hHeld.l).mono ?_)
  rintro e w2 ⟨⟨x, y, p, q, a, n, k, rfl⟩, hb⟩
  have hN := hHeld.call hb
  clear hb
  go_wp2_with fail
  refine hK.out _ _ (fun _ => hN) (fun hS_ => ?_)
  have hHeld := hS_ (by omega)
  clear hS_ hK K
  try simp only [Act.put, List.setIfInBounds_toArray, List.set_cons_zero, List.set_cons_succ]
  refine wpAnyT_takeL [15, 16] (i := 13) (v := ?_) rfl (by kernel_rfl) (by kernel_rfl) (by kernel_rfl) (by kernel_rfl) (fun _ _ _ h => h) (Or.inl ⟨by rfl, ?_⟩) (by with_reducible assumption) ?_
  rotate_left
  · intro w₁ hSw
    skip
    go_simp
    try with_reducible rfl
  try simp only [Act.put, List.setIfInBounds_toArray, List.set_cons_zero, List.set_cons_succ]
  refine wpAnyT_takeL [15, 16] (i := 14) (v := ?_) rfl (by kernel_rfl) (by kernel_rfl) (by kernel_rfl) (by kernel_rfl) (fun _ _ _ h => h) (Or.inl ⟨by rfl, ?_⟩) (by with_reducible assumption) ?_
  rotate_left
  · intro w₁ hSw
    skip
    go_simp
    try with_reducible rfl
  try simp only [Act.put, List.setIfInBounds_toArray, List.set_cons_zero, List.set_cons_succ]
  refine wpAnyT_ready (rs := [15]) (by kernel_rfl) (by simp) ?_
  refine AllReadyT.cons rfl (fun K hK => ?_) AllReadyT.nil
  have q0 := hHeld.rs.frozen 0
  have q1 := hHeld.rs.frozen 1
  have q2 := hHeld.rs.frozen 2
  have q3 := hHeld.rs.frozen 3
  have q4 := hHeld.rs.frozen 4
  obtain ⟨d0, d1, d2, d3, d4⟩ := hHeld.rs.cells
  have lt := hHeld.rs.lt
  have HB := Lib.hid hHeld.b
  have HQ := Lib.hid (st_5 (W := w2) hHeld.rs (.int .i64 x) (.int .i64 y) (.int .i64 p) (.int .i64 q) (.slice a n k) _ rfl)
  go_simp
  refine hK.out _ _ (fun h => absurd h (by omega)) (fun _ => ?_)
  clear hK K
  try simp only [Act.put, List.setIfInBounds_toArray, List.set_cons_zero, List.set_cons_succ]
  refine wpAnyT_ready (rs := [16]) (by kernel_rfl) (by simp) ?_
  refine AllReadyT.cons rfl (fun K hK => ?_) AllReadyT.nil
  go_simp
  refine hK.out _ _ (fun h => absurd h (by omega)) (fun _ => ?_)
  clear hK K
  try simp only [Act.put, List.setIfInBounds_toArray, List.set_cons_zero, List.set_cons_succ]
  refine wpAnyT_done (by kernel_rfl) ?_ _
  refine NoPanic.normal ?_
  obtain ⟨e5, b5⟩ := HQ.out
  have lt5 : w.heap.size + 2 < (((((w2.setCell ⟨w.heap.size + 2, 0, none⟩ (.int .i64 x)).setCell ⟨w.heap.size + 2, 1, none⟩ (.int .i64 y)).setCell ⟨w.heap.size + 2, 2, none⟩ (.int .i64 p)).setCell ⟨w.heap.size + 2, 3, none⟩ (.int .i64 q)).setCell ⟨w.heap.size + 2, 4, none⟩ (.slice a n k)).heap.size := by simpa using lt
  clear HQ d0 d1 d2 d3 d4 q0 q1 q2 q3 q4
  generalize ((((w2.setCell ⟨w.heap.size + 2, 0, none⟩ (.int .i64 x)).setCell ⟨w.heap.size + 2, 1, none⟩ (.int .i64 y)).setCell ⟨w.heap.size + 2, 2, none⟩ (.int .i64 p)).setCell ⟨w.heap.size + 2, 3, none⟩ (.int .i64 q)).setCell ⟨w.heap.size + 2, 4, none⟩ (.slice a n k) = W5 at *
  have z0 : W5.cell? ⟨w.heap.size + 2, 0, none⟩ = some (.int .i64 x) := cell_of_row W5 _ 0 _ _ _ e5
  have z1 : W5.cell? ⟨w.heap.size + 2, 1, none⟩ = some (.int .i64 y) := cell_of_row W5 _ 1 _ _ _ e5
  have z2 : W5.cell? ⟨w.heap.size + 2, 2, none⟩ = some (.int .i64 p) := cell_of_row W5 _ 2 _ _ _ e5
  have z3 : W5.cell? ⟨w.heap.size + 2, 3, none⟩ = some (.int .i64 q) := cell_of_row W5 _ 3 _ _ _ e5
  have z4 : W5.cell? ⟨w.heap.size + 2, 4, none⟩ = some (.slice a n k) := cell_of_row W5 _ 4 _ _ _ e5
  have hb := HB.out.trans (b5.mono (by omega))
  clear e5 b5 HB
  go_wp2_with fail
  exact bodyPost_ret (v := .tuple #[fldV x y p q a n k, .int .i64 c]) (by simp [results, Tryz.results44, go_sem, *]) rfl ⟨⟨x, y, p, q, a, n, k, rfl⟩, hb⟩
end Go.Proofs.YtimhpmccmafnpaaGreat
