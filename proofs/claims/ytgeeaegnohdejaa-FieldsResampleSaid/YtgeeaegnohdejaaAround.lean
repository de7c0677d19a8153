import Derived.Test.YtgeeaegnohdejaaAtF
import Derived.StillTailTactics
namespace Go.Proofs.Ytgeeaegnohdejaa
open Go.ChangeShapes Go.WideShapes Go.ChangeAt Go.RowKit
set_option linter.unusedVariables false

/-- block 'k' is just a cell's neighbours -/
def Nb5 (w : World) (k : Nat) (a b c d e : Nat) : Prop := w.heap[k]? = some (.cells #[.float .f32 a, .float .f32 b, .float .f32 c, .float .f32 d, .float .f32 e] /-T-/119 (0, 0))
theorem Nb5.cells {w : World} {k a b c d e : Nat} (h : Nb5 w k a b c d e) : w.cell? ⟨k, 0, none⟩ = some (.float .f32 a) ∧ w.cell? ⟨k, 1, none⟩ = some (.float .f32 b) ∧ w.cell? ⟨k, 2, none⟩ = some (.float .f32 c) ∧ w.cell? ⟨k, 3, none⟩ = some (.float .f32 d) ∧ w.cell? ⟨k, 4, none⟩ = some (.float .f32 e) :=
  ⟨cell_of_row w k 0 _ _ _ h, cell_of_row w k 1 _ _ _ h, cell_of_row w k 2 _ _ _ h, cell_of_row w k 3 _ _ _ h, cell_of_row w k 4 _ _ _ h⟩
theorem Nb5.frozen {w : World} {k a b c d e : Nat} (h : Nb5 w k a b c d e) (i : Nat) : w.frozen? ⟨k, i, none⟩ = false := frozen_of_row w k i _ _ h
theorem Nb5.lt {w : World} {k a b c d e : Nat} (h : Nb5 w k a b c d e) : k < w.heap.size := by
  rcases Nat.lt_or_ge k w.heap.size with hlt | hge
  · exact hlt
  · unfold Nb5 at h; rw [Array.getElem?_eq_none hge] at h; cases h

theorem around_world (w : World) (X Y W H : Int) (v : Value) : ∀ W0, W0 = (w.alloc (.cells #[.int .i64 X, .int .i64 Y, .int .i64 W, .int .i64 H, v] /-T-/66)).alloc (.cells #[.float .f32 0, .float .f32 0, .float .f32 0, .float .f32 0, .float .f32 0] /-T-/119) →
    Fld W0 w.heap.size X Y W H v ∧ Nb5 W0 (w.heap.size + 1) 0 0 0 0 0 ∧ Below w.heap.size w W0 ∧ W0.heap.size = w.heap.size + 2 := by
  rintro _ rfl
  refine ⟨(Fld.new w X Y W H v).alloc _, ?_, (by repeat (first | with_reducible exact Below.refl _ _ | with_reducible apply Below.drew | with_reducible refine below_drewN ?_ _ | (with_reducible refine Below.setCell ?_ ?_ _; rotate_left; focus (first | omega | (simp <;> omega))) | (with_reducible refine Below.alloc ?_ ?_ _; rotate_left; focus (first | omega | (simp <;> omega))))), by simp⟩
  have := heap_alloc_new (w.alloc (.cells #[.int .i64 X, .int .i64 Y, .int .i64 W, .int .i64 H, v] /-T-/66)) (.cells #[.float .f32 0, .float .f32 0, .float .f32 0, .float .f32 0, .float .f32 0] /-T-/119)
  unfold Nb5
  simpa using this

set_option maxRecDepth 100000 in
set_option maxHeartbeats 4000000 in
theorem around_any (X Y : Int) (Wn Hn : Nat) (x y : Int) (b o c k : Nat) (l : List Nat) (w : World) (hl : SRow w (some ⟨b, o, none⟩) l) (hw : 1 ≤ Wn) (hw2 : Wn ≤ 512) (hx0 : -8388608 ≤ X) (hx1 : X ≤ 8388608) (hy0 : -8388608 ≤ Y) (hy1 : Y ≤ 8388608) (hx : X ≤ x) (hx' : x < X + 512) (hy : Y ≤ y) (hy' : y < Y + 512)
    (hk : (y - Y) * Wn + x - X = (k : Int)) (k1 : Wn ≤ k) (k2 : k + Wn < l.length) :
    Calls Try.prog 155 #[fldV X Y Wn Hn (some ⟨b, o, none⟩) l.length c, .int .i64 x, .int .i64 y] w fun e w' => e = .returned (.agg #[.float .f32 (l.getD (k - Wn) 0), .float .f32 (l.getD (k + Wn) 0), .float .f32 (l.getD (k + 1) 0), .float .f32 (l.getD (k - 1) 0), .float .f32 (l.getD k 0)]) ∧ Below w.heap.size w w' := by
  obtain ⟨M, hM⟩ : ∃ M : Int, (y - Y) * (Wn : Int) = M := ⟨_, rfl⟩
  have hln : l.length ≤ 1099511627776 := hl.1.1
  have HL := Lib.hid hl
  have ek := Lib.hid hk
  rw [hM] at hk
  have m0 : 0 ≤ M := by rw [← hM]; exact Int.mul_nonneg (by omega) (by omega)
  have m1 : M ≤ 1099511627776 + 16777216 := by omega
  have t0 : Hid (IntKind.i64.wrap ((k : Int) - (Wn : Int)) = ((k - Wn : Nat) : Int)) := by unfold Hid; rw [IntKind.wrap_i64]; omega
  have t1 : Hid (IntKind.i64.wrap ((k : Int) + (Wn : Int)) = ((k + Wn : Nat) : Int)) := by unfold Hid; rw [IntKind.wrap_i64]; omega
  have t2 : Hid (IntKind.i64.wrap ((k : Int) + 1) = ((k + 1 : Nat) : Int)) := by unfold Hid; rw [IntKind.wrap_i64]; omega
  have t3 : Hid (IntKind.i64.wrap ((k : Int) - 1) = ((k - 1 : Nat) : Int)) := by unfold Hid; rw [IntKind.wrap_i64]; omega
  have t4 : Hid (IntKind.i64.wrap (IntKind.i64.wrap (IntKind.i64.wrap (IntKind.i64.wrap (y - Y) * (Wn : Int)) + x) - X) = (k : Int)) := by
    unfold Hid
    rw [show IntKind.i64.wrap (y - Y) = y - Y from by rw [IntKind.wrap_i64]; omega, hM, show IntKind.i64.wrap M = M from by rw [IntKind.wrap_i64]; omega]
    rw [show IntKind.i64.wrap (M + x) = M + x from by rw [IntKind.wrap_i64]; omega, IntKind.wrap_i64]; omega
  clear hl t4
  obtain ⟨kn, hkn⟩ : ∃ kn : Nat, k - Wn = kn := ⟨_, rfl⟩
  obtain ⟨ks, hks⟩ : ∃ ks : Nat, k + Wn = ks := ⟨_, rfl⟩
  obtain ⟨ke, hke⟩ : ∃ ke : Nat, k + 1 = ke := ⟨_, rfl⟩
  obtain ⟨kw, hkw⟩ : ∃ kw : Nat, k - 1 = kw := ⟨_, rfl⟩
  rw [hkn] at t0
  rw [hks] at t1
  rw [hke] at t2
  rw [hkw] at t3
  have u0 : kn < l.length := by omega
  have u1 : ks < l.length := by omega
  have u2 : ke < l.length := by omega
  have u3 : kw < l.length := by omega
  have u4 : k < l.length := by omega
  rw [hkn, hks, hke, hkw]

  go_enter Try.func155, Try.ntmps155
  go_wp2_with fail
  generalize hW0 : (w.alloc (.cells #[.int .i64 X, .int .i64 Y, .int .i64 Wn, .int .i64 Hn, .slice (some ⟨b, o, none⟩) l.length c] /-T-/66)).alloc (.cells #[.float .f32 0, .float .f32 0, .float .f32 0, .float .f32 0, .float .f32 0] /-T-/119) = W0 at *
  obtain ⟨F0, N0, B0, z0⟩ := around_world w X Y Wn Hn _ W0 hW0.symm
  have HN := Lib.hid N0
  have HB := Lib.hid B0
  have L0 := HL.out.below B0
  have a0 := SRow.at_ L0 u0
  have a1 := SRow.at_ L0 u1
  have a2 := SRow.at_ L0 u2
  have a3 := SRow.at_ L0 u3
  have a4 := SRow.at_ L0 u4
  clear HL L0 hW0 B0 N0 hkn hks hke hkw k1 k2
  generalize hv0 : l.getD kn 0 = v0 at *
  have V0 := Lib.hid hv0
  clear hv0
  generalize hv1 : l.getD ks 0 = v1 at *
  have V1 := Lib.hid hv1
  clear hv1
  generalize hv2 : l.getD ke 0 = v2 at *
  have V2 := Lib.hid hv2
  clear hv2
  generalize hv3 : l.getD kw 0 = v3 at *
  have V3 := Lib.hid hv3
  clear hv3
  generalize hv4 : l.getD k 0 = v4 at *
  have V4 := Lib.hid hv4
  clear hv4
  obtain ⟨c0, c1, c2, c3, c4⟩ := F0.cells
  have lz0 : w.heap.size < W0.heap.size := by omega
  have lz1 : w.heap.size + 1 < W0.heap.size := by omega
  have s0 := t0.out
  have s1 := t1.out
  have s2 := t2.out
  have s3 := t3.out
  clear t0 t1 t2 t3 F0 ek hk hM
  go_still_tail 36, (by kernel_rfl)
  change wpList _ _ _ _ _ W0.drew
  have q0 := HN.out.frozen 0
  have q1 := HN.out.frozen 1
  have q2 := HN.out.frozen 2
  have q3 := HN.out.frozen 3
  have q4 := HN.out.frozen 4
  clear a0 a1 a2 a3 a4 c0 c1 c2 c3 c4 s0 s1 s2 s3
  obtain ⟨d0, d1, d2, d3, d4⟩ := HN.out.cells
  go_wp2_with fail
  have B0 := HB.out
  have E0 := V0.out
  have E1 := V1.out
  have E2 := V2.out
  have E3 := V3.out
  have E4 := V4.out
  refine bodyPost_ret (v := .agg #[.float .f32 v0, .float .f32 v1, .float .f32 v2, .float .f32 v3, .float .f32 v4]) (by simp [results, Try.results155, go_sem, *]) rfl ⟨by rw [E0, E1, E2, E3, E4], (by have hszz := B0.size; repeat (first | with_reducible exact B0 | with_reducible apply Below.drew | with_reducible refine below_drewN ?_ _ | (with_reducible refine Below.setCell ?_ ?_ _; rotate_left; focus (first | omega | (simp <;> omega))) | (with_reducible refine Below.alloc ?_ ?_ _; rotate_left; focus (first | omega | (simp <;> omega)))))⟩
end Go.Proofs.Ytgeeaegnohdejaa
