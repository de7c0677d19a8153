import Derived.Test.YtnfebeebjelgbaaKernOp2
namespace Go.Proofs.Ytnfebeebjelgbaa
open Go.ChangeShapes Go.WideShapes Go.ChangeAt Go.RowKit
open Ieee.Format (fin finE htE allFin allHt all_true all_false mulF subF addF Ht Bd divF rootF floorF easeF mixF)
set_option linter.unusedVariables false
set_option maxRecDepth 100000 in
theorem refkern_rng (X Y : Int) (Wn Hn : Nat) (R : Int) (ka : Option Addr) (K : List Nat) (b o c kc : Nat) (l : List Nat) (w : World) (h : R < 1 ∨ 15 < R ∨ R.tmod 2 = 0) :
    Calls Try.prog 47 #[fldV X Y Wn Hn (some ⟨b, o, none⟩) l.length c, .slice ka K.length kc, .int .i64 R] w fun e w' => e = .returned (.tuple #[fldV 0 0 0 0 none 0 0, .int .i64 3]) ∧ Below w.heap.size w w' := by
  by_cases h1 : R < 1
  · clear h
    go_enter Try.func47, Try.ntmps47
    go_wp2_with fail
    exact bodyPost_ret (v := .tuple #[fldV 0 0 0 0 none 0 0, .int .i64 3]) (by simp [results, Try.results47, go_sem, *]) rfl ⟨rfl, (by repeat (first | with_reducible exact Below.refl _ _ | with_reducible apply Below.drew | with_reducible refine below_drewN ?_ _ | (with_reducible refine Below.setCell ?_ ?_ _; rotate_left; focus (first | omega | (simp <;> omega))) | (with_reducible refine Below.alloc ?_ ?_ _; rotate_left; focus (first | omega | (simp <;> omega)))))⟩
  · by_cases h2 : 15 < R
    · clear h
      go_enter Try.func47, Try.ntmps47
      go_wp2_with fail
      exact bodyPost_ret (v := .tuple #[fldV 0 0 0 0 none 0 0, .int .i64 3]) (by simp [results, Try.results47, go_sem, *]) rfl ⟨rfl, (by repeat (first | with_reducible exact Below.refl _ _ | with_reducible apply Below.drew | with_reducible refine below_drewN ?_ _ | (with_reducible refine Below.setCell ?_ ?_ _; rotate_left; focus (first | omega | (simp <;> omega))) | (with_reducible refine Below.alloc ?_ ?_ _; rotate_left; focus (first | omega | (simp <;> omega)))))⟩
    · have h3 : R.tmod 2 = 0 := by omega
      clear h
      go_enter Try.func47, Try.ntmps47
      go_wp2_with fail
      exact bodyPost_ret (v := .tuple #[fldV 0 0 0 0 none 0 0, .int .i64 3]) (by simp [results, Try.results47, go_sem, *]) rfl ⟨rfl, (by repeat (first | with_reducible exact Below.refl _ _ | with_reducible apply Below.drew | with_reducible refine below_drewN ?_ _ | (with_reducible refine Below.setCell ?_ ?_ _; rotate_left; focus (first | omega | (simp <;> omega))) | (with_reducible refine Below.alloc ?_ ?_ _; rotate_left; focus (first | omega | (simp <;> omega)))))⟩

set_option maxRecDepth 100000 in
theorem refkern_len (X Y : Int) (Wn Hn : Nat) (R : Int) (N : Nat) (ka : Option Addr) (K : List Nat) (b o c kc : Nat) (l : List Nat) (w : World) (hs : SideOk R N) (hk : K.length ≤ 9223372036854775807) (h : ¬ (K.length : Int) = R * R) :
    Calls Try.prog 47 #[fldV X Y Wn Hn (some ⟨b, o, none⟩) l.length c, .slice ka K.length kc, .int .i64 R] w fun e w' => e = .returned (.tuple #[fldV 0 0 0 0 none 0 0, .int .i64 2]) ∧ Below w.heap.size w w' := by
  obtain ⟨s1, s2, s3, s4, s5, s6⟩ := hs
  have r1 : 0 ≤ R * R := Int.mul_nonneg (by omega) (by omega)
  have r2 : R * R ≤ 15 * 15 := Int.mul_le_mul (by omega) (by omega) (by omega) (by omega)
  clear s6 s1 s2
  go_enter Try.func47, Try.ntmps47
  go_wp2_with fail
  exact bodyPost_ret (v := .tuple #[fldV 0 0 0 0 none 0 0, .int .i64 2]) (by simp [results, Try.results47, go_sem, *]) rfl ⟨rfl, (by repeat (first | with_reducible exact Below.refl _ _ | with_reducible apply Below.drew | with_reducible refine below_drewN ?_ _ | (with_reducible refine Below.setCell ?_ ?_ _; rotate_left; focus (first | omega | (simp <;> omega))) | (with_reducible refine Below.alloc ?_ ?_ _; rotate_left; focus (first | omega | (simp <;> omega)))))⟩

set_option maxRecDepth 100000 in
theorem refkern_ht (X Y : Int) (Wn Hn : Nat) (R : Int) (N : Nat) (ka : Option Addr) (K : List Nat) (b o c kc : Nat) (l : List Nat) (w : World) (hs : SideOk R N) (hk : SRow w ka K) (h : (K.length : Int) = R * R) (hz : htE K ≠ 0) :
    Calls Try.prog 47 #[fldV X Y Wn Hn (some ⟨b, o, none⟩) l.length c, .slice ka K.length kc, .int .i64 R] w fun e w' => e = .returned (.tuple #[fldV 0 0 0 0 none 0 0, .int .i64 (htE K)]) ∧ Below w.heap.size w w' := by
  have KH := Lib.hid (fun w (h : SRow w ka K) => refheight_any ka kc K w h)
  have HK := Lib.hid hk
  obtain ⟨s1, s2, s3, s4, s5, s6⟩ := hs
  have r1 : 0 ≤ R * R := Int.mul_nonneg (by omega) (by omega)
  have r2 : R * R ≤ 15 * 15 := Int.mul_le_mul (by omega) (by omega) (by omega) (by omega)
  clear s6 s1 s2 hk
  generalize htE K = a at *
  have hb' : (a != 0) = true := by rw [bne_iff_ne]; exact hz
  clear hz
  have hB0 : Below w.heap.size w ((((w.alloc (.cells #[.int .i64 X, .int .i64 Y, .int .i64 Wn, .int .i64 Hn, .slice (some ⟨b, o, none⟩) l.length c] 36)).alloc (.cells #[.slice ka K.length kc] 34)).alloc (.cells #[.int .i64 R] 3)).alloc (.cells #[.int .i64 0, .int .i64 0, .int .i64 0, .int .i64 0, .slice none 0 0] 36)) := (by repeat (first | with_reducible exact Below.refl _ _ | with_reducible apply Below.drew | with_reducible refine below_drewN ?_ _ | (with_reducible refine Below.setCell ?_ ?_ _; rotate_left; focus (first | omega | (simp <;> omega))) | (with_reducible refine Below.alloc ?_ ?_ _; rotate_left; focus (first | omega | (simp <;> omega)))))
  obtain ⟨E0, P0, Q0, F0, _⟩ := box_fsi w X Y Wn Hn (.slice (some ⟨b, o, none⟩) l.length c) #[.slice ka K.length kc] 34 #[.int .i64 R] 3 _ rfl
  have HE0 := Lib.hid E0
  have HP0 := Lib.hid P0
  have HQ0 := Lib.hid Q0
  have HF0 := Lib.hid F0
  have HB0 := Lib.hid hB0
  clear hB0 E0 P0 Q0 F0
  go_enter Try.func47, Try.ntmps47
  go_wp2_with fail
  generalize hW0 : (((w.alloc (.cells #[.int .i64 X, .int .i64 Y, .int .i64 Wn, .int .i64 Hn, .slice (some ⟨b, o, none⟩) l.length c] 36)).alloc (.cells #[.slice ka K.length kc] 34)).alloc (.cells #[.int .i64 R] 3)).alloc (.cells #[.int .i64 0, .int .i64 0, .int .i64 0, .int .i64 0, .slice none 0 0] 36) = W0 at *
  clear hW0
  refine (KH.out _ (HK.out.below HB0.out)).mono ?_
  rintro e w1 ⟨rfl, rfl⟩
  have q1 : W0.cell? ⟨w.heap.size + 1 + 1, 0, none⟩ = some (.int .i64 R) := HQ0.out.cell 0
  have l2 : w.heap.size + 1 + 1 < W0.heap.size := HQ0.out.lt
  have l0 : w.heap.size < W0.heap.size := by omega
  obtain ⟨d0, d1, d2, d3, d4⟩ := HF0.out.cells
  have qf0 := HF0.out.frozen 0
  have qf1 := HF0.out.frozen 1
  have qf2 := HF0.out.frozen 2
  have qf3 := HF0.out.frozen 3
  have qf4 := HF0.out.frozen 4
  have lz := HF0.out.lt
  go_wp2_with fail
  have B3 := HB0.out
  exact bodyPost_ret (v := .tuple #[fldV 0 0 0 0 none 0 0, .int .i64 a]) (by simp [results, Try.results47, go_sem, *]) rfl ⟨rfl, (by have hszz := B3.size; repeat (first | with_reducible exact B3 | with_reducible apply Below.drew | with_reducible refine below_drewN ?_ _ | (with_reducible refine Below.setCell ?_ ?_ _; rotate_left; focus (first | omega | (simp <;> omega))) | (with_reducible refine Below.alloc ?_ ?_ _; rotate_left; focus (first | omega | (simp <;> omega)))))⟩

theorem int_world (w : World) (n : Int) : ∀ W0, W0 = w.alloc (.cells #[.int .i64 n] 3) → Blk W0 w.heap.size #[.int .i64 n] 3 ∧ Below w.heap.size w W0 := by
  rintro _ rfl
  exact ⟨Blk.new w _ _, (by repeat (first | with_reducible exact Below.refl _ _ | with_reducible apply Below.drew | with_reducible refine below_drewN ?_ _ | (with_reducible refine Below.setCell ?_ ?_ _; rotate_left; focus (first | omega | (simp <;> omega))) | (with_reducible refine Below.alloc ?_ ?_ _; rotate_left; focus (first | omega | (simp <;> omega)))))⟩
set_option maxRecDepth 100000 in
theorem refkern_no (X Y : Int) (Wn Hn : Nat) (R : Int) (N : Nat) (ka : Option Addr) (K : List Nat) (b o c kc : Nat) (l : List Nat) (w : World) (hr : Right X Y Wn Hn l) (hs : SideOk R N) (hk : SRow w ka K) (h : (K.length : Int) = R * R) (hz : htE K = 0) (hno : Wn < 2 * N + 1 ∨ Hn < 2 * N + 1) :
    Calls Try.prog 47 #[fldV X Y Wn Hn (some ⟨b, o, none⟩) l.length c, .slice ka K.length kc, .int .i64 R] w fun e w' => e = .returned (.tuple #[fldV 0 0 0 0 none 0 0, .int .i64 10]) ∧ Below w.heap.size w w' := by
  have KH := Lib.hid (fun w (h : SRow w ka K) => refheight_any ka kc K w h)
  rw [hz] at KH
  have HK := Lib.hid hk
  obtain ⟨s1, s2, s3, s4, s5, s6⟩ := hs
  have r1 : 0 ≤ R * R := Int.mul_nonneg (by omega) (by omega)
  have r2 : R * R ≤ 15 * 15 := Int.mul_le_mul (by omega) (by omega) (by omega) (by omega)
  have g1 := hr.w2; have g2 := hr.h2; have g3 := hr.x1; have g4 := hr.x2; have g5 := hr.y1; have g6 := hr.y2; have g7 := hr.w1; have g8 := hr.h1
  have KG := Lib.hid (fun w' => grown_any X Y Wn Hn (-(N : Int)) w' (by omega) (by omega) (by omega) (by omega) (by omega) (by omega) (by omega) (by omega) (by omega) (by omega))
  have hh : (Wn : Int) + 2 * -(N : Int) < 1 ∨ (Hn : Int) + 2 * -(N : Int) < 1 := by omega
  have m1 : (0 : Int) ≤ (N : Int) := by omega
  have m2 : (N : Int) ≤ 7 := by omega
  clear hr s1 s2 hk g1 g2 g3 g4 g5 g6 g7 g8 hno
  generalize (N : Int) = M at *
  generalize X - -M = X1 at *
  generalize Y - -M = Y1 at *
  generalize (Wn : Int) + 2 * -M = P at *
  generalize (Hn : Int) + 2 * -M = Q at *
  by_cases hp : P < 1
  · clear hh
    have hB0 : Below w.heap.size w ((((w.alloc (.cells #[.int .i64 X, .int .i64 Y, .int .i64 Wn, .int .i64 Hn, .slice (some ⟨b, o, none⟩) l.length c] 36)).alloc (.cells #[.slice ka K.length kc] 34)).alloc (.cells #[.int .i64 R] 3)).alloc (.cells #[.int .i64 0, .int .i64 0, .int .i64 0, .int .i64 0, .slice none 0 0] 36)) := (by repeat (first | with_reducible exact Below.refl _ _ | with_reducible apply Below.drew | with_reducible refine below_drewN ?_ _ | (with_reducible refine Below.setCell ?_ ?_ _; rotate_left; focus (first | omega | (simp <;> omega))) | (with_reducible refine Below.alloc ?_ ?_ _; rotate_left; focus (first | omega | (simp <;> omega)))))
    obtain ⟨E0, P0, Q0, F0, _⟩ := box_fsi w X Y Wn Hn (.slice (some ⟨b, o, none⟩) l.length c) #[.slice ka K.length kc] 34 #[.int .i64 R] 3 _ rfl
    have HE0 := Lib.hid E0
    have HP0 := Lib.hid P0
    have HQ0 := Lib.hid Q0
    have HF0 := Lib.hid F0
    have HB0 := Lib.hid hB0
    clear hB0 E0 P0 Q0 F0
    go_enter Try.func47, Try.ntmps47
    go_wp2_with fail
    generalize hW0 : (((w.alloc (.cells #[.int .i64 X, .int .i64 Y, .int .i64 Wn, .int .i64 Hn, .slice (some ⟨b, o, none⟩) l.length c] 36)).alloc (.cells #[.slice ka K.length kc] 34)).alloc (.cells #[.int .i64 R] 3)).alloc (.cells #[.int .i64 0, .int .i64 0, .int .i64 0, .int .i64 0, .slice none 0 0] 36) = W0 at *
    clear hW0
    refine (KH.out _ (HK.out.below HB0.out)).mono ?_
    rintro e w1 ⟨rfl, rfl⟩
    have q1 : W0.cell? ⟨w.heap.size + 1 + 1, 0, none⟩ = some (.int .i64 R) := HQ0.out.cell 0
    have l2 : w.heap.size + 1 + 1 < W0.heap.size := HQ0.out.lt
    have l0 : w.heap.size < W0.heap.size := by omega
    obtain ⟨c0, c1, c2, c3, c4⟩ := HE0.out.cells
    go_wp2_with fail
    generalize hW2 : W0.alloc (.cells #[.int .i64 M] 3) = W2 at *
    obtain ⟨N2, B2⟩ := int_world W0 M W2 hW2.symm
    clear hW2
    have HN2 := Lib.hid N2
    have HE2 := Lib.hid (HE0.out.below B2 HE0.out.lt)
    have HP2 := Lib.hid (HP0.out.below B2 HP0.out.lt)
    have HQ2 := Lib.hid (HQ0.out.below B2 HQ0.out.lt)
    have HF2 := Lib.hid (HF0.out.below B2 HF0.out.lt)
    have HB2 := Lib.hid (HB0.out.trans (B2.mono HB0.out.size))
    clear N2 B2 c0 c1 c2 c3 c4 q1 l2 l0 HE0 HP0 HQ0 HF0 HB0
    refine (KG.out _).mono ?_
    rintro e w3 ⟨rfl, b3⟩
    have HN3 := Lib.hid (HN2.out.below b3 HN2.out.lt)
    have HE3 := Lib.hid (HE2.out.below b3 HE2.out.lt)
    have HP3 := Lib.hid (HP2.out.below b3 HP2.out.lt)
    have HQ3 := Lib.hid (HQ2.out.below b3 HQ2.out.lt)
    have HF3 := Lib.hid (HF2.out.below b3 HF2.out.lt)
    have HB3 := Lib.hid (HB2.out.trans (b3.mono HB2.out.size))
    clear b3 HN2 HE2 HP2 HQ2 HF2 HB2 KG
    clear HN3 HE3 HP3 HQ3
    obtain ⟨d0, d1, d2, d3, d4⟩ := HF3.out.cells
    have qf0 := HF3.out.frozen 0
    have qf1 := HF3.out.frozen 1
    have qf2 := HF3.out.frozen 2
    have qf3 := HF3.out.frozen 3
    have qf4 := HF3.out.frozen 4
    have lz := HF3.out.lt
    go_wp2_with fail
    have B3 := HB3.out
    exact bodyPost_ret (v := .tuple #[fldV 0 0 0 0 none 0 0, .int .i64 10]) (by simp [results, Try.results47, go_sem, *]) rfl ⟨rfl, (by have hszz := B3.size; repeat (first | with_reducible exact B3 | with_reducible apply Below.drew | with_reducible refine below_drewN ?_ _ | (with_reducible refine Below.setCell ?_ ?_ _; rotate_left; focus (first | omega | (simp <;> omega))) | (with_reducible refine Below.alloc ?_ ?_ _; rotate_left; focus (first | omega | (simp <;> omega)))))⟩
  · have hq : Q < 1 := by omega
    clear hh
    have hB0 : Below w.heap.size w ((((w.alloc (.cells #[.int .i64 X, .int .i64 Y, .int .i64 Wn, .int .i64 Hn, .slice (some ⟨b, o, none⟩) l.length c] 36)).alloc (.cells #[.slice ka K.length kc] 34)).alloc (.cells #[.int .i64 R] 3)).alloc (.cells #[.int .i64 0, .int .i64 0, .int .i64 0, .int .i64 0, .slice none 0 0] 36)) := (by repeat (first | with_reducible exact Below.refl _ _ | with_reducible apply Below.drew | with_reducible refine below_drewN ?_ _ | (with_reducible refine Below.setCell ?_ ?_ _; rotate_left; focus (first | omega | (simp <;> omega))) | (with_reducible refine Below.alloc ?_ ?_ _; rotate_left; focus (first | omega | (simp <;> omega)))))
    obtain ⟨E0, P0, Q0, F0, _⟩ := box_fsi w X Y Wn Hn (.slice (some ⟨b, o, none⟩) l.length c) #[.slice ka K.length kc] 34 #[.int .i64 R] 3 _ rfl
    have HE0 := Lib.hid E0
    have HP0 := Lib.hid P0
    have HQ0 := Lib.hid Q0
    have HF0 := Lib.hid F0
    have HB0 := Lib.hid hB0
    clear hB0 E0 P0 Q0 F0
    go_enter Try.func47, Try.ntmps47
    go_wp2_with fail
    generalize hW0 : (((w.alloc (.cells #[.int .i64 X, .int .i64 Y, .int .i64 Wn, .int .i64 Hn, .slice (some ⟨b, o, none⟩) l.length c] 36)).alloc (.cells #[.slice ka K.length kc] 34)).alloc (.cells #[.int .i64 R] 3)).alloc (.cells #[.int .i64 0, .int .i64 0, .int .i64 0, .int .i64 0, .slice none 0 0] 36) = W0 at *
    clear hW0
    refine (KH.out _ (HK.out.below HB0.out)).mono ?_
    rintro e w1 ⟨rfl, rfl⟩
    have q1 : W0.cell? ⟨w.heap.size + 1 + 1, 0, none⟩ = some (.int .i64 R) := HQ0.out.cell 0
    have l2 : w.heap.size + 1 + 1 < W0.heap.size := HQ0.out.lt
    have l0 : w.heap.size < W0.heap.size := by omega
    obtain ⟨c0, c1, c2, c3, c4⟩ := HE0.out.cells
    go_wp2_with fail
    generalize hW2 : W0.alloc (.cells #[.int .i64 M] 3) = W2 at *
    obtain ⟨N2, B2⟩ := int_world W0 M W2 hW2.symm
    clear hW2
    have HN2 := Lib.hid N2
    have HE2 := Lib.hid (HE0.out.below B2 HE0.out.lt)
    have HP2 := Lib.hid (HP0.out.below B2 HP0.out.lt)
    have HQ2 := Lib.hid (HQ0.out.below B2 HQ0.out.lt)
    have HF2 := Lib.hid (HF0.out.below B2 HF0.out.lt)
    have HB2 := Lib.hid (HB0.out.trans (B2.mono HB0.out.size))
    clear N2 B2 c0 c1 c2 c3 c4 q1 l2 l0 HE0 HP0 HQ0 HF0 HB0
    refine (KG.out _).mono ?_
    rintro e w3 ⟨rfl, b3⟩
    have HN3 := Lib.hid (HN2.out.below b3 HN2.out.lt)
    have HE3 := Lib.hid (HE2.out.below b3 HE2.out.lt)
    have HP3 := Lib.hid (HP2.out.below b3 HP2.out.lt)
    have HQ3 := Lib.hid (HQ2.out.below b3 HQ2.out.lt)
    have HF3 := Lib.hid (HF2.out.below b3 HF2.out.lt)
    have HB3 := Lib.hid (HB2.out.trans (b3.mono HB2.out.size))
    clear b3 HN2 HE2 HP2 HQ2 HF2 HB2 KG
    clear HN3 HE3 HP3 HQ3
    obtain ⟨d0, d1, d2, d3, d4⟩ := HF3.out.cells
    have qf0 := HF3.out.frozen 0
    have qf1 := HF3.out.frozen 1
    have qf2 := HF3.out.frozen 2
    have qf3 := HF3.out.frozen 3
    have qf4 := HF3.out.frozen 4
    have lz := HF3.out.lt
    go_wp2_with fail
    have B3 := HB3.out
    exact bodyPost_ret (v := .tuple #[fldV 0 0 0 0 none 0 0, .int .i64 10]) (by simp [results, Try.results47, go_sem, *]) rfl ⟨rfl, (by have hszz := B3.size; repeat (first | with_reducible exact B3 | with_reducible apply Below.drew | with_reducible refine below_drewN ?_ _ | (with_reducible refine Below.setCell ?_ ?_ _; rotate_left; focus (first | omega | (simp <;> omega))) | (with_reducible refine Below.alloc ?_ ?_ _; rotate_left; focus (first | omega | (simp <;> omega)))))⟩

set_option maxRecDepth 100000 in
set_option maxHeartbeats 1000000 in
theorem refkern_yes (X Y : Int) (Wn Hn : Nat) (R : Int) (N : Nat) (kb ko : Nat) (K : List Nat) (b o c kc : Nat) (l : List Nat) (w : World) (hl : SRow w (some ⟨b, o, none⟩) l) (hr : Right X Y Wn Hn l) (hs : SideOk R N) (hk : SRow w (some ⟨kb, ko, none⟩) K) (h : (K.length : Int) = R * R) (hz : htE K = 0) (h3 : 2 * N + 1 ≤ Wn) (h4 : 2 * N + 1 ≤ Hn) :
    Calls Try.prog 47 #[fldV X Y Wn Hn (some ⟨b, o, none⟩) l.length c, .slice (some ⟨kb, ko, none⟩) K.length kc, .int .i64 R] w fun e w' => OpP (resC (padL (kerV K l X Y Wn N) X Y Wn Hn N)) (X + N) (Y + N) ((Wn - 2 * N : Nat) : Int) ((Hn - 2 * N : Nat) : Int) (padL (kerV K l X Y Wn N) X Y Wn Hn N) w e w' := by
  have HL := Lib.hid hl
  have KH := Lib.hid (fun w (h : SRow w (some ⟨kb, ko, none⟩) K) => refheight_any (some ⟨kb, ko, none⟩) kc K w h)
  rw [hz] at KH
  have HK := Lib.hid hk
  obtain ⟨s1, s2, s3, s4, s5, s6⟩ := hs
  have r1 : 0 ≤ R * R := Int.mul_nonneg (by omega) (by omega)
  have r2 : R * R ≤ 15 * 15 := Int.mul_le_mul (by omega) (by omega) (by omega) (by omega)
  have hbd := ht_bds hz
  have hKn : K.length = (2 * N + 1) * (2 * N + 1) := by
    have e : (K.length : Int) = (((2 * N + 1) * (2 * N + 1) : Nat) : Int) := by
      rw [h, s1, Int.natCast_mul]; rfl
    omega
  have g1 := hr.w2; have g2 := hr.h2; have g3 := hr.x1; have g4 := hr.x2; have g5 := hr.y1; have g6 := hr.y2
  have KG := Lib.hid (fun w' => grown_any X Y Wn Hn (-(N : Int)) w' (by omega) (by omega) (by omega) (by omega) (by omega) (by omega) (by omega) (by omega) (by omega) (by omega))
  rw [show (Wn : Int) + 2 * -(N : Int) = ((Wn - 2 * N : Nat) : Int) from by omega, show (Hn : Int) + 2 * -(N : Int) = ((Hn - 2 * N : Nat) : Int) from by omega, show X - -(N : Int) = X + N from by omega, show Y - -(N : Int) = Y + N from by omega] at KG
  have KM := Lib.hid (fun q pr pk pn w hl (hk : SRow w (some ⟨kb, ko, none⟩) K) (hq : Fld w q X Y Wn Hn (.slice (some ⟨b, o, none⟩) l.length c)) (hg : Blk w pr #[.int .i64 (N : Int)] 3) (hpk : Blk w pk #[.slice (some ⟨kb, ko, none⟩) K.length kc] 34) (hpn : Blk w pn #[.int .i64 R] 3) =>
    made_pad 135 #[.pointer (some ⟨pk, 0, none⟩), .pointer (some ⟨q, 0, none⟩), .pointer (some ⟨pr, 0, none⟩), .pointer (some ⟨pn, 0, none⟩)] (kerV K l X Y Wn N) X Y Wn Hn N l w hr h3 h4 (enters_of Try.func135 (by kernel_rfl) rfl) (fun x y => kerF_lt _ _ _)
      (fun x y a1 a2 a3 a4 W' hb => refkernfn_any l K X Y Wn Hn N (2 * N + 1) x y b o c kb ko kc q pr pk pn (corner X Y Wn N x y) W' (SRow.below hl hb) hr rfl s2 (SRow.below hk hb) hKn hbd (hpk.below hb hpk.lt) a1 a2 a3 a4 (hq.below hb hq.lt) (hg.below hb hg.lt) (by rw [show ((2 * N + 1 : Nat) : Int) = R from by omega]; exact hpn.below hb hpn.lt) (corner_eq a1 a3)))
  have m1 : (0 : Int) ≤ (N : Int) := by omega
  have m2 : (N : Int) ≤ 7 := by omega
  have hp : ¬ ((Wn - 2 * N : Nat) : Int) < 1 := by omega
  have hq : ¬ ((Hn - 2 * N : Nat) : Int) < 1 := by omega
  clear hl hr s1 s2 hk g1 g2 g3 g4 g5 g6 h3 h4 hKn hbd hz
  generalize padL (kerV K l X Y Wn N) X Y Wn Hn N = S at *
  generalize resC S = C at *
  generalize hP : ((Wn - 2 * N : Nat) : Int) = P at *
  generalize hQ : ((Hn - 2 * N : Nat) : Int) = Q at *
  clear hP hQ
  generalize (N : Int) = M at *
  generalize X + M = X1 at *
  generalize Y + M = Y1 at *
  generalize hka : (some ⟨kb, ko, none⟩ : Option Addr) = ka at *
  have hB0 : Below w.heap.size w ((((w.alloc (.cells #[.int .i64 X, .int .i64 Y, .int .i64 Wn, .int .i64 Hn, .slice (some ⟨b, o, none⟩) l.length c] 36)).alloc (.cells #[.slice ka K.length kc] 34)).alloc (.cells #[.int .i64 R] 3)).alloc (.cells #[.int .i64 0, .int .i64 0, .int .i64 0, .int .i64 0, .slice none 0 0] 36)) := (by repeat (first | with_reducible exact Below.refl _ _ | with_reducible apply Below.drew | with_reducible refine below_drewN ?_ _ | (with_reducible refine Below.setCell ?_ ?_ _; rotate_left; focus (first | omega | (simp <;> omega))) | (with_reducible refine Below.alloc ?_ ?_ _; rotate_left; focus (first | omega | (simp <;> omega)))))
  obtain ⟨E0, P0, Q0, F0, _⟩ := box_fsi w X Y Wn Hn (.slice (some ⟨b, o, none⟩) l.length c) #[.slice ka K.length kc] 34 #[.int .i64 R] 3 _ rfl
  have HE0 := Lib.hid E0
  have HP0 := Lib.hid P0
  have HQ0 := Lib.hid Q0
  have HF0 := Lib.hid F0
  have HB0 := Lib.hid hB0
  clear hB0 E0 P0 Q0 F0
  go_enter Try.func47, Try.ntmps47
  go_wp2_with fail
  generalize hW0 : (((w.alloc (.cells #[.int .i64 X, .int .i64 Y, .int .i64 Wn, .int .i64 Hn, .slice (some ⟨b, o, none⟩) l.length c] 36)).alloc (.cells #[.slice ka K.length kc] 34)).alloc (.cells #[.int .i64 R] 3)).alloc (.cells #[.int .i64 0, .int .i64 0, .int .i64 0, .int .i64 0, .slice none 0 0] 36) = W0 at *
  clear hW0
  refine (KH.out _ (HK.out.below HB0.out)).mono ?_
  rintro e w1 ⟨rfl, rfl⟩
  have q1 : W0.cell? ⟨w.heap.size + 1 + 1, 0, none⟩ = some (.int .i64 R) := HQ0.out.cell 0
  have l2 : w.heap.size + 1 + 1 < W0.heap.size := HQ0.out.lt
  have l0 : w.heap.size < W0.heap.size := by omega
  obtain ⟨c0, c1, c2, c3, c4⟩ := HE0.out.cells
  go_wp2_with fail
  generalize hW2 : W0.alloc (.cells #[.int .i64 M] 3) = W2 at *
  obtain ⟨N2, B2⟩ := int_world W0 M W2 hW2.symm
  clear hW2
  have HN2 := Lib.hid N2
  have HE2 := Lib.hid (HE0.out.below B2 HE0.out.lt)
  have HP2 := Lib.hid (HP0.out.below B2 HP0.out.lt)
  have HQ2 := Lib.hid (HQ0.out.below B2 HQ0.out.lt)
  have HF2 := Lib.hid (HF0.out.below B2 HF0.out.lt)
  have HB2 := Lib.hid (HB0.out.trans (B2.mono HB0.out.size))
  clear N2 B2 c0 c1 c2 c3 c4 q1 l2 l0 HE0 HP0 HQ0 HF0 HB0
  refine (KG.out _).mono ?_
  rintro e w3 ⟨rfl, b3⟩
  have HN3 := Lib.hid (HN2.out.below b3 HN2.out.lt)
  have HE3 := Lib.hid (HE2.out.below b3 HE2.out.lt)
  have HP3 := Lib.hid (HP2.out.below b3 HP2.out.lt)
  have HQ3 := Lib.hid (HQ2.out.below b3 HQ2.out.lt)
  have HF3 := Lib.hid (HF2.out.below b3 HF2.out.lt)
  have HB3 := Lib.hid (HB2.out.trans (b3.mono HB2.out.size))
  clear b3 HN2 HE2 HP2 HQ2 HF2 HB2 KG
  go_wp2_with fail
  generalize hW4 : w3.alloc (.cells #[.int .i64 X1, .int .i64 Y1, .int .i64 P, .int .i64 Q] 23) = W4 at *
  obtain ⟨R4, B4⟩ := reg_world w3 X1 Y1 P Q W4 hW4.symm
  clear hW4 R4
  have HF4 := Lib.hid (HF3.out.below B4 HF3.out.lt)
  have HB4 := Lib.hid (HB3.out.trans (B4.mono HB3.out.size))
  refine (KM.out _ _ _ _ _ (HL.out.below HB4.out) (HK.out.below HB4.out) (HE3.out.below B4 HE3.out.lt) (HN3.out.below B4 HN3.out.lt) (HP3.out.below B4 HP3.out.lt) (HQ3.out.below B4 HQ3.out.lt)).mono ?_
  rintro e w4 ⟨⟨x, y, p, q, a, m, k, rfl, o4⟩, b4⟩
  have HZB : Hid (w.heap.size + 1 + 1 + 1 < W4.heap.size) := HF4.out.lt
  have HBB : Hid (w.heap.size ≤ W4.heap.size) := HB4.out.size
  have HOZ := Lib.hid o4
  have HFZ := Lib.hid (HF4.out.below b4 HF4.out.lt)
  have HBZ := Lib.hid (HB4.out.trans (b4.mono HB4.out.size))
  clear o4 b4 KM HE3 HN3 HP3 HQ3 B4 HF3 HB3 HF4 HB4
  obtain ⟨d0, d1, d2, d3, d4⟩ := HFZ.out.cells
  have qf0 := HFZ.out.frozen 0
  have qf1 := HFZ.out.frozen 1
  have qf2 := HFZ.out.frozen 2
  have qf3 := HFZ.out.frozen 3
  have qf4 := HFZ.out.frozen 4
  have lz := HFZ.out.lt
  go_wp2_with fail
  generalize hW5 : ((((w4.setCell ⟨w.heap.size + 1 + 1 + 1, 0, none⟩ (.int .i64 x)).setCell ⟨w.heap.size + 1 + 1 + 1, 1, none⟩ (.int .i64 y)).setCell ⟨w.heap.size + 1 + 1 + 1, 2, none⟩ (.int .i64 p)).setCell ⟨w.heap.size + 1 + 1 + 1, 3, none⟩ (.int .i64 q)).setCell ⟨w.heap.size + 1 + 1 + 1, 4, none⟩ (.slice a m k) = W5 at *
  obtain ⟨f5, bb5, oo5, _, z5⟩ := fld_store w4 (w.heap.size + 1 + 1 + 1) 0 0 0 0 _ x y p q (.slice a m k) HFZ.out W5 hW5.symm
  have hO5 := (HOZ.out.set oo5 HZB.out).base HBB.out
  have hB5 := HBZ.out.trans (bb5.mono (by omega))
  clear d0 d1 d2 d3 d4 qf0 qf1 qf2 qf3 qf4 hW5 oo5
  obtain ⟨d0, d1, d2, d3, d4⟩ := f5.cells
  exact bodyPost_ret (v := .tuple #[fldV x y p q a m k, .int .i64 C]) (by simp [results, Try.results47, go_sem, *]) rfl ⟨⟨x, y, p, q, a, m, k, rfl, hO5⟩, hB5⟩
end Go.Proofs.Ytnfebeebjelgbaa
