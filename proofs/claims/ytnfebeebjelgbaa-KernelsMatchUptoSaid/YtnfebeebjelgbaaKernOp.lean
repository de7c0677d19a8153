import Derived.Test.YtnfebeebjelgbaaRefBlur
import Derived.Test.YtnfebeebjelgbaaKernRef
namespace Go.Proofs.Ytnfebeebjelgbaa
open Go.ChangeShapes Go.WideShapes Go.ChangeAt Go.RowKit
open Ieee.Format (fin finE htE allFin allHt all_true all_false mulF subF addF Ht Bd divF rootF floorF easeF mixF)
set_option linter.unusedVariables false

theorem box_fsi (w : World) (X Y W H : Int) (v : Value) (c1 : Array Value) (t1 : TypeId) (c2 : Array Value) (t2 : TypeId) : ∀ W0, W0 = (((w.alloc (.cells #[.int .i64 X, .int .i64 Y, .int .i64 W, .int .i64 H, v] 36)).alloc (.cells c1 t1)).alloc (.cells c2 t2)).alloc (.cells #[.int .i64 0, .int .i64 0, .int .i64 0, .int .i64 0, .slice none 0 0] 36) →
    Fld W0 w.heap.size X Y W H v ∧ Blk W0 (w.heap.size + 1) c1 t1 ∧ Blk W0 (w.heap.size + 1 + 1) c2 t2 ∧ Fld W0 (w.heap.size + 1 + 1 + 1) 0 0 0 0 (.slice none 0 0) ∧ Below w.heap.size w W0 := by
  rintro _ rfl
  refine ⟨(((Fld.new w X Y W H v).alloc _).alloc _).alloc _, ?_, ?_, ?_, (by repeat (first | with_reducible exact Below.refl _ _ | with_reducible apply Below.drew | with_reducible refine below_drewN ?_ _ | (with_reducible refine Below.setCell ?_ ?_ _; rotate_left; focus (first | omega | (simp <;> omega))) | (with_reducible refine Below.alloc ?_ ?_ _; rotate_left; focus (first | omega | (simp <;> omega)))))⟩
  · have := ((Blk.new (w.alloc (.cells #[.int .i64 X, .int .i64 Y, .int .i64 W, .int .i64 H, v] 36)) c1 t1).alloc (.cells c2 t2)).alloc (.cells #[.int .i64 0, .int .i64 0, .int .i64 0, .int .i64 0, .slice none 0 0] 36)
    simpa using this
  · have := (Blk.new ((w.alloc (.cells #[.int .i64 X, .int .i64 Y, .int .i64 W, .int .i64 H, v] 36)).alloc (.cells c1 t1)) c2 t2).alloc (.cells #[.int .i64 0, .int .i64 0, .int .i64 0, .int .i64 0, .slice none 0 0] 36)
    simpa using this
  · have := Fld.new (((w.alloc (.cells #[.int .i64 X, .int .i64 Y, .int .i64 W, .int .i64 H, v] 36)).alloc (.cells c1 t1)).alloc (.cells c2 t2)) 0 0 0 0 (.slice none 0 0)
    simpa using this
theorem reg_world (w : World) (X Y W H : Int) : ∀ W0, W0 = w.alloc (.cells #[.int .i64 X, .int .i64 Y, .int .i64 W, .int .i64 H] 23) → Reg W0 w.heap.size X Y W H ∧ Below w.heap.size w W0 := by
  rintro _ rfl
  exact ⟨Reg.new w X Y W H, (by repeat (first | with_reducible exact Below.refl _ _ | with_reducible apply Below.drew | with_reducible refine below_drewN ?_ _ | (with_reducible refine Below.setCell ?_ ?_ _; rotate_left; focus (first | omega | (simp <;> omega))) | (with_reducible refine Below.alloc ?_ ?_ _; rotate_left; focus (first | omega | (simp <;> omega)))))⟩

/-- the numbers of a side that Kernel takes -/
structure SideOk (R : Int) (N : Nat) : Prop where
  eq : R = 2 * N + 1
  n7 : N ≤ 7
  c1 : ¬ R < 1
  c2 : ¬ 15 < R
  rem : R.tmod 2 = 1
  quo : (R - 1).tdiv 2 = N
theorem SideOk.of {R : Int} (h1 : ¬ R < 1) (h2 : ¬ 15 < R) (h3 : ¬ R.tmod 2 = 0) : SideOk R ((R - 1) / 2).toNat := by
  have e := Int.tmod_eq_emod_of_nonneg (a := R) (b := 2) (by omega)
  rw [e] at h3
  have hn : R = 2 * (((R - 1) / 2).toNat : Int) + 1 := by omega
  refine ⟨hn, by omega, h1, h2, by rw [e]; omega, ?_⟩
  rw [Int.tdiv_eq_ediv_of_nonneg (by omega)]
  omega

set_option maxRecDepth 100000 in
theorem kern_rng (X Y : Int) (Wn Hn : Nat) (R : Int) (ka : Option Addr) (K : List Nat) (b o c kc : Nat) (l : List Nat) (w : World) (hl : SRow w (some ⟨b, o, none⟩) l) (hr : Right X Y Wn Hn l) (h : R < 1 ∨ 15 < R ∨ R.tmod 2 = 0) :
    Calls Try.prog 46 #[fldV X Y Wn Hn (some ⟨b, o, none⟩) l.length c, .slice ka K.length kc, .int .i64 R] w fun e w' => e = .returned (.tuple #[fldV 0 0 0 0 none 0 0, .int .i64 3]) ∧ Below w.heap.size w w' := by
  have KC := Lib.hid (fun w h => check_field X Y Wn Hn (some ⟨b, o, none⟩) c l w h)
  rw [hr.chk] at KC
  have HL := Lib.hid hl
  clear hl hr
  by_cases h1 : R < 1
  · clear h
    go_enter Try.func46, Try.ntmps46
    go_wp2_with fail
    generalize hW0 : (((w.alloc (.cells #[.int .i64 X, .int .i64 Y, .int .i64 Wn, .int .i64 Hn, .slice (some ⟨b, o, none⟩) l.length c] 36)).alloc (.cells #[.slice ka K.length kc] 34)).alloc (.cells #[.int .i64 R] 3)).alloc (.cells #[.int .i64 0, .int .i64 0, .int .i64 0, .int .i64 0, .slice none 0 0] 36) = W0 at *
    obtain ⟨E0, P0, Q0, F0, B0⟩ := box_fsi w X Y Wn Hn (.slice (some ⟨b, o, none⟩) l.length c) #[.slice ka K.length kc] 34 #[.int .i64 R] 3 W0 hW0.symm
    clear hW0
    refine (KC.out _ (HL.out.below B0)).mono ?_
    rintro e w1 ⟨rfl, b1⟩
    have HE1 := Lib.hid (E0.below b1 E0.lt)
    have HP1 := Lib.hid (P0.below b1 P0.lt)
    have HQ1 := Lib.hid (Q0.below b1 Q0.lt)
    have HF1 := Lib.hid (F0.below b1 F0.lt)
    have HL1 := Lib.hid ((HL.out.below B0).below b1)
    have HB1 := Lib.hid (B0.trans (b1.mono B0.size))
    have HBB1 := Lib.hid (B0.trans (b1.mono B0.size))
    clear b1 B0 F0 E0 P0 Q0 KC HL
    have p1 : w1.cell? ⟨w.heap.size + 1, 0, none⟩ = some (.slice ka K.length kc) := HP1.out.cell 0
    have q1 : w1.cell? ⟨w.heap.size + 1 + 1, 0, none⟩ = some (.int .i64 R) := HQ1.out.cell 0
    have l3 : w.heap.size + 1 + 1 + 1 < w1.heap.size := HF1.out.lt
    have l2 : w.heap.size + 1 + 1 < w1.heap.size := by omega
    have l1 : w.heap.size + 1 < w1.heap.size := by omega
    have l0 : w.heap.size < w1.heap.size := by omega
    obtain ⟨d0, d1, d2, d3, d4⟩ := HF1.out.cells
    have qf0 := HF1.out.frozen 0
    have qf1 := HF1.out.frozen 1
    have qf2 := HF1.out.frozen 2
    have qf3 := HF1.out.frozen 3
    have qf4 := HF1.out.frozen 4
    have lz := HF1.out.lt
    go_wp2_with fail
    have B3 := HB1.out
    exact bodyPost_ret (v := .tuple #[fldV 0 0 0 0 none 0 0, .int .i64 3]) (by simp [results, Try.results46, go_sem, *]) rfl ⟨rfl, (by have hszz := B3.size; repeat (first | with_reducible exact B3 | with_reducible apply Below.drew | with_reducible refine below_drewN ?_ _ | (with_reducible refine Below.setCell ?_ ?_ _; rotate_left; focus (first | omega | (simp <;> omega))) | (with_reducible refine Below.alloc ?_ ?_ _; rotate_left; focus (first | omega | (simp <;> omega)))))⟩
  · by_cases h2 : 15 < R
    · clear h
      go_enter Try.func46, Try.ntmps46
      go_wp2_with fail
      generalize hW0 : (((w.alloc (.cells #[.int .i64 X, .int .i64 Y, .int .i64 Wn, .int .i64 Hn, .slice (some ⟨b, o, none⟩) l.length c] 36)).alloc (.cells #[.slice ka K.length kc] 34)).alloc (.cells #[.int .i64 R] 3)).alloc (.cells #[.int .i64 0, .int .i64 0, .int .i64 0, .int .i64 0, .slice none 0 0] 36) = W0 at *
      obtain ⟨E0, P0, Q0, F0, B0⟩ := box_fsi w X Y Wn Hn (.slice (some ⟨b, o, none⟩) l.length c) #[.slice ka K.length kc] 34 #[.int .i64 R] 3 W0 hW0.symm
      clear hW0
      refine (KC.out _ (HL.out.below B0)).mono ?_
      rintro e w1 ⟨rfl, b1⟩
      have HE1 := Lib.hid (E0.below b1 E0.lt)
      have HP1 := Lib.hid (P0.below b1 P0.lt)
      have HQ1 := Lib.hid (Q0.below b1 Q0.lt)
      have HF1 := Lib.hid (F0.below b1 F0.lt)
      have HL1 := Lib.hid ((HL.out.below B0).below b1)
      have HB1 := Lib.hid (B0.trans (b1.mono B0.size))
      have HBB1 := Lib.hid (B0.trans (b1.mono B0.size))
      clear b1 B0 F0 E0 P0 Q0 KC HL
      have p1 : w1.cell? ⟨w.heap.size + 1, 0, none⟩ = some (.slice ka K.length kc) := HP1.out.cell 0
      have q1 : w1.cell? ⟨w.heap.size + 1 + 1, 0, none⟩ = some (.int .i64 R) := HQ1.out.cell 0
      have l3 : w.heap.size + 1 + 1 + 1 < w1.heap.size := HF1.out.lt
      have l2 : w.heap.size + 1 + 1 < w1.heap.size := by omega
      have l1 : w.heap.size + 1 < w1.heap.size := by omega
      have l0 : w.heap.size < w1.heap.size := by omega
      obtain ⟨d0, d1, d2, d3, d4⟩ := HF1.out.cells
      have qf0 := HF1.out.frozen 0
      have qf1 := HF1.out.frozen 1
      have qf2 := HF1.out.frozen 2
      have qf3 := HF1.out.frozen 3
      have qf4 := HF1.out.frozen 4
      have lz := HF1.out.lt
      go_wp2_with fail
      have B3 := HB1.out
      exact bodyPost_ret (v := .tuple #[fldV 0 0 0 0 none 0 0, .int .i64 3]) (by simp [results, Try.results46, go_sem, *]) rfl ⟨rfl, (by have hszz := B3.size; repeat (first | with_reducible exact B3 | with_reducible apply Below.drew | with_reducible refine below_drewN ?_ _ | (with_reducible refine Below.setCell ?_ ?_ _; rotate_left; focus (first | omega | (simp <;> omega))) | (with_reducible refine Below.alloc ?_ ?_ _; rotate_left; focus (first | omega | (simp <;> omega)))))⟩
    · have h3 : R.tmod 2 = 0 := by omega
      clear h
      go_enter Try.func46, Try.ntmps46
      go_wp2_with fail
      generalize hW0 : (((w.alloc (.cells #[.int .i64 X, .int .i64 Y, .int .i64 Wn, .int .i64 Hn, .slice (some ⟨b, o, none⟩) l.length c] 36)).alloc (.cells #[.slice ka K.length kc] 34)).alloc (.cells #[.int .i64 R] 3)).alloc (.cells #[.int .i64 0, .int .i64 0, .int .i64 0, .int .i64 0, .slice none 0 0] 36) = W0 at *
      obtain ⟨E0, P0, Q0, F0, B0⟩ := box_fsi w X Y Wn Hn (.slice (some ⟨b, o, none⟩) l.length c) #[.slice ka K.length kc] 34 #[.int .i64 R] 3 W0 hW0.symm
      clear hW0
      refine (KC.out _ (HL.out.below B0)).mono ?_
      rintro e w1 ⟨rfl, b1⟩
      have HE1 := Lib.hid (E0.below b1 E0.lt)
      have HP1 := Lib.hid (P0.below b1 P0.lt)
      have HQ1 := Lib.hid (Q0.below b1 Q0.lt)
      have HF1 := Lib.hid (F0.below b1 F0.lt)
      have HL1 := Lib.hid ((HL.out.below B0).below b1)
      have HB1 := Lib.hid (B0.trans (b1.mono B0.size))
      have HBB1 := Lib.hid (B0.trans (b1.mono B0.size))
      clear b1 B0 F0 E0 P0 Q0 KC HL
      have p1 : w1.cell? ⟨w.heap.size + 1, 0, none⟩ = some (.slice ka K.length kc) := HP1.out.cell 0
      have q1 : w1.cell? ⟨w.heap.size + 1 + 1, 0, none⟩ = some (.int .i64 R) := HQ1.out.cell 0
      have l3 : w.heap.size + 1 + 1 + 1 < w1.heap.size := HF1.out.lt
      have l2 : w.heap.size + 1 + 1 < w1.heap.size := by omega
      have l1 : w.heap.size + 1 < w1.heap.size := by omega
      have l0 : w.heap.size < w1.heap.size := by omega
      obtain ⟨d0, d1, d2, d3, d4⟩ := HF1.out.cells
      have qf0 := HF1.out.frozen 0
      have qf1 := HF1.out.frozen 1
      have qf2 := HF1.out.frozen 2
      have qf3 := HF1.out.frozen 3
      have qf4 := HF1.out.frozen 4
      have lz := HF1.out.lt
      go_wp2_with fail
      have B3 := HB1.out
      exact bodyPost_ret (v := .tuple #[fldV 0 0 0 0 none 0 0, .int .i64 3]) (by simp [results, Try.results46, go_sem, *]) rfl ⟨rfl, (by have hszz := B3.size; repeat (first | with_reducible exact B3 | with_reducible apply Below.drew | with_reducible refine below_drewN ?_ _ | (with_reducible refine Below.setCell ?_ ?_ _; rotate_left; focus (first | omega | (simp <;> omega))) | (with_reducible refine Below.alloc ?_ ?_ _; rotate_left; focus (first | omega | (simp <;> omega)))))⟩

set_option maxRecDepth 100000 in
theorem kern_len (X Y : Int) (Wn Hn : Nat) (R : Int) (N : Nat) (ka : Option Addr) (K : List Nat) (b o c kc : Nat) (l : List Nat) (w : World) (hl : SRow w (some ⟨b, o, none⟩) l) (hr : Right X Y Wn Hn l) (hs : SideOk R N) (hk : K.length ≤ 9223372036854775807) (h : ¬ (K.length : Int) = R * R) :
    Calls Try.prog 46 #[fldV X Y Wn Hn (some ⟨b, o, none⟩) l.length c, .slice ka K.length kc, .int .i64 R] w fun e w' => e = .returned (.tuple #[fldV 0 0 0 0 none 0 0, .int .i64 2]) ∧ Below w.heap.size w w' := by
  have KC := Lib.hid (fun w h => check_field X Y Wn Hn (some ⟨b, o, none⟩) c l w h)
  rw [hr.chk] at KC
  have HL := Lib.hid hl
  obtain ⟨s1, s2, s3, s4, s5, s6⟩ := hs
  have r1 : 0 ≤ R * R := Int.mul_nonneg (by omega) (by omega)
  have r2 : R * R ≤ 15 * 15 := Int.mul_le_mul (by omega) (by omega) (by omega) (by omega)
  clear hl hr s6 s1 s2
  go_enter Try.func46, Try.ntmps46
  go_wp2_with fail
  generalize hW0 : (((w.alloc (.cells #[.int .i64 X, .int .i64 Y, .int .i64 Wn, .int .i64 Hn, .slice (some ⟨b, o, none⟩) l.length c] 36)).alloc (.cells #[.slice ka K.length kc] 34)).alloc (.cells #[.int .i64 R] 3)).alloc (.cells #[.int .i64 0, .int .i64 0, .int .i64 0, .int .i64 0, .slice none 0 0] 36) = W0 at *
  obtain ⟨E0, P0, Q0, F0, B0⟩ := box_fsi w X Y Wn Hn (.slice (some ⟨b, o, none⟩) l.length c) #[.slice ka K.length kc] 34 #[.int .i64 R] 3 W0 hW0.symm
  clear hW0
  refine (KC.out _ (HL.out.below B0)).mono ?_
  rintro e w1 ⟨rfl, b1⟩
  have HE1 := Lib.hid (E0.below b1 E0.lt)
  have HP1 := Lib.hid (P0.below b1 P0.lt)
  have HQ1 := Lib.hid (Q0.below b1 Q0.lt)
  have HF1 := Lib.hid (F0.below b1 F0.lt)
  have HL1 := Lib.hid ((HL.out.below B0).below b1)
  have HB1 := Lib.hid (B0.trans (b1.mono B0.size))
  have HBB1 := Lib.hid (B0.trans (b1.mono B0.size))
  clear b1 B0 F0 E0 P0 Q0 KC HL
  have p1 : w1.cell? ⟨w.heap.size + 1, 0, none⟩ = some (.slice ka K.length kc) := HP1.out.cell 0
  have q1 : w1.cell? ⟨w.heap.size + 1 + 1, 0, none⟩ = some (.int .i64 R) := HQ1.out.cell 0
  have l3 : w.heap.size + 1 + 1 + 1 < w1.heap.size := HF1.out.lt
  have l2 : w.heap.size + 1 + 1 < w1.heap.size := by omega
  have l1 : w.heap.size + 1 < w1.heap.size := by omega
  have l0 : w.heap.size < w1.heap.size := by omega
  obtain ⟨d0, d1, d2, d3, d4⟩ := HF1.out.cells
  have qf0 := HF1.out.frozen 0
  have qf1 := HF1.out.frozen 1
  have qf2 := HF1.out.frozen 2
  have qf3 := HF1.out.frozen 3
  have qf4 := HF1.out.frozen 4
  have lz := HF1.out.lt
  go_wp2_with fail
  have B3 := HB1.out
  exact bodyPost_ret (v := .tuple #[fldV 0 0 0 0 none 0 0, .int .i64 2]) (by simp [results, Try.results46, go_sem, *]) rfl ⟨rfl, (by have hszz := B3.size; repeat (first | with_reducible exact B3 | with_reducible apply Below.drew | with_reducible refine below_drewN ?_ _ | (with_reducible refine Below.setCell ?_ ?_ _; rotate_left; focus (first | omega | (simp <;> omega))) | (with_reducible refine Below.alloc ?_ ?_ _; rotate_left; focus (first | omega | (simp <;> omega)))))⟩

set_option maxRecDepth 100000 in
theorem kern_ht (X Y : Int) (Wn Hn : Nat) (R : Int) (N : Nat) (ka : Option Addr) (K : List Nat) (b o c kc : Nat) (l : List Nat) (w : World) (hl : SRow w (some ⟨b, o, none⟩) l) (hr : Right X Y Wn Hn l) (hs : SideOk R N) (hk : SRow w ka K) (h : (K.length : Int) = R * R) (hz : htE K ≠ 0) :
    Calls Try.prog 46 #[fldV X Y Wn Hn (some ⟨b, o, none⟩) l.length c, .slice ka K.length kc, .int .i64 R] w fun e w' => e = .returned (.tuple #[fldV 0 0 0 0 none 0 0, .int .i64 (htE K)]) ∧ Below w.heap.size w w' := by
  have KC := Lib.hid (fun w h => check_field X Y Wn Hn (some ⟨b, o, none⟩) c l w h)
  rw [hr.chk] at KC
  have HL := Lib.hid hl
  have KH := Lib.hid (fun w (h : SRow w ka K) => heights_any ka kc K w h)
  have HK := Lib.hid hk
  obtain ⟨s1, s2, s3, s4, s5, s6⟩ := hs
  have r1 : 0 ≤ R * R := Int.mul_nonneg (by omega) (by omega)
  have r2 : R * R ≤ 15 * 15 := Int.mul_le_mul (by omega) (by omega) (by omega) (by omega)
  clear hl hr s6 s1 s2 hk
  generalize htE K = a at *
  have hb' : (a != 0) = true := by rw [bne_iff_ne]; exact hz
  clear hz
  go_enter Try.func46, Try.ntmps46
  go_wp2_with fail
  generalize hW0 : (((w.alloc (.cells #[.int .i64 X, .int .i64 Y, .int .i64 Wn, .int .i64 Hn, .slice (some ⟨b, o, none⟩) l.length c] 36)).alloc (.cells #[.slice ka K.length kc] 34)).alloc (.cells #[.int .i64 R] 3)).alloc (.cells #[.int .i64 0, .int .i64 0, .int .i64 0, .int .i64 0, .slice none 0 0] 36) = W0 at *
  obtain ⟨E0, P0, Q0, F0, B0⟩ := box_fsi w X Y Wn Hn (.slice (some ⟨b, o, none⟩) l.length c) #[.slice ka K.length kc] 34 #[.int .i64 R] 3 W0 hW0.symm
  clear hW0
  refine (KC.out _ (HL.out.below B0)).mono ?_
  rintro e w1 ⟨rfl, b1⟩
  have HE1 := Lib.hid (E0.below b1 E0.lt)
  have HP1 := Lib.hid (P0.below b1 P0.lt)
  have HQ1 := Lib.hid (Q0.below b1 Q0.lt)
  have HF1 := Lib.hid (F0.below b1 F0.lt)
  have HL1 := Lib.hid ((HL.out.below B0).below b1)
  have HB1 := Lib.hid (B0.trans (b1.mono B0.size))
  have HBB1 := Lib.hid (B0.trans (b1.mono B0.size))
  clear b1 B0 F0 E0 P0 Q0 KC HL
  have p1 : w1.cell? ⟨w.heap.size + 1, 0, none⟩ = some (.slice ka K.length kc) := HP1.out.cell 0
  have q1 : w1.cell? ⟨w.heap.size + 1 + 1, 0, none⟩ = some (.int .i64 R) := HQ1.out.cell 0
  have l3 : w.heap.size + 1 + 1 + 1 < w1.heap.size := HF1.out.lt
  have l2 : w.heap.size + 1 + 1 < w1.heap.size := by omega
  have l1 : w.heap.size + 1 < w1.heap.size := by omega
  have l0 : w.heap.size < w1.heap.size := by omega
  go_wp2_with fail
  refine (KH.out _ (HK.out.below HB1.out)).mono ?_
  rintro e w2 ⟨rfl, rfl⟩
  obtain ⟨d0, d1, d2, d3, d4⟩ := HF1.out.cells
  have qf0 := HF1.out.frozen 0
  have qf1 := HF1.out.frozen 1
  have qf2 := HF1.out.frozen 2
  have qf3 := HF1.out.frozen 3
  have qf4 := HF1.out.frozen 4
  have lz := HF1.out.lt
  go_wp2_with fail
  have B3 := HB1.out
  exact bodyPost_ret (v := .tuple #[fldV 0 0 0 0 none 0 0, .int .i64 a]) (by simp [results, Try.results46, go_sem, *]) rfl ⟨rfl, (by have hszz := B3.size; repeat (first | with_reducible exact B3 | with_reducible apply Below.drew | with_reducible refine below_drewN ?_ _ | (with_reducible refine Below.setCell ?_ ?_ _; rotate_left; focus (first | omega | (simp <;> omega))) | (with_reducible refine Below.alloc ?_ ?_ _; rotate_left; focus (first | omega | (simp <;> omega)))))⟩
end Go.Proofs.Ytnfebeebjelgbaa
