import Derived.Test.YtnfebeebjelgbaaWithin
namespace Go.Proofs.Ytnfebeebjelgbaa
open Go.ChangeShapes Go.WideShapes Go.ChangeAt Go.RowKit
open Ieee.Format (fin finE htE allFin allHt all_true all_false mulF subF addF Ht Bd divF rootF floorF easeF mixF)
set_option linter.unusedVariables false
open Ieee.Format (conv_exact const_1)

abbrev cv (n : Int) : Nat := floatOfInt .f32 n
theorem cv_bd {n : Int} {k : Nat} (hk : k ≤ 23) (h1 : -(2 ^ k : Nat) ≤ n) (h2 : n ≤ (2 ^ k : Nat)) : Bd k (cv n) := by
  have hp : (2 ^ k : Nat) ≤ 2 ^ 23 := Nat.pow_le_pow_right (by omega) hk
  have : (2 : Nat) ^ 23 = 8388608 := by decide
  obtain ⟨a, b, _⟩ := conv_exact n (by omega) (by omega)
  refine ⟨a, ?_⟩
  rw [b, Ieee.P2_nat]
  constructor
  · rw [← Rat.intCast_natCast, ← Rat.intCast_neg]; exact Rat.intCast_le_intCast.2 h1
  · rw [← Rat.intCast_natCast]; exact Rat.intCast_le_intCast.2 h2
theorem sq_int (n m : Int) (h1 : -m ≤ n) (h2 : n ≤ m) : 0 ≤ n * n ∧ n * n ≤ m * m := by
  constructor
  · rcases Int.le_total 0 n with h | h
    · exact Int.mul_nonneg h h
    · have := Int.mul_nonneg (show 0 ≤ -n by omega) (show 0 ≤ -n by omega)
      rw [Int.neg_mul_neg] at this; exact this
  · rcases Int.le_total 0 n with h | h
    · exact Int.mul_le_mul h2 h2 h (by omega)
    · have := Int.mul_le_mul (show -n ≤ m by omega) (show -n ≤ m by omega) (show 0 ≤ -n by omega) (show 0 ≤ m by omega)
      rw [Int.neg_mul_neg] at this; exact this
theorem sq_pos {n : Int} (h : n ≠ 0) : 1 ≤ n * n := by
  rcases Int.lt_or_gt_of_ne h with h | h
  · have := Int.mul_le_mul (show 1 ≤ -n by omega) (show 1 ≤ -n by omega) (by omega) (show 0 ≤ -n by omega)
    rw [Int.neg_mul_neg] at this; omega
  · have := Int.mul_le_mul (show 1 ≤ n by omega) (show 1 ≤ n by omega) (by omega) (show 0 ≤ n by omega)
    omega
theorem cv_root {n : Int} (h1 : 1 ≤ n) (h2 : n < 16777216) : fin Ieee.single (cv n) ∧ 0 ≤ Ieee.single.V (cv n) ∧ fin Ieee.single (rootF (cv n)) ∧ 1 ≤ Ieee.single.V (rootF (cv n)) := by
  obtain ⟨a, b, _⟩ := conv_exact n h2 (by omega)
  have hb : 1 ≤ Ieee.single.V (cv n) := by
    rw [b]
    have : ((1 : Int) : Rat) ≤ (n : Rat) := Rat.intCast_le_intCast.2 h1
    exact this
  have h0 : 0 ≤ Ieee.single.V (cv n) := by grind
  obtain ⟨X, Z, _, _, _, f, _⟩ := Ieee.Format.root_spec a h0
  exact ⟨a, h0, f, Ieee.Format.root_one a hb⟩

theorem light_zero {x y z : Int} (h : lightE x y z = 0) : (-1000 ≤ x ∧ x ≤ 1000) ∧ (-1000 ≤ y ∧ y ≤ 1000) ∧ (-1000 ≤ z ∧ z ≤ 1000) ∧ ¬ (x = 0 ∧ y = 0 ∧ z = 0) := by
  unfold lightE at h
  cases hc : (inB 1000 x && inB 1000 y && inB 1000 z) with
  | false => rw [hc, if_pos rfl] at h; omega
  | true =>
    rw [hc, if_neg (by decide)] at h
    simp only [Bool.and_eq_true, inB, decide_eq_true_eq] at hc
    refine ⟨hc.1.1, hc.1.2, hc.2, fun e => ?_⟩
    rw [if_pos e] at h; omega
theorem light_ok {x y z : Int} (h : lightE x y z = 0) : LightOk (cv x) (cv y) (cv z) (rootF (cv (x * x + y * y + z * z))) ∧ fin Ieee.single (cv (x * x + y * y + z * z)) ∧ 0 ≤ Ieee.single.V (cv (x * x + y * y + z * z)) ∧
    (0 ≤ x * x ∧ x * x ≤ 1000000) ∧ (0 ≤ y * y ∧ y * y ≤ 1000000) ∧ (0 ≤ z * z ∧ z * z ≤ 1000000) := by
  obtain ⟨h1, h2, h3, h4⟩ := light_zero h
  have a := sq_int x 1000 h1.1 h1.2
  have b := sq_int y 1000 h2.1 h2.2
  have c := sq_int z 1000 h3.1 h3.2
  have hp : 1 ≤ x * x + y * y + z * z := by
    by_cases e1 : x = 0
    · by_cases e2 : y = 0
      · by_cases e3 : z = 0
        · exact absurd ⟨e1, e2, e3⟩ h4
        · have := sq_pos e3; omega
      · have := sq_pos e2; omega
    · have := sq_pos e1; omega
  obtain ⟨r1, r2, r3, r4⟩ := cv_root hp (by omega)
  exact ⟨⟨cv_bd (by omega) (by simp; omega) (by simp; omega), cv_bd (by omega) (by simp; omega) (by simp; omega), cv_bd (by omega) (by simp; omega) (by simp; omega), r3, r4⟩, r1, r2, by omega, by omega, by omega⟩

theorem light_world (w : World) (x y z : Int) (M A B C : Nat) : ∀ W0, W0 = ((((w.alloc (.cells #[.int .i64 x, .int .i64 y, .int .i64 z] 3)).alloc (.cells #[.float .f32 M] 37)).alloc (.cells #[.float .f32 A] 37)).alloc (.cells #[.float .f32 B] 37)).alloc (.cells #[.float .f32 C] 37) →
    Blk W0 (w.heap.size + 1) #[.float .f32 M] 37 ∧ Blk W0 (w.heap.size + 1 + 1) #[.float .f32 A] 37 ∧ Blk W0 (w.heap.size + 1 + 1 + 1) #[.float .f32 B] 37 ∧ Blk W0 (w.heap.size + 1 + 1 + 1 + 1) #[.float .f32 C] 37 ∧ Below w.heap.size w W0 := by
  rintro _ rfl
  refine ⟨?_, ?_, ?_, ?_, (by repeat (first | with_reducible exact Below.refl _ _ | with_reducible apply Below.drew | with_reducible refine below_drewN ?_ _ | (with_reducible refine Below.setCell ?_ ?_ _; rotate_left; focus (first | omega | (simp <;> omega))) | (with_reducible refine Below.alloc ?_ ?_ _; rotate_left; focus (first | omega | (simp <;> omega)))))⟩
  · have := (((Blk.new (w.alloc (.cells #[.int .i64 x, .int .i64 y, .int .i64 z] 3)) #[.float .f32 M] 37).alloc (.cells #[.float .f32 A] 37)).alloc (.cells #[.float .f32 B] 37)).alloc (.cells #[.float .f32 C] 37)
    simpa using this
  · have := ((Blk.new ((w.alloc (.cells #[.int .i64 x, .int .i64 y, .int .i64 z] 3)).alloc (.cells #[.float .f32 M] 37)) #[.float .f32 A] 37).alloc (.cells #[.float .f32 B] 37)).alloc (.cells #[.float .f32 C] 37)
    simpa using this
  · have := (Blk.new (((w.alloc (.cells #[.int .i64 x, .int .i64 y, .int .i64 z] 3)).alloc (.cells #[.float .f32 M] 37)).alloc (.cells #[.float .f32 A] 37)) #[.float .f32 B] 37).alloc (.cells #[.float .f32 C] 37)
    simpa using this
  · have := Blk.new ((((w.alloc (.cells #[.int .i64 x, .int .i64 y, .int .i64 z] 3)).alloc (.cells #[.float .f32 M] 37)).alloc (.cells #[.float .f32 A] 37)).alloc (.cells #[.float .f32 B] 37)) #[.float .f32 C] 37
    simpa using this

theorem shadeF_lt (A B C M n s e w v : Nat) : shadeF A B C M n s e w v < 4294967296 := by
  unfold shadeF; split
  · exact Ieee.Format.divF_lt _ _
  · decide

theorem shade_no (X Y : Int) (Wn Hn : Nat) (b o c : Nat) (l : List Nat) (lx ly lz : Int) (w : World) (hl : SRow w (some ⟨b, o, none⟩) l) (hr : Right X Y Wn Hn l) (h : Wn < 3 ∨ Hn < 3) :
    Calls Try.prog 66 #[fldV X Y Wn Hn (some ⟨b, o, none⟩) l.length c, .int .i64 lx, .int .i64 ly, .int .i64 lz] w fun e w' => e = .returned (.tuple #[fldV 0 0 0 0 none 0 0, .int .i64 10]) ∧ Below w.heap.size w w' := by
  have KI := Lib.hid (fun w hl => inner_no X Y Wn Hn b o c l w hl hr h)
  have HL := Lib.hid hl
  clear hl hr h
  go_enter Try.func66, Try.ntmps66
  go_wp2_with fail
  generalize hW0 : (w.alloc (.cells #[.int .i64 X, .int .i64 Y, .int .i64 Wn, .int .i64 Hn, .slice (some ⟨b, o, none⟩) l.length c] 36)).alloc (.cells #[.int .i64 0, .int .i64 0, .int .i64 0, .int .i64 0, .slice none 0 0] 36) = W0 at *
  obtain ⟨E0, F0, B0, z0⟩ := two_fields w X Y Wn Hn (.slice (some ⟨b, o, none⟩) l.length c) W0 hW0.symm
  clear hW0
  refine (KI.out _ (HL.out.below B0)).mono ?_
  rintro e w1 ⟨rfl, b1⟩
  have E1 := E0.below b1 E0.lt
  have F1 := F0.below b1 F0.lt
  have HL1 := Lib.hid ((HL.out.below B0).below b1)
  have B1 := Lib.hid (B0.trans (b1.mono B0.size))
  clear b1 B0 F0 E0 z0 KI HL
  have l1 := F1.lt
  obtain ⟨d0, d1, d2, d3, d4⟩ := F1.cells
  have qf0 := F1.frozen 0
  have qf1 := F1.frozen 1
  have qf2 := F1.frozen 2
  have qf3 := F1.frozen 3
  have qf4 := F1.frozen 4
  clear F1 E1
  go_wp2_with fail
  have B2 := B1.out
  exact bodyPost_ret (v := .tuple #[fldV 0 0 0 0 none 0 0, .int .i64 10]) (by simp [results, Try.results66, go_sem, *]) rfl ⟨rfl, (by have hszz := B2.size; repeat (first | with_reducible exact B2 | with_reducible apply Below.drew | with_reducible refine below_drewN ?_ _ | (with_reducible refine Below.setCell ?_ ?_ _; rotate_left; focus (first | omega | (simp <;> omega))) | (with_reducible refine Below.alloc ?_ ?_ _; rotate_left; focus (first | omega | (simp <;> omega)))))⟩

theorem shade_bad (X Y : Int) (Wn Hn : Nat) (b o c : Nat) (l : List Nat) (lx ly lz : Int) (w : World) (hl : SRow w (some ⟨b, o, none⟩) l) (hr : Right X Y Wn Hn l) (h3 : 3 ≤ Wn) (h4 : 3 ≤ Hn) (h : lightE lx ly lz ≠ 0) :
    Calls Try.prog 66 #[fldV X Y Wn Hn (some ⟨b, o, none⟩) l.length c, .int .i64 lx, .int .i64 ly, .int .i64 lz] w fun e w' => e = .returned (.tuple #[fldV 0 0 0 0 none 0 0, .int .i64 (lightE lx ly lz)]) ∧ Below w.heap.size w w' := by
  have KI := Lib.hid (fun w hl => inner_ok X Y Wn Hn b o c l w hl hr h3 h4)
  have HL := Lib.hid hl
  have KW := Lib.hid (fun W g c0 c1 c2 => within3 1000 g lx ly lz W (by decide) (by decide) c0 c1 c2)
  clear hl hr h3 h4
  unfold lightE at *
  cases hc : (inB 1000 lx && inB 1000 ly && inB 1000 lz) with
  | false =>
    rw [hc] at KW
    rw [if_pos rfl]
    clear hc h
    go_enter Try.func66, Try.ntmps66
    go_wp2_with fail
    generalize hW0 : (w.alloc (.cells #[.int .i64 X, .int .i64 Y, .int .i64 Wn, .int .i64 Hn, .slice (some ⟨b, o, none⟩) l.length c] 36)).alloc (.cells #[.int .i64 0, .int .i64 0, .int .i64 0, .int .i64 0, .slice none 0 0] 36) = W0 at *
    obtain ⟨E0, F0, B0, z0⟩ := two_fields w X Y Wn Hn (.slice (some ⟨b, o, none⟩) l.length c) W0 hW0.symm
    clear hW0
    refine (KI.out _ (HL.out.below B0)).mono ?_
    rintro e w1 ⟨rfl, b1⟩
    have E1 := E0.below b1 E0.lt
    have F1 := F0.below b1 F0.lt
    have HL1 := Lib.hid ((HL.out.below B0).below b1)
    have B1 := Lib.hid (B0.trans (b1.mono B0.size))
    clear b1 B0 F0 E0 z0 KI HL
    have hR := Reg.new w1 (X + 1) (Y + 1) ((Wn - 2 : Nat) : Int) ((Hn - 2 : Nat) : Int)
    have b2 : Below w1.heap.size w1 (w1.alloc (.cells #[.int .i64 (X + 1), .int .i64 (Y + 1), .int .i64 ((Wn - 2 : Nat) : Int), .int .i64 ((Hn - 2 : Nat) : Int)] 23)) := (by repeat (first | with_reducible exact Below.refl _ _ | with_reducible apply Below.drew | with_reducible refine below_drewN ?_ _ | (with_reducible refine Below.setCell ?_ ?_ _; rotate_left; focus (first | omega | (simp <;> omega))) | (with_reducible refine Below.alloc ?_ ?_ _; rotate_left; focus (first | omega | (simp <;> omega)))))
    have HE2 := Lib.hid (E1.below b2 E1.lt)
    have HF2 := Lib.hid (F1.below b2 F1.lt)
    have HL2 := Lib.hid (HL1.out.below b2)
    have HB2 := Lib.hid (B1.out.trans (b2.mono B1.out.size))
    have l0 : w.heap.size < w1.heap.size := E1.lt
    have l1 : w.heap.size + 1 < w1.heap.size := F1.lt
    have HR2 := Lib.hid hR
    clear E1 F1 HL1 B1 b2 hR
    have HS2 : Hid (w1.heap.size + 1 = (w1.alloc (.cells #[.int .i64 (X + 1), .int .i64 (Y + 1), .int .i64 ((Wn - 2 : Nat) : Int), .int .i64 ((Hn - 2 : Nat) : Int)] 23)).heap.size) := Lib.hid (by simp)
    go_wp2_with fail
    generalize w1.alloc (.cells #[.int .i64 (X + 1), .int .i64 (Y + 1), .int .i64 ((Wn - 2 : Nat) : Int), .int .i64 ((Hn - 2 : Nat) : Int)] 23) = w2 at *
    rw [HS2.out]
    refine (KW.out _ _ (by simp [go_sem]) (by simp [go_sem]) (by simp [go_sem])).mono ?_
    rintro e w3 ⟨rfl, rfl⟩
    obtain ⟨d0, d1, d2, d3, d4⟩ := HF2.out.cells
    have qf0 := HF2.out.frozen 0
    have qf1 := HF2.out.frozen 1
    have qf2 := HF2.out.frozen 2
    have qf3 := HF2.out.frozen 3
    have qf4 := HF2.out.frozen 4
    have l2 := HF2.out.lt
    go_wp2_with fail
    have B3 := HB2.out
    exact bodyPost_ret (v := .tuple #[fldV 0 0 0 0 none 0 0, .int .i64 3]) (by simp [results, Try.results66, go_sem, *]) rfl ⟨rfl, (by have hszz := B3.size; repeat (first | with_reducible exact B3 | with_reducible apply Below.drew | with_reducible refine below_drewN ?_ _ | (with_reducible refine Below.setCell ?_ ?_ _; rotate_left; focus (first | omega | (simp <;> omega))) | (with_reducible refine Below.alloc ?_ ?_ _; rotate_left; focus (first | omega | (simp <;> omega)))))⟩
  | true =>
    rw [hc] at KW h
    rw [if_neg (by decide)] at h ⊢
    have hz : lx = 0 ∧ ly = 0 ∧ lz = 0 := by
      apply Classical.byContradiction
      intro hn
      rw [if_neg hn] at h; exact h rfl
    rw [if_pos hz]
    obtain ⟨rfl, rfl, rfl⟩ := hz
    clear hc h
    go_enter Try.func66, Try.ntmps66
    go_wp2_with fail
    generalize hW0 : (w.alloc (.cells #[.int .i64 X, .int .i64 Y, .int .i64 Wn, .int .i64 Hn, .slice (some ⟨b, o, none⟩) l.length c] 36)).alloc (.cells #[.int .i64 0, .int .i64 0, .int .i64 0, .int .i64 0, .slice none 0 0] 36) = W0 at *
    obtain ⟨E0, F0, B0, z0⟩ := two_fields w X Y Wn Hn (.slice (some ⟨b, o, none⟩) l.length c) W0 hW0.symm
    clear hW0
    refine (KI.out _ (HL.out.below B0)).mono ?_
    rintro e w1 ⟨rfl, b1⟩
    have E1 := E0.below b1 E0.lt
    have F1 := F0.below b1 F0.lt
    have HL1 := Lib.hid ((HL.out.below B0).below b1)
    have B1 := Lib.hid (B0.trans (b1.mono B0.size))
    clear b1 B0 F0 E0 z0 KI HL
    have hR := Reg.new w1 (X + 1) (Y + 1) ((Wn - 2 : Nat) : Int) ((Hn - 2 : Nat) : Int)
    have b2 : Below w1.heap.size w1 (w1.alloc (.cells #[.int .i64 (X + 1), .int .i64 (Y + 1), .int .i64 ((Wn - 2 : Nat) : Int), .int .i64 ((Hn - 2 : Nat) : Int)] 23)) := (by repeat (first | with_reducible exact Below.refl _ _ | with_reducible apply Below.drew | with_reducible refine below_drewN ?_ _ | (with_reducible refine Below.setCell ?_ ?_ _; rotate_left; focus (first | omega | (simp <;> omega))) | (with_reducible refine Below.alloc ?_ ?_ _; rotate_left; focus (first | omega | (simp <;> omega)))))
    have HE2 := Lib.hid (E1.below b2 E1.lt)
    have HF2 := Lib.hid (F1.below b2 F1.lt)
    have HL2 := Lib.hid (HL1.out.below b2)
    have HB2 := Lib.hid (B1.out.trans (b2.mono B1.out.size))
    have l0 : w.heap.size < w1.heap.size := E1.lt
    have l1 : w.heap.size + 1 < w1.heap.size := F1.lt
    have HR2 := Lib.hid hR
    clear E1 F1 HL1 B1 b2 hR
    have HS2 : Hid (w1.heap.size + 1 = (w1.alloc (.cells #[.int .i64 (X + 1), .int .i64 (Y + 1), .int .i64 ((Wn - 2 : Nat) : Int), .int .i64 ((Hn - 2 : Nat) : Int)] 23)).heap.size) := Lib.hid (by simp)
    go_wp2_with fail
    generalize w1.alloc (.cells #[.int .i64 (X + 1), .int .i64 (Y + 1), .int .i64 ((Wn - 2 : Nat) : Int), .int .i64 ((Hn - 2 : Nat) : Int)] 23) = w2 at *
    rw [HS2.out]
    refine (KW.out _ _ (by simp [go_sem]) (by simp [go_sem]) (by simp [go_sem])).mono ?_
    rintro e w3 ⟨rfl, rfl⟩
    obtain ⟨d0, d1, d2, d3, d4⟩ := HF2.out.cells
    have qf0 := HF2.out.frozen 0
    have qf1 := HF2.out.frozen 1
    have qf2 := HF2.out.frozen 2
    have qf3 := HF2.out.frozen 3
    have qf4 := HF2.out.frozen 4
    have l2 := HF2.out.lt
    go_wp2_with fail
    have B3 := HB2.out
    exact bodyPost_ret (v := .tuple #[fldV 0 0 0 0 none 0 0, .int .i64 12]) (by simp [results, Try.results66, go_sem, *]) rfl ⟨rfl, (by have hszz := B3.size; repeat (first | with_reducible exact B3 | with_reducible apply Below.drew | with_reducible refine below_drewN ?_ _ | (with_reducible refine Below.setCell ?_ ?_ _; rotate_left; focus (first | omega | (simp <;> omega))) | (with_reducible refine Below.alloc ?_ ?_ _; rotate_left; focus (first | omega | (simp <;> omega)))))⟩
end Go.Proofs.Ytnfebeebjelgbaa
