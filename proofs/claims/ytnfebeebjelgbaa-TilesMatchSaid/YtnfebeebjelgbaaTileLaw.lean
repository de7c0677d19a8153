import Derived.Test.YtnfebeebjelgbaaTileRef
import Derived.Test.YtnfebeebjelgbaaTileEq
import Derived.Test.YtnfebeebjelgbaaTileAll
import Derived.Deep.DeepCutAuto
namespace Go.Proofs.Ytnfebeebjelgbaa
open Go.ChangeShapes Go.WideShapes Go.ChangeAt Go.RowKit
open Ieee.Format (fin finE htE allFin allHt all_true all_false mulF subF addF Ht Bd divF rootF floorF easeF mixF)
set_option linter.unusedVariables false

/-- what holds of the lists of tiles -/
structure TilesOk (W H : Int) (C : Int) (L : List Rg) : Prop where
  len : L.length ≤ 1024
  bd : ∀ i, i < L.length → 1 ≤ (rAt L i).2.2.1 ∧ (rAt L i).2.2.1 ≤ 256 ∧ 1 ≤ (rAt L i).2.2.2 ∧ (rAt L i).2.2.2 ≤ 256
  sum : C = 0 → areaR L = W * H ∧ W * H ≤ 65536 ∧ 1 ≤ W ∧ 1 ≤ H ∧ W ≤ 512 ∧ H ≤ 512
theorem tiles_pair (X Y W H s : Int) : ∃ (C : Int) (L : List Rg), TilesOk W H C L ∧ (∀ w, Calls Try.prog 18 #[reg X Y W H, .int .i64 s] w fun e w' => TilesP C L w e w') ∧ (∀ w, Calls Try.prog 19 #[reg X Y W H, .int .i64 s] w fun e w' => TilesP C L w e w') := by
  have no : ∀ C : Int, C ≠ 0 → TilesOk W H C [] := fun C h => ⟨by simp, fun i hi => absurd hi (by simp), fun h' => absurd h' h⟩
  by_cases hc : chk X Y W H = 0
  · by_cases hs : 1 ≤ s ∧ s ≤ 256
    · by_cases hn : (tnm X W s : Int) * tnm Y H s ≤ 1024
      · obtain ⟨c1, c2, c3, c4, c5, c6, c7, c8, c9⟩ := chk_zero hc
        refine ⟨0, tilesL X Y W H s, ⟨?_, ?_, fun _ => ⟨area_tiles X Y W H s hs.1 c1 c3, c9, c1, c3, c2, c4⟩⟩, fun w => tiles_all X Y W H s w hc hs.1 hs.2 0 _ (.inl ⟨hn, rfl, rfl⟩), fun w => reftiles_all X Y W H s w hc hs.1 hs.2 0 _ (.inl ⟨hn, rfl, rfl⟩)⟩
        · unfold tilesL
          rw [tilesN_len]
          have : ((tnm Y H s * tnm X W s : Nat) : Int) = (tnm X W s : Int) * tnm Y H s := by rw [Int.natCast_mul, Int.mul_comm]
          omega
        · intro i hi
          have hp := (tnm_pos X W s hs.1 c1).1
          unfold tilesL at hi ⊢
          rw [tilesN_len] at hi
          have hr : rAt (tilesN X Y W H s (tnm X W s) (tnm Y H s * tnm X W s)) i = tile1 X Y W H s (i % tnm X W s) (i / tnm X W s) := by
            unfold rAt tilesN
            rw [List.getD_eq_getElem?_getD, List.getElem?_map, List.getElem?_range hi]
            rfl
          rw [hr]
          have b1 := twd_bd X W s (i % tnm X W s) hs.1 c1 (Nat.mod_lt _ (by omega))
          have b2 := twd_bd Y H s (i / tnm X W s) hs.1 c3 (Nat.div_lt_of_lt_mul (by rw [Nat.mul_comm]; exact hi))
          unfold tile1
          exact ⟨b1.2.1, Int.le_trans b1.2.2.2 hs.2, b2.2.1, Int.le_trans b2.2.2.2 hs.2⟩
      · exact ⟨4, [], no 4 (by omega), fun w => tiles_all X Y W H s w hc hs.1 hs.2 4 _ (.inr ⟨by omega, rfl, rfl⟩), fun w => reftiles_all X Y W H s w hc hs.1 hs.2 4 _ (.inr ⟨by omega, rfl, rfl⟩)⟩
    · exact ⟨3, [], no 3 (by omega), fun w => tiles_bad X Y W H s 3 w (.inr ⟨hc, by omega, rfl⟩), fun w => reftiles_bad X Y W H s 3 w (.inr ⟨hc, by omega, rfl⟩)⟩
  · exact ⟨chk X Y W H, [], no _ hc, fun w => tiles_bad X Y W H s _ w (.inl ⟨rfl, hc⟩), fun w => reftiles_bad X Y W H s _ w (.inl ⟨rfl, hc⟩)⟩
/-- the sums of the areas -/
def arN (L : List Rg) (k : Nat) : Int := areaR (L.take k)
theorem arN_zero (L : List Rg) : arN L 0 = 0 := by simp [arN, areaR]
theorem arN_all (L : List Rg) : arN L L.length = areaR L := by simp [arN]
theorem arN_succ (L : List Rg) (k : Nat) (hk : k < L.length) : arN L (k + 1) = arN L k + (rAt L k).2.2.1 * (rAt L k).2.2.2 := by
  unfold arN
  rw [List.take_succ_eq_append_getElem hk, areaR_snoc]
  unfold rAt
  rw [List.getD_eq_getElem?_getD, List.getElem?_eq_getElem hk]
  rfl
theorem arN_bd {W H C : Int} {L : List Rg} (h : TilesOk W H C L) (k : Nat) (hk : k ≤ L.length) : 0 ≤ arN L k ∧ arN L k ≤ 65536 * k := by
  induction k with
  | zero => rw [arN_zero]; omega
  | succ k ih =>
    have h1 := ih (by omega)
    obtain ⟨a, b, c, d⟩ := h.bd k (by omega)
    have h2 := Int.mul_le_mul b d (by omega) (by omega)
    have h3 := Int.mul_nonneg (show 0 ≤ (rAt L k).2.2.1 by omega) (show 0 ≤ (rAt L k).2.2.2 by omega)
    rw [arN_succ L k (by omega)]
    omega

theorem tq_rem (x s : Int) : (tq x s).tmod s = 0 := by unfold tq; exact Int.mul_tmod_left _ _

theorem max_four (a b c d : Int) : ∃ M : Int, (∀ w' : World, (Builtin.max_ #[3, 3, 3, 3] 3 #[.int .i64 a, .int .i64 b, .int .i64 c, .int .i64 d]).run Try.prog w' = .ok (.int .i64 M) w') ∧ a ≤ M ∧ b ≤ M ∧ c ≤ M ∧ d ≤ M ∧ (M = a ∨ M = b ∨ M = c ∨ M = d) := by
  obtain ⟨m1, hm1⟩ : ∃ m1, m1 = if b > a then b else a := ⟨_, rfl⟩
  obtain ⟨m2, hm2⟩ : ∃ m2, m2 = if c > m1 then c else m1 := ⟨_, rfl⟩
  obtain ⟨m3, hm3⟩ : ∃ m3, m3 = if d > m2 then d else m2 := ⟨_, rfl⟩
  refine ⟨m3, fun w' => ?_, ?_⟩
  · subst hm3 hm2 hm1; rfl
  · split at hm1 <;> split at hm2 <;> split at hm3 <;> omega
theorem min_two (a b : Int) : ∃ M : Int, (∀ w' : World, (Builtin.min_ #[3, 3] 3 #[.int .i64 a, .int .i64 b]).run Try.prog w' = .ok (.int .i64 M) w') ∧ M ≤ a ∧ M ≤ b ∧ (M = a ∨ M = b) := by
  obtain ⟨m1, hm1⟩ : ∃ m1, m1 = if b < a then b else a := ⟨_, rfl⟩
  refine ⟨m1, fun w' => ?_, ?_⟩
  · subst hm1; rfl
  · split at hm1 <;> omega
theorem neg64 (x : Int) (h1 : -9223372036854775808 ≤ x) (h2 : x ≤ 9223372036854775807) : ∃ n : Int, wrap64 (-x) = n ∧ (n = -x ∨ x = -9223372036854775808 ∧ n = x) := by
  refine ⟨_, rfl, ?_⟩
  unfold wrap64
  omega
set_option maxRecDepth 100000 in
set_option maxHeartbeats 4000000 in
theorem tiles_law (X Y W H s x y : Int) (w : World) (hx : -9223372036854775808 ≤ x ∧ x ≤ 9223372036854775807) (hy : -9223372036854775808 ≤ y ∧ y ≤ 9223372036854775807) :
    Calls Try.prog 3 #[reg X Y W H, .int .i64 s, .int .i64 x, .int .i64 y] w fun e w' => e = .returned (.bool true) ∧ Below w.heap.size w w' := by
  obtain ⟨C, L, T, K1, K2⟩ := tiles_pair X Y W H s
  have HT := Lib.hid T
  have HK1 := Lib.hid K1
  have HK2 := Lib.hid K2
  clear T K1 K2
  obtain ⟨hx1, hx2⟩ := hx
  obtain ⟨hy1, hy2⟩ := hy
  go_enter Try.func3, Try.ntmps3
  go_wp2_with fail
  refine (landed_bel _).mono ?_
  rintro e w1 ⟨rfl, b1⟩
  have R1 := (Reg.new w X Y W H).below b1 (by simp)
  have B1 : Below w.heap.size w w1 := (show Below w.heap.size w (w.alloc (.cells #[.int .i64 X, .int .i64 Y, .int .i64 W, .int .i64 H] 23)) from (by repeat (first | with_reducible exact Below.refl _ _ | with_reducible apply Below.drew | with_reducible refine below_drewN ?_ _ | (with_reducible refine Below.setCell ?_ ?_ _; rotate_left; focus (first | omega | (simp <;> omega))) | (with_reducible refine Below.alloc ?_ ?_ _; rotate_left; focus (first | omega | (simp <;> omega)))))).trans (b1.mono (by simp))
  have HR1 := Lib.hid R1
  have HB1 := Lib.hid B1
  clear b1 R1 B1
  have hcs : (s < 1 ∨ ¬ s < 1 ∧ 256 < s) ∨ ¬ s < 1 ∧ ¬ 256 < s ∧ placeE x y ≠ 0 ∨ ¬ s < 1 ∧ ¬ 256 < s ∧ placeE x y = 0 := by omega
  rcases hcs with h | ⟨h1, h2, h3⟩ | ⟨h1, h2, h3⟩
  · have hE : tileE s x y = 3 := by
      unfold tileE
      rcases h with h | ⟨h, h'⟩
      · rw [if_pos h]
      · rw [if_neg h, if_pos h']
    have KT := Lib.hid (fun w => tile_bad s x y w (by omega))
    rw [hE] at KT
    clear hE
    rcases h with h | ⟨h, h'⟩
    all_goals
      go_wp2_with fail
      refine (KT.out _).mono ?_
      rintro e w2 ⟨rfl, b2⟩
      have R2 := HR1.out.below b2 HR1.out.lt
      have B2 := HB1.out.trans (b2.mono HB1.out.size)
      have HR3 := Lib.hid (R2.alloc (.cells #[.int .i64 0, .int .i64 0, .int .i64 0, .int .i64 0] 23))
      have HB3 := Lib.hid ((show Below w.heap.size w (w2.alloc (.cells #[.int .i64 0, .int .i64 0, .int .i64 0, .int .i64 0] 23)) from (by have hszz := B2.size; repeat (first | with_reducible exact B2 | with_reducible apply Below.drew | with_reducible refine below_drewN ?_ _ | (with_reducible refine Below.setCell ?_ ?_ _; rotate_left; focus (first | omega | (simp <;> omega))) | (with_reducible refine Below.alloc ?_ ?_ _; rotate_left; focus (first | omega | (simp <;> omega)))))))
      clear b2 R2 B2 HR1 HB1
      obtain ⟨c0, c1, c2, c3⟩ := HR3.out.cells
      have l0 := HR3.out.lt
      go_wp2_with fail
      refine (HK1.out _).mono ?_
      rintro e w4 ⟨⟨aa, k1, rfl, o1⟩, b4⟩
      have HR4 := Lib.hid (HR3.out.below b4 HR3.out.lt)
      have HB4 := Lib.hid (HB3.out.trans (b4.mono HB3.out.size))
      have HO1 := Lib.hid o1
      clear b4 o1 c0 c1 c2 c3 l0 HR3 HB3
      obtain ⟨c0, c1, c2, c3⟩ := HR4.out.cells
      have l0 := HR4.out.lt
      go_wp2_with fail
      refine (HK2.out _).mono ?_
      rintro e w5 ⟨⟨ab, k2, rfl, o2⟩, b5⟩
      have HR5 := Lib.hid (HR4.out.below b5 HR4.out.lt)
      have HB5 := Lib.hid (HB4.out.trans (b5.mono HB4.out.size))
      have HO3 := Lib.hid (HO1.out.below b5)
      have HO4 := Lib.hid o2
      clear b5 o2 c0 c1 c2 c3 l0 HR4 HB4 HO1
      have hL : L.length ≤ 1024 := HT.out.len
      go_wp2_with fail
      refine (rgs_equal aa ab k1 k2 L _ HO3.out HO4.out).mono ?_
      rintro e w6 ⟨rfl, b6⟩
      have HR6 := Lib.hid (HR5.out.below b6 HR5.out.lt)
      have HB6 := Lib.hid (HB5.out.trans (b6.mono HB5.out.size))
      have HO6 := Lib.hid (HO3.out.below b6)
      clear b6 HR5 HB5 HO3 HO4
      go_wp2_with fail
      go_loopw [14, 16, 112] (fun n _ i wr => ∃ k : Nat, k ≤ L.length ∧ i = .int .i64 k ∧ n = .int .i64 (arN L k) ∧ Below w6.heap.size w6 wr) (fun _ _ i _ => L.length - (intOf i).toNat)
      case atStart => exact ⟨0, by omega, rfl, by rw [arN_zero], Below.refl _ _⟩
      case round =>
        obtain ⟨k, hk, rfl, rfl, B⟩ := hrel
        have HBL := Lib.hid B
        obtain ⟨a1, a2⟩ := arN_bd HT.out k hk
        by_cases hlt : k < L.length
        · rcases HO6.out.2 with hnil | ⟨g, rfl, hg, hcl⟩
          · subst hnil; exact absurd hlt (by simp)
          obtain ⟨p0, p1, p2, p3⟩ := hcl k hlt
          have d0 := (B.cell (p := ⟨g, k * 4, none⟩) hg).trans p0
          have d1 := (B.cell (p := ⟨g, k * 4 + 1, none⟩) hg).trans p1
          have d2 := (B.cell (p := ⟨g, k * 4 + 2, none⟩) hg).trans p2
          have d3 := (B.cell (p := ⟨g, k * 4 + 3, none⟩) hg).trans p3
          obtain ⟨m1, m2, m3, m4⟩ := HT.out.bd k hlt
          have HS := Lib.hid (arN_succ L k hlt)
          have m5 := Int.mul_nonneg (show 0 ≤ (rAt L k).2.2.1 by omega) (show 0 ≤ (rAt L k).2.2.2 by omega)
          have m6 := Int.mul_le_mul m2 m4 (by omega) (by omega)
          clear p0 p1 p2 p3 hcl B
          generalize (rAt L k).1 = r0 at *
          generalize (rAt L k).2.1 = r1 at *
          generalize (rAt L k).2.2.1 = r2 at *
          generalize (rAt L k).2.2.2 = r3 at *
          generalize hpr : r2 * r3 = pr at *
          generalize arN L k = S at *
          go_wp2_with fail
          go_roundw
          case rel => exact ⟨k + 1, by omega, by go_num, by rw [HS.out], by have h := HBL.out; exact (by have hszz := h.size; repeat (first | with_reducible exact h | with_reducible apply Below.drew | with_reducible refine below_drewN ?_ _ | (with_reducible refine Below.setCell ?_ ?_ _; rotate_left; focus (first | omega | (simp <;> omega))) | (with_reducible refine Below.alloc ?_ ?_ _; rotate_left; focus (first | omega | (simp <;> omega)))))⟩
          case measure => simp [intOf]; omega
        · obtain rfl : k = L.length := by omega
          rw [arN_all] at *
          have R7 := HR6.out.below B HR6.out.lt
          have HB7 := Lib.hid (HB6.out.trans (B.mono HB6.out.size))
          obtain ⟨c0, c1, c2, c3⟩ := R7.cells
          have l0 := R7.lt
          clear R7 B HBL
          by_cases hC : C = 0
          · obtain ⟨t1, t2, t3, t4, t5, t6⟩ := HT.out.sum hC
            rw [t1]
            have t7 := Int.mul_nonneg (show 0 ≤ W by omega) (show 0 ≤ H by omega)
            subst hC
            clear t1 a1 a2 HT HK1 HK2
            generalize hwh : W * H = wh at *
            go_wp2_with fail
            go_ret
            exact ⟨rfl, HB7.out⟩
          · clear a1 a2 HT HK1 HK2
            go_wp2_with fail
            go_ret
            exact ⟨rfl, HB7.out⟩
  · have hE : tileE s x y = 5 := by
      unfold tileE
      rw [if_neg h1, if_neg h2]
      unfold placeE at h3 ⊢
      repeat (split; rfl)
      simp_all
    have KT := Lib.hid (fun w => tile_bad s x y w (by omega))
    rw [hE] at KT
    clear hE
    have h4 : x < -4194304 ∨ 4194304 < x ∨ y < -4194304 ∨ 4194304 < y := by
      unfold placeE at h3
      omega
    clear h3
    obtain ⟨nx, hnx, hnx2⟩ := neg64 x hx1 hx2
    obtain ⟨ny, hny, hny2⟩ := neg64 y hy1 hy2
    obtain ⟨M, hM, m1, m2, m3, m4, m5⟩ := max_four x nx y ny
    obtain ⟨N, hN, n1, n2, n3⟩ := min_two x y
    by_cases hb : 4194304 < M
    · clear hN n1 n2 n3 m1 m2 m3 m4 m5 h4 hnx2 hny2
      go_wp2_with fail
      refine (KT.out _).mono ?_
      rintro e w2 ⟨rfl, b2⟩
      have R2 := HR1.out.below b2 HR1.out.lt
      have B2 := HB1.out.trans (b2.mono HB1.out.size)
      have HR3 := Lib.hid (R2.alloc (.cells #[.int .i64 0, .int .i64 0, .int .i64 0, .int .i64 0] 23))
      have HB3 := Lib.hid ((show Below w.heap.size w (w2.alloc (.cells #[.int .i64 0, .int .i64 0, .int .i64 0, .int .i64 0] 23)) from (by have hszz := B2.size; repeat (first | with_reducible exact B2 | with_reducible apply Below.drew | with_reducible refine below_drewN ?_ _ | (with_reducible refine Below.setCell ?_ ?_ _; rotate_left; focus (first | omega | (simp <;> omega))) | (with_reducible refine Below.alloc ?_ ?_ _; rotate_left; focus (first | omega | (simp <;> omega)))))))
      clear b2 R2 B2 HR1 HB1
      obtain ⟨c0, c1, c2, c3⟩ := HR3.out.cells
      have l0 := HR3.out.lt
      go_wp2_with fail
      refine (HK1.out _).mono ?_
      rintro e w4 ⟨⟨aa, k1, rfl, o1⟩, b4⟩
      have HR4 := Lib.hid (HR3.out.below b4 HR3.out.lt)
      have HB4 := Lib.hid (HB3.out.trans (b4.mono HB3.out.size))
      have HO1 := Lib.hid o1
      clear b4 o1 c0 c1 c2 c3 l0 HR3 HB3
      obtain ⟨c0, c1, c2, c3⟩ := HR4.out.cells
      have l0 := HR4.out.lt
      go_wp2_with fail
      refine (HK2.out _).mono ?_
      rintro e w5 ⟨⟨ab, k2, rfl, o2⟩, b5⟩
      have HR5 := Lib.hid (HR4.out.below b5 HR4.out.lt)
      have HB5 := Lib.hid (HB4.out.trans (b5.mono HB4.out.size))
      have HO3 := Lib.hid (HO1.out.below b5)
      have HO4 := Lib.hid o2
      clear b5 o2 c0 c1 c2 c3 l0 HR4 HB4 HO1
      have hL : L.length ≤ 1024 := HT.out.len
      go_wp2_with fail
      refine (rgs_equal aa ab k1 k2 L _ HO3.out HO4.out).mono ?_
      rintro e w6 ⟨rfl, b6⟩
      have HR6 := Lib.hid (HR5.out.below b6 HR5.out.lt)
      have HB6 := Lib.hid (HB5.out.trans (b6.mono HB5.out.size))
      have HO6 := Lib.hid (HO3.out.below b6)
      clear b6 HR5 HB5 HO3 HO4
      go_wp2_with fail
      go_loopw [14, 16, 112] (fun n _ i wr => ∃ k : Nat, k ≤ L.length ∧ i = .int .i64 k ∧ n = .int .i64 (arN L k) ∧ Below w6.heap.size w6 wr) (fun _ _ i _ => L.length - (intOf i).toNat)
      case atStart => exact ⟨0, by omega, rfl, by rw [arN_zero], Below.refl _ _⟩
      case round =>
        obtain ⟨k, hk, rfl, rfl, B⟩ := hrel
        have HBL := Lib.hid B
        obtain ⟨a1, a2⟩ := arN_bd HT.out k hk
        by_cases hlt : k < L.length
        · rcases HO6.out.2 with hnil | ⟨g, rfl, hg, hcl⟩
          · subst hnil; exact absurd hlt (by simp)
          obtain ⟨p0, p1, p2, p3⟩ := hcl k hlt
          have d0 := (B.cell (p := ⟨g, k * 4, none⟩) hg).trans p0
          have d1 := (B.cell (p := ⟨g, k * 4 + 1, none⟩) hg).trans p1
          have d2 := (B.cell (p := ⟨g, k * 4 + 2, none⟩) hg).trans p2
          have d3 := (B.cell (p := ⟨g, k * 4 + 3, none⟩) hg).trans p3
          obtain ⟨m1, m2, m3, m4⟩ := HT.out.bd k hlt
          have HS := Lib.hid (arN_succ L k hlt)
          have m5 := Int.mul_nonneg (show 0 ≤ (rAt L k).2.2.1 by omega) (show 0 ≤ (rAt L k).2.2.2 by omega)
          have m6 := Int.mul_le_mul m2 m4 (by omega) (by omega)
          clear p0 p1 p2 p3 hcl B
          generalize (rAt L k).1 = r0 at *
          generalize (rAt L k).2.1 = r1 at *
          generalize (rAt L k).2.2.1 = r2 at *
          generalize (rAt L k).2.2.2 = r3 at *
          generalize hpr : r2 * r3 = pr at *
          generalize arN L k = S at *
          go_wp2_with fail
          go_roundw
          case rel => exact ⟨k + 1, by omega, by go_num, by rw [HS.out], by have h := HBL.out; exact (by have hszz := h.size; repeat (first | with_reducible exact h | with_reducible apply Below.drew | with_reducible refine below_drewN ?_ _ | (with_reducible refine Below.setCell ?_ ?_ _; rotate_left; focus (first | omega | (simp <;> omega))) | (with_reducible refine Below.alloc ?_ ?_ _; rotate_left; focus (first | omega | (simp <;> omega)))))⟩
          case measure => simp [intOf]; omega
        · obtain rfl : k = L.length := by omega
          rw [arN_all] at *
          have R7 := HR6.out.below B HR6.out.lt
          have HB7 := Lib.hid (HB6.out.trans (B.mono HB6.out.size))
          obtain ⟨c0, c1, c2, c3⟩ := R7.cells
          have l0 := R7.lt
          clear R7 B HBL
          by_cases hC : C = 0
          · obtain ⟨t1, t2, t3, t4, t5, t6⟩ := HT.out.sum hC
            rw [t1]
            have t7 := Int.mul_nonneg (show 0 ≤ W by omega) (show 0 ≤ H by omega)
            subst hC
            clear t1 a1 a2 HT HK1 HK2
            generalize hwh : W * H = wh at *
            go_wp2_with fail
            go_ret
            exact ⟨rfl, HB7.out⟩
          · clear a1 a2 HT HK1 HK2
            go_wp2_with fail
            go_ret
            exact ⟨rfl, HB7.out⟩
    · have hc : N < -4194304 := by omega
      clear n1 n2 n3 m1 m2 m3 m4 m5 h4 hnx2 hny2
      go_wp2_with fail
      refine (KT.out _).mono ?_
      rintro e w2 ⟨rfl, b2⟩
      have R2 := HR1.out.below b2 HR1.out.lt
      have B2 := HB1.out.trans (b2.mono HB1.out.size)
      have HR3 := Lib.hid (R2.alloc (.cells #[.int .i64 0, .int .i64 0, .int .i64 0, .int .i64 0] 23))
      have HB3 := Lib.hid ((show Below w.heap.size w (w2.alloc (.cells #[.int .i64 0, .int .i64 0, .int .i64 0, .int .i64 0] 23)) from (by have hszz := B2.size; repeat (first | with_reducible exact B2 | with_reducible apply Below.drew | with_reducible refine below_drewN ?_ _ | (with_reducible refine Below.setCell ?_ ?_ _; rotate_left; focus (first | omega | (simp <;> omega))) | (with_reducible refine Below.alloc ?_ ?_ _; rotate_left; focus (first | omega | (simp <;> omega)))))))
      clear b2 R2 B2 HR1 HB1
      obtain ⟨c0, c1, c2, c3⟩ := HR3.out.cells
      have l0 := HR3.out.lt
      go_wp2_with fail
      refine (HK1.out _).mono ?_
      rintro e w4 ⟨⟨aa, k1, rfl, o1⟩, b4⟩
      have HR4 := Lib.hid (HR3.out.below b4 HR3.out.lt)
      have HB4 := Lib.hid (HB3.out.trans (b4.mono HB3.out.size))
      have HO1 := Lib.hid o1
      clear b4 o1 c0 c1 c2 c3 l0 HR3 HB3
      obtain ⟨c0, c1, c2, c3⟩ := HR4.out.cells
      have l0 := HR4.out.lt
      go_wp2_with fail
      refine (HK2.out _).mono ?_
      rintro e w5 ⟨⟨ab, k2, rfl, o2⟩, b5⟩
      have HR5 := Lib.hid (HR4.out.below b5 HR4.out.lt)
      have HB5 := Lib.hid (HB4.out.trans (b5.mono HB4.out.size))
      have HO3 := Lib.hid (HO1.out.below b5)
      have HO4 := Lib.hid o2
      clear b5 o2 c0 c1 c2 c3 l0 HR4 HB4 HO1
      have hL : L.length ≤ 1024 := HT.out.len
      go_wp2_with fail
      refine (rgs_equal aa ab k1 k2 L _ HO3.out HO4.out).mono ?_
      rintro e w6 ⟨rfl, b6⟩
      have HR6 := Lib.hid (HR5.out.below b6 HR5.out.lt)
      have HB6 := Lib.hid (HB5.out.trans (b6.mono HB5.out.size))
      have HO6 := Lib.hid (HO3.out.below b6)
      clear b6 HR5 HB5 HO3 HO4
      go_wp2_with fail
      go_loopw [14, 16, 112] (fun n _ i wr => ∃ k : Nat, k ≤ L.length ∧ i = .int .i64 k ∧ n = .int .i64 (arN L k) ∧ Below w6.heap.size w6 wr) (fun _ _ i _ => L.length - (intOf i).toNat)
      case atStart => exact ⟨0, by omega, rfl, by rw [arN_zero], Below.refl _ _⟩
      case round =>
        obtain ⟨k, hk, rfl, rfl, B⟩ := hrel
        have HBL := Lib.hid B
        obtain ⟨a1, a2⟩ := arN_bd HT.out k hk
        by_cases hlt : k < L.length
        · rcases HO6.out.2 with hnil | ⟨g, rfl, hg, hcl⟩
          · subst hnil; exact absurd hlt (by simp)
          obtain ⟨p0, p1, p2, p3⟩ := hcl k hlt
          have d0 := (B.cell (p := ⟨g, k * 4, none⟩) hg).trans p0
          have d1 := (B.cell (p := ⟨g, k * 4 + 1, none⟩) hg).trans p1
          have d2 := (B.cell (p := ⟨g, k * 4 + 2, none⟩) hg).trans p2
          have d3 := (B.cell (p := ⟨g, k * 4 + 3, none⟩) hg).trans p3
          obtain ⟨m1, m2, m3, m4⟩ := HT.out.bd k hlt
          have HS := Lib.hid (arN_succ L k hlt)
          have m5 := Int.mul_nonneg (show 0 ≤ (rAt L k).2.2.1 by omega) (show 0 ≤ (rAt L k).2.2.2 by omega)
          have m6 := Int.mul_le_mul m2 m4 (by omega) (by omega)
          clear p0 p1 p2 p3 hcl B
          generalize (rAt L k).1 = r0 at *
          generalize (rAt L k).2.1 = r1 at *
          generalize (rAt L k).2.2.1 = r2 at *
          generalize (rAt L k).2.2.2 = r3 at *
          generalize hpr : r2 * r3 = pr at *
          generalize arN L k = S at *
          go_wp2_with fail
          go_roundw
          case rel => exact ⟨k + 1, by omega, by go_num, by rw [HS.out], by have h := HBL.out; exact (by have hszz := h.size; repeat (first | with_reducible exact h | with_reducible apply Below.drew | with_reducible refine below_drewN ?_ _ | (with_reducible refine Below.setCell ?_ ?_ _; rotate_left; focus (first | omega | (simp <;> omega))) | (with_reducible refine Below.alloc ?_ ?_ _; rotate_left; focus (first | omega | (simp <;> omega)))))⟩
          case measure => simp [intOf]; omega
        · obtain rfl : k = L.length := by omega
          rw [arN_all] at *
          have R7 := HR6.out.below B HR6.out.lt
          have HB7 := Lib.hid (HB6.out.trans (B.mono HB6.out.size))
          obtain ⟨c0, c1, c2, c3⟩ := R7.cells
          have l0 := R7.lt
          clear R7 B HBL
          by_cases hC : C = 0
          · obtain ⟨t1, t2, t3, t4, t5, t6⟩ := HT.out.sum hC
            rw [t1]
            have t7 := Int.mul_nonneg (show 0 ≤ W by omega) (show 0 ≤ H by omega)
            subst hC
            clear t1 a1 a2 HT HK1 HK2
            generalize hwh : W * H = wh at *
            go_wp2_with fail
            go_ret
            exact ⟨rfl, HB7.out⟩
          · clear a1 a2 HT HK1 HK2
            go_wp2_with fail
            go_ret
            exact ⟨rfl, HB7.out⟩
  · have hE : tileE s x y = 0 := by
      unfold tileE
      rw [if_neg h1, if_neg h2]
      exact h3
    obtain ⟨_, _, _, g1, g2, g3, g4⟩ := tileE_zero hE
    have KT := Lib.hid (fun w => tile_ok s x y w hE)
    have p1 := tq_bd x s (by omega)
    have p2 := tq_bd y s (by omega)
    have KI := Lib.hid (fun w => inside2 x y 1 1 (tq x s) (tq y s) s s w (by omega) (by omega) (by omega) (by omega) (by omega) (by omega) (by omega) (by omega) (by omega) (by omega) (by omega) (by omega) (by omega) (by omega) (by omega) (by omega))
    have hI : insB x y 1 1 (tq x s) (tq y s) s s = true := by
      unfold insB
      simp
      omega
    rw [hI] at KI
    have r1 := tq_rem x s
    have r2 := tq_rem y s
    clear hI hE h3
    generalize tq x s = px at *
    generalize tq y s = py at *
    obtain ⟨M, hM, m1, m2, m3, m4, m5⟩ := max_four x (-x) y (-y)
    obtain ⟨N, hN, n1, n2, n3⟩ := min_two x y
    have hb : ¬ 4194304 < M := by omega
    have hc : ¬ N < -4194304 := by omega
    clear n1 n2 n3 m1 m2 m3 m4 m5
    go_wp2_with fail
    refine (KT.out _).mono ?_
    rintro e w2 ⟨rfl, b2⟩
    have R2 := HR1.out.below b2 HR1.out.lt
    have B2 := HB1.out.trans (b2.mono HB1.out.size)
    have HR3 := Lib.hid (R2.alloc (.cells #[.int .i64 px, .int .i64 py, .int .i64 s, .int .i64 s] 23))
    have HB3 := Lib.hid ((show Below w.heap.size w (w2.alloc (.cells #[.int .i64 px, .int .i64 py, .int .i64 s, .int .i64 s] 23)) from (by have hszz := B2.size; repeat (first | with_reducible exact B2 | with_reducible apply Below.drew | with_reducible refine below_drewN ?_ _ | (with_reducible refine Below.setCell ?_ ?_ _; rotate_left; focus (first | omega | (simp <;> omega))) | (with_reducible refine Below.alloc ?_ ?_ _; rotate_left; focus (first | omega | (simp <;> omega)))))))
    clear b2 R2 B2 HR1 HB1
    go_upto_region 4 with fail
    have hn := Reg.new w2 px py s s
    have hln : Hid (w2.heap.size < (w2.alloc (.cells #[.int .i64 px, .int .i64 py, .int .i64 s, .int .i64 s] 23)).heap.size) := by unfold Hid; simp
    generalize w2.alloc (.cells #[.int .i64 px, .int .i64 py, .int .i64 s, .int .i64 s] 23) = w3 at *
    generalize w2.heap.size = k9 at *
    obtain ⟨n0, n1, n2, n3⟩ := hn.cells
    go_wp2_with fail
    refine (KI.out _).mono ?_
    rintro e w4 ⟨rfl, b4⟩
    have hn4 := hn.below b4 hln.out
    have R4 := HR3.out.below b4 HR3.out.lt
    have B4 := HB3.out.trans (b4.mono HB3.out.size)
    clear HR3 HB3 b4 n0 n1 n2 n3 hn hln
    have HR3 := Lib.hid R4
    have HB3 := Lib.hid B4
    obtain ⟨n0, n1, n2, n3⟩ := hn4.cells
    clear R4 B4 hn4
    go_upto_region 12 with fail
    clear n0 n1 n2 n3
    obtain ⟨c0, c1, c2, c3⟩ := HR3.out.cells
    have l0 := HR3.out.lt
    go_wp2_with fail
    refine (HK1.out _).mono ?_
    rintro e w4 ⟨⟨aa, k1, rfl, o1⟩, b4⟩
    have HR4 := Lib.hid (HR3.out.below b4 HR3.out.lt)
    have HB4 := Lib.hid (HB3.out.trans (b4.mono HB3.out.size))
    have HO1 := Lib.hid o1
    clear b4 o1 c0 c1 c2 c3 l0 HR3 HB3
    obtain ⟨c0, c1, c2, c3⟩ := HR4.out.cells
    have l0 := HR4.out.lt
    go_wp2_with fail
    refine (HK2.out _).mono ?_
    rintro e w5 ⟨⟨ab, k2, rfl, o2⟩, b5⟩
    have HR5 := Lib.hid (HR4.out.below b5 HR4.out.lt)
    have HB5 := Lib.hid (HB4.out.trans (b5.mono HB4.out.size))
    have HO3 := Lib.hid (HO1.out.below b5)
    have HO4 := Lib.hid o2
    clear b5 o2 c0 c1 c2 c3 l0 HR4 HB4 HO1
    have hL : L.length ≤ 1024 := HT.out.len
    go_wp2_with fail
    refine (rgs_equal aa ab k1 k2 L _ HO3.out HO4.out).mono ?_
    rintro e w6 ⟨rfl, b6⟩
    have HR6 := Lib.hid (HR5.out.below b6 HR5.out.lt)
    have HB6 := Lib.hid (HB5.out.trans (b6.mono HB5.out.size))
    have HO6 := Lib.hid (HO3.out.below b6)
    clear b6 HR5 HB5 HO3 HO4
    go_wp2_with fail
    go_loopw [14, 16, 112] (fun n _ i wr => ∃ k : Nat, k ≤ L.length ∧ i = .int .i64 k ∧ n = .int .i64 (arN L k) ∧ Below w6.heap.size w6 wr) (fun _ _ i _ => L.length - (intOf i).toNat)
    case atStart => exact ⟨0, by omega, rfl, by rw [arN_zero], Below.refl _ _⟩
    case round =>
      obtain ⟨k, hk, rfl, rfl, B⟩ := hrel
      have HBL := Lib.hid B
      obtain ⟨a1, a2⟩ := arN_bd HT.out k hk
      by_cases hlt : k < L.length
      · rcases HO6.out.2 with hnil | ⟨g, rfl, hg, hcl⟩
        · subst hnil; exact absurd hlt (by simp)
        obtain ⟨p0, p1, p2, p3⟩ := hcl k hlt
        have d0 := (B.cell (p := ⟨g, k * 4, none⟩) hg).trans p0
        have d1 := (B.cell (p := ⟨g, k * 4 + 1, none⟩) hg).trans p1
        have d2 := (B.cell (p := ⟨g, k * 4 + 2, none⟩) hg).trans p2
        have d3 := (B.cell (p := ⟨g, k * 4 + 3, none⟩) hg).trans p3
        obtain ⟨m1, m2, m3, m4⟩ := HT.out.bd k hlt
        have HS := Lib.hid (arN_succ L k hlt)
        have m5 := Int.mul_nonneg (show 0 ≤ (rAt L k).2.2.1 by omega) (show 0 ≤ (rAt L k).2.2.2 by omega)
        have m6 := Int.mul_le_mul m2 m4 (by omega) (by omega)
        clear p0 p1 p2 p3 hcl B
        generalize (rAt L k).1 = r0 at *
        generalize (rAt L k).2.1 = r1 at *
        generalize (rAt L k).2.2.1 = r2 at *
        generalize (rAt L k).2.2.2 = r3 at *
        generalize hpr : r2 * r3 = pr at *
        generalize arN L k = S at *
        go_wp2_with fail
        go_roundw
        case rel => exact ⟨k + 1, by omega, by go_num, by rw [HS.out], by have h := HBL.out; exact (by have hszz := h.size; repeat (first | with_reducible exact h | with_reducible apply Below.drew | with_reducible refine below_drewN ?_ _ | (with_reducible refine Below.setCell ?_ ?_ _; rotate_left; focus (first | omega | (simp <;> omega))) | (with_reducible refine Below.alloc ?_ ?_ _; rotate_left; focus (first | omega | (simp <;> omega)))))⟩
        case measure => simp [intOf]; omega
      · obtain rfl : k = L.length := by omega
        rw [arN_all] at *
        have R7 := HR6.out.below B HR6.out.lt
        have HB7 := Lib.hid (HB6.out.trans (B.mono HB6.out.size))
        obtain ⟨c0, c1, c2, c3⟩ := R7.cells
        have l0 := R7.lt
        clear R7 B HBL
        by_cases hC : C = 0
        · obtain ⟨t1, t2, t3, t4, t5, t6⟩ := HT.out.sum hC
          rw [t1]
          have t7 := Int.mul_nonneg (show 0 ≤ W by omega) (show 0 ≤ H by omega)
          subst hC
          clear t1 a1 a2 HT HK1 HK2
          generalize hwh : W * H = wh at *
          go_wp2_with fail
          go_ret
          exact ⟨rfl, HB7.out⟩
        · clear a1 a2 HT HK1 HK2
          go_wp2_with fail
          go_ret
          exact ⟨rfl, HB7.out⟩

theorem wf_bd {x : Int} (h : (Lit.int .i64 x).wf = true) : -9223372036854775808 ≤ x ∧ x ≤ 9223372036854775807 := by
  change (decide (IntKind.i64.min ≤ x) && decide (x ≤ IntKind.i64.max)) = true at h
  rw [show IntKind.i64.min = -9223372036854775808 from by rfl, show IntKind.i64.max = 9223372036854775807 from by rfl, Bool.and_eq_true] at h
  exact ⟨of_decide_eq_true h.1, of_decide_eq_true h.2⟩
theorem tiles_law' (X Y W H s x y : Int) (w : World) (hx : (Lit.int .i64 x).wf = true) (hy : (Lit.int .i64 y).wf = true) :
    Calls Try.prog 3 #[reg X Y W H, .int .i64 s, .int .i64 x, .int .i64 y] w fun e w' => e = .returned (.bool true) ∧ Below w.heap.size w w' :=
  tiles_law X Y W H s x y w (wf_bd hx) (wf_bd hy)
end Go.Proofs.Ytnfebeebjelgbaa
