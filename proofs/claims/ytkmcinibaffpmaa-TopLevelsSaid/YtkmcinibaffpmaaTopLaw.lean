import Derived.Test.YtkmcinibaffpmaaTopLoss
import Derived.BigQuiet
import Derived.Deep.QuietTactic
import Derived.Deep.DeepCutAuto
import Derived.Deep.RegionHeld3
namespace Go.Proofs.Ytkmcinibaffpmaa
open Go.ChangeShapes Go.WideShapes Go.ChangeAt Go.RowKit
open Ieee.Format (fin finE htE allFin allHt all_true all_false mulF subF addF Ht Bd divF rootF floorF easeF mixF)
set_option linter.unusedVariables false
open Ieee.Format (bits_mul mul_two dmag)

theorem wrap_small {j : Nat} (h : j ≤ 9) : wrap64 (j : Int) = (j : Int) ∧ IntKind.i64.wrap (j : Int) = (j : Int) ∧ IntKind.i64.wrap (((j + 1 : Nat) : Int) - 1) = (j : Int) ∧ (0 : Int) ≤ (j : Int) ∧ (j : Int) < ((j + 1 : Nat) : Int) ∧ j < j + 1 :=
  ⟨by unfold wrap64; omega, IntWalk.i64_in _ (by omega), by rw [IntWalk.i64_in _ (by omega)]; omega, by omega, by omega, by omega⟩
set_option maxRecDepth 100000 in
theorem toplevels_bad (X Y W H : Int) (a : Option Addr) (c : Nat) (l : List Nat) (many : Int) (w : World) (hl : Row63 w a l) (h : chkF X Y W H l ≠ 0) :
    Calls Try.prog 4 #[fldV X Y W H a l.length c, .int .i64 many] w fun e w' => e = .returned (.bool true) ∧ Below w.heap.size w w' := by
  have K1 := Lib.hid (fun W' h' => loss_bad X Y W H a c l many W' h' h)
  have K2 := Lib.hid (fun W' h' => pyr_bad X Y W H a c l many W' h' h)
  have HL := Lib.hid hl
  have hb : (chkF X Y W H l != 0) = true := by rw [bne_iff_ne]; exact h
  clear h hl
  generalize chkF X Y W H l = q at *
  go_enter Try.func4, Try.ntmps4
  go_wp2_with fail
  generalize hW0 : w.alloc (.cells #[.int .i64 X, .int .i64 Y, .int .i64 W, .int .i64 H, .slice a l.length c] 26) = W0 at *
  have F0 : Fld W0 w.heap.size X Y W H (.slice a l.length c) := by subst hW0; exact Fld.new _ _ _ _ _ _
  have B0 : Below w.heap.size w W0 := by subst hW0; exact (by repeat (first | with_reducible exact Below.refl _ _ | with_reducible apply Below.drew | with_reducible refine below_drewN ?_ _ | (with_reducible refine Below.setCell ?_ ?_ _; rotate_left; focus (first | omega | (simp <;> omega))) | (with_reducible refine Below.alloc ?_ ?_ _; rotate_left; focus (first | omega | (simp <;> omega)))))
  clear hW0
  refine (landedtop_bel _).mono ?_
  rintro e w1 ⟨rfl, b1⟩
  have F1 := F0.below b1 F0.lt
  have B1 := B0.trans (b1.mono B0.size)
  obtain ⟨c0, c1, c2, c3, c4⟩ := F1.cells
  have HB1 := Lib.hid B1
  have HF1 := Lib.hid F1
  clear b1 F0 B0 F1 B1
  go_wp2_with fail
  refine (K1.out _ (HL.out.below HB1.out)).mono ?_
  rintro e w2 ⟨rfl, b2⟩
  have F2 := HF1.out.below b2 HF1.out.lt
  have B2 := HB1.out.trans (b2.mono HB1.out.size)
  clear c0 c1 c2 c3 c4
  obtain ⟨c0, c1, c2, c3, c4⟩ := F2.cells
  have HB2 := Lib.hid B2
  have HF2 := Lib.hid F2
  clear b2 HF1 HB1 F2 B2
  go_wp2_with fail
  refine (K2.out _ (HL.out.below HB2.out)).mono ?_
  rintro e w3 ⟨rfl, b3⟩
  have HB3 := Lib.hid (HB2.out.trans (b3.mono HB2.out.size))
  clear b3
  go_wp2_with fail
  go_ret
  exact ⟨rfl, HB3.out⟩

set_option maxRecDepth 100000 in
set_option maxHeartbeats 1000000 in
theorem toplevels_right (v : Lv) (b o c : Nat) (many : Int) (w : World) (hl : SRow w (some ⟨b, o, none⟩) v.l) (h : v.ok) :
    Calls Try.prog 4 #[fldV v.X v.Y v.W v.H (some ⟨b, o, none⟩) v.l.length c, .int .i64 many] w fun e w' => e = .returned (.bool true) ∧ Below w.heap.size w w' := by
  have hm : v.le (mxF v.l) := mxF_le (X := v.X) (Y := v.Y) (W := v.W) (H := v.H) h.ht
  obtain ⟨fm, sm, ml, bm, _⟩ := mxF_ok v.l h.ht
  have p2 := Ieee.P2_lt (show (20 : Int) < 100 by omega)
  obtain ⟨f2m, v2m⟩ := mul_two fm sm (by grind)
  have kmul := fun w' => run_float_arith (P := Try.prog) w' .mul 29 .f32 _ _ _ (bits_mul Ieee.Format.const_2.1 fm)
  have K1 := Lib.hid (fun W' h' => loss_right v (mxF v.l) b o c many W' h' h hm fm sm bm)
  have K2 := Lib.hid (fun W' h' => pyr_right v (mxF v.l) b o c many W' h' h hm fm sm bm)
  have KO := Lib.hid (fun k he => lv_ok h hm fm sm bm k he)
  have K3 := Lib.hid (fun (u : Lv) b' c' W' h' hu hmu => pyr_right u (mxF v.l) b' 0 c' 1 W' h' hu hmu fm sm bm)
  have KX := Lib.hid (fun x (hx : LossOk (mxF v.l) x) => show (FloatKind.f32.format.order x (mulF 1073741824 (mxF v.l)) == some .gt) = false from
    (Ieee.single.order_gt hx.1 f2m).trans (decide_eq_false (by have := hx.2.2; grind)))
  have KA := Lib.hid (fun k (hk : k < v.l.length) => show ∃ D, floatToFloatBits .f32 (v.l.getD k 0) .f64 = some D ∧ D < 2 ^ 64 ∧ floatToFloatBits .f64 (dmag D) .f32 = some (mag (v.l.getD k 0)) ∧ fin Ieee.single (mxF (v.l.take k)) ∧ fin Ieee.single (mag (v.l.getD k 0)) from by
    have hx : v.l.getD k 0 ∈ v.l := by rw [List.getD_eq_getElem?_getD, List.getElem?_eq_getElem hk]; exact List.getElem_mem _
    obtain ⟨D, x1, x2, x3⟩ := mag_wide (h.ht _ hx).fin
    exact ⟨D, x1, x2, x3, (mxF_ok (v.l.take k) (fun x hx => h.ht x (List.mem_of_mem_take hx))).1, mag_fin (h.ht _ hx).fin⟩)
  have HL := Lib.hid hl
  have HM0 : Hid (mxF (v.l.take 0) = 0) := rfl
  have HME : Hid (mxF (v.l.take v.l.length) = mxF v.l) := Lib.hid (by rw [List.take_length])
  have hlen : v.l.length ≤ 1099511627776 := hl.1.1
  clear hl h hm fm sm bm ml p2 f2m v2m
  go_enter Try.func4, Try.ntmps4
  go_wp2_with fail
  generalize hW0 : w.alloc (.cells #[.int .i64 v.X, .int .i64 v.Y, .int .i64 (v.W : Int), .int .i64 (v.H : Int), .slice (some ⟨b, o, none⟩) v.l.length c] 26) = W0 at *
  have F0 : Fld W0 w.heap.size v.X v.Y v.W v.H (.slice (some ⟨b, o, none⟩) v.l.length c) := by subst hW0; exact Fld.new _ _ _ _ _ _
  have B0 : Below w.heap.size w W0 := by subst hW0; exact (by repeat (first | with_reducible exact Below.refl _ _ | with_reducible apply Below.drew | with_reducible refine below_drewN ?_ _ | (with_reducible refine Below.setCell ?_ ?_ _; rotate_left; focus (first | omega | (simp <;> omega))) | (with_reducible refine Below.alloc ?_ ?_ _; rotate_left; focus (first | omega | (simp <;> omega)))))
  clear hW0
  refine (landedtop_bel _).mono ?_
  rintro e w1 ⟨rfl, b1⟩
  have HF1 := Lib.hid (F0.below b1 F0.lt)
  have HB1 := Lib.hid (B0.trans (b1.mono B0.size))
  obtain ⟨c0, c1, c2, c3, c4⟩ := HF1.out.cells
  clear b1 F0 B0
  go_upto_region 3 with fail
  go_wp2_with fail
  refine (K1.out _ (HL.out.below HB1.out)).mono ?_
  rintro e w2 ⟨⟨q1, u1, rfl, h1⟩, b2⟩
  have HF2 := Lib.hid (HF1.out.below b2 HF1.out.lt)
  have HB2 := Lib.hid (HB1.out.trans (b2.mono HB1.out.size))
  have HS12 := b2.size
  clear c0 c1 c2 c3 c4 b2 HF1
  obtain ⟨c0, c1, c2, c3, c4⟩ := HF2.out.cells
  go_wp2_with fail
  refine (K2.out _ (HL.out.below HB2.out)).mono ?_
  rintro e w3 ⟨⟨q2, u2, rfl, h2⟩, b3⟩
  have HF3 := Lib.hid (HF2.out.below b3 HF2.out.lt)
  have HB3 := Lib.hid (HB2.out.trans (b3.mono HB2.out.size))
  clear c0 c1 c2 c3 c4 HF2
  rcases h1 with ⟨hq, rfl⟩ | ⟨rfl, n, g, cap, Z, rfl, n1, n2, hoz, hz⟩
  · have hb : (q1 != 0) = true := by rw [bne_iff_ne]; exact hq
    go_wp2_with fail
    go_ret
    exact ⟨rfl, HB3.out⟩
  rcases h2 with ⟨hq, _, rfl⟩ | ⟨rfl, m1, m2, B, L, hI, hL, hn⟩
  · have hb : (q2 != 0) = true := by rw [bne_iff_ne]; exact hq
    go_wp2_with fail
    go_ret
    exact ⟨rfl, HB3.out⟩
  obtain ⟨gr, cr, rfl, _⟩ := hI.val
  have hpos := hI.pos
  have HOZ := Lib.hid (hoz.below b3 hoz.lt.2)
  have HZ := Lib.hid hz
  have HI := Lib.hid hI
  have HLV := Lib.hid hL
  clear hoz hz hI hL b3
  obtain ⟨c0, c1, c2, c3, c4⟩ := HF3.out.cells
  go_upto_region 9 with fail
  go_loopw [9, 38] (fun av iv wr => ∃ k : Nat, k ≤ v.l.length ∧ iv = .int .i64 (k : Int) ∧ av = .float .f32 (mxF (v.l.take k)) ∧ wr = w3) (fun _ iv _ => v.l.length - (intOf iv).toNat)
  case atStart => exact ⟨0, by omega, rfl, by rw [HM0.out], rfl⟩
  case round =>
    obtain ⟨k, hk, rfl, rfl, rfl⟩ := hrel
    by_cases hlt : k < v.l.length
    · have hc := (HL.out.below HB3.out).at_ hlt
      obtain ⟨D, x1, x2, x3, f1, f2⟩ := KA.out k hlt
      have hs := mxF_succ v.l hlt
      have kmax := fun w ts t => run_max_singles w ts t f1 f2
      have ka := fun w => run_convert_float_float (P := Try.prog) w 29 44 .f32 .f64 (v.l.getD k 0) D (by kernel_rfl) Try.underlying44 x1
      have kc := fun w => run_convert_float_float (P := Try.prog) w 44 29 .f64 .f32 (dmag D) (mag (v.l.getD k 0)) (by kernel_rfl) Try.underlying29 x3
      have KS := Lib.hid (fun w => mathabs_any D x2 w)
      have HSS := Lib.hid hs
      clear hs x1 x2 x3 f1 f2
      generalize maxF (mxF (v.l.take k)) (mag (v.l.getD k 0)) = r at *
      generalize mag (v.l.getD k 0) = y at *
      generalize v.l.getD k 0 = x at *
      generalize dmag D = E at *
      have HREL : Hid (∃ k_1 : Nat, k_1 ≤ v.l.length ∧ Value.int .i64 ((k : Int) + 1) = .int .i64 (k_1 : Int) ∧ Value.float .f32 r = .float .f32 (mxF (v.l.take k_1)) ∧ wr = wr) := Lib.hid ⟨k + 1, by omega, by congr 1, by rw [HSS.out], rfl⟩
      clear HSS
      generalize mxF (v.l.take k) = g0 at *
      go_wp2_with fail
      refine (KS.out _).mono ?_
      rintro e w' ⟨rfl, rfl⟩
      go_wp2_with fail
      go_roundw
      case rel => exact HREL.out
      case measure => simp [intOf]; omega
    · obtain rfl : k = v.l.length := by omega
      rw [HME.out]
      generalize mxF v.l = mm at *
      clear HME HM0 KA
      go_upto_region 14 with fail
      go_loopw [51] (fun iv wx => ∃ k : Nat, k ≤ n ∧ iv = .int .i64 (k : Int) ∧ wx = wr) (fun iv _ => n - (intOf iv).toNat)
      case atStart => exact ⟨0, by omega, rfl, rfl⟩
      case round =>
        obtain ⟨k, hk, rfl, rfl⟩ := hrel
        by_cases hlt : k < n
        · have hkz : k < Z.length := by rw [HZ.out.1]; exact hlt
          have hc := (HOZ.out.row (by rw [HZ.out.1]; omega)).at_ hkz
          rw [Nat.zero_add] at hc
          have hX := KX.out (Z.getD k 0) (HZ.out.2.1 _ (by rw [List.getD_eq_getElem?_getD, List.getElem?_eq_getElem hkz]; exact List.getElem_mem _))
          generalize Z.getD k 0 = x at *
          generalize mulF 1073741824 mm = m2 at *
          go_wp2_with fail
          go_roundw
          case rel => exact ⟨k + 1, by omega, by go_num, by first | rfl | trivial⟩
          case measure => simp [intOf]; omega
        · obtain rfl : k = n := by omega
          obtain ⟨j, hj⟩ : ∃ j, L.length = j + 1 := ⟨L.length - 1, by omega⟩
          have hjl : j < L.length := by omega
          have eu := HLV.out.1 j hjl
          have hj9 : j ≤ 9 := by omega
          have hu := (KO.out j (fun i hi => HLV.out.2 i (by omega))).1
          have hmu := (KO.out j (fun i hi => HLV.out.2 i (by omega))).2.1
          clear hn
          have hgt := fun t ht => HI.out.get rfl (i := j) hjl t ht
          have e0 := hgt 0 (by omega)
          have e1 := hgt 1 (by omega)
          have e2 := hgt 2 (by omega)
          have e3 := hgt 3 (by omega)
          have e4 := hgt 4 (by omega)
          have hrow := HI.out.rows (feAt L j) (by rw [feAt_eq hjl]; exact List.getElem_mem _)
          unfold feC at e0 e1 e2 e3 e4
          rw [eu] at e0 e1 e2 e3 e4 hrow
          simp only [Nat.add_zero] at e0
          simp at e0 e1 e2 e3 e4
          have lgr := (HI.out.own.lt gr rfl).2
          generalize (feAt L j).2.1 = gu at *
          generalize (feAt L j).2.2 = cu at *
          have K4 := Lib.hid (K3.out (lv v j) gu cu wr hrow.2.2 hu hmu)
          have HU := Lib.hid hu
          have HR := Lib.hid hrow
          have hk0 : (0 : Int) < (k : Int) := by omega
          have hk1 : 0 < k := by omega
          clear hgt hu hmu hrow eu HI HLV KO K1 K2 K3 KX kmul HF3
          generalize lv v j = u at *
          have hz := (HOZ.out.row (by rw [HZ.out.1]; omega)).at_ (k := 0) (by rw [HZ.out.1]; omega)
          rw [HZ.out.2.2] at hz
          simp at hz
          have lgz := HOZ.out.lt.2
          rw [hj] at *
          clear hj hjl hpos
          go_wp2_with fail
          refine K4.out.mono ?_
          rintro e w4 ⟨⟨q3, u3, rfl, h3⟩, b4⟩
          rcases h3 with ⟨_, h3, _⟩ | ⟨rfl, _, _, B4, L4, hI4, hL4, hn4⟩
          · exact absurd rfl h3
          obtain ⟨g4, cr4, rfl, _⟩ := hI4.val
          have hL41 : L4.length = 1 := by omega
          have eu4 : (feAt L4 0).1 = u := hL4.1 0 (by omega)
          have e5 := hI4.get rfl (i := 0) (by omega) 4 (by omega)
          have hrow4 := hI4.rows (feAt L4 0) (by rw [feAt_eq (show 0 < L4.length by omega)]; exact List.getElem_mem _)
          have lg4 := (hI4.own.lt g4 rfl).2
          unfold feC at e5
          rw [eu4] at e5 hrow4
          simp at e5
          generalize (feAt L4 0).2.1 = g5 at *
          generalize (feAt L4 0).2.2 = c5 at *
          rw [hL41]
          have hz4 := (b4.cell lgz).trans hz
          have e44 := (b4.cell (p := ⟨gr, j * 5 + 4, none⟩) lgr).trans e4
          have KE := Lib.hid (fun W hW hW' => fls_equal (some ⟨g5, 0, none⟩) (some ⟨gu, 0, none⟩) c5 cu u.l W hW hW' (fun x hx => (HU.out.ht x hx).fin) HR.out.1)
          have lgz4 := Nat.lt_of_lt_of_le lgz b4.size
          have lgr4 := Nat.lt_of_lt_of_le lgr b4.size
          have HR1 := Lib.hid (hrow4.2.2)
          have HR2 := Lib.hid (HR.out.2.2.below b4)
          have HB4 := Lib.hid (HB3.out.trans (b4.mono HB3.out.size))
          clear hI4 hL4 hrow4 eu4 e0 e1 e2 e3 e4 hz b4 HU HR HOZ HZ K4 HB3
          have z0 : (FloatKind.f32.format.order 0 0 == some .eq) = true := by decide
          obtain ⟨q1, q2, q3, hj0, hj1, hj2⟩ := wrap_small hj9
          generalize j + 1 = N at *
          go_upto_region 20 with fail
          go_region_held3 (fun w' => w'.cell? ⟨g, 0, none⟩ = some (.float .f32 0) ∧ w'.cell? ⟨g4, 4, none⟩ = some (.slice (some ⟨g5, 0, none⟩) u.l.length c5) ∧ w'.cell? ⟨gr, j * 5 + 4, none⟩ = some (.slice (some ⟨gu, 0, none⟩) u.l.length cu) ∧ Below w4.heap.size w4 w')
            (first
              | exact ⟨hz4, e5, e44, (Below.refl _ _).drew⟩
              | (go_split_ands
                 have hs := hb.size
                 have hs2 := (show Below w4.heap.size w4 _ by assumption).size
                 refine ⟨?_, ?_, ?_, ?_⟩
                 all_goals first
                   | (rw [hb.cell (by simp; omega)]; assumption)
                   | exact Below.trans (by assumption) (hb.mono (by omega)))
              | (go_split_ands; refine ⟨?_, ?_, ?_, ?_⟩ <;> assumption))
            ((go_at_call 26; go_split_ands; refine (KE.out _ (HR1.out.below (by assumption)) (HR2.out.below (by assumption))).mono ?_; rintro e2 w5 ⟨rfl, hb⟩))
          rename_i hHeld
          have HBE := Lib.hid (HB4.out.trans (hHeld.2.2.2.mono HB4.out.size))
          clear hHeld
          go_wp2_with fail
          go_ret
          exact ⟨rfl, HBE.out⟩
theorem toplevels_law (X Y W H : Int) (a : Option Addr) (l : List Nat) (c : Nat) (many : Int) (w : World) (hl : Row63 w a l) :
    Calls Try.prog 4 #[fldV X Y W H a l.length c, .int .i64 many] w fun e w' => e = .returned (.bool true) ∧ Below w.heap.size w w' := by
  by_cases h : chkF X Y W H l = 0
  · obtain ⟨Wn, Hn, rfl, rfl, hr⟩ := right_of h
    have hlen : l.length ≤ 65536 := by rw [hr.len, Nat.mul_comm]; exact hr.wh
    have hs := hl.srow hlen
    rcases hs.2 with h0 | ⟨b, o, rfl, _⟩
    · exact absurd h0 hr.ne
    · exact toplevels_right ⟨X, Y, Wn, Hn, l⟩ b o c many w hs hr
  · exact toplevels_bad X Y W H a c l many w hl h
end Go.Proofs.Ytkmcinibaffpmaa

