import Derived.Test.YtnfebeebjelgbaaBlendFn
import Derived.Deep.RegionHeld3
namespace Go.Proofs.Ytnfebeebjelgbaa
open Go.ChangeShapes Go.WideShapes Go.ChangeAt Go.RowKit
open Ieee.Format (fin finE htE allFin allHt all_true all_false mulF subF addF Ht Bd divF rootF floorF easeF mixF)
set_option linter.unusedVariables false

def mixV (A B S : List Nat) (X Y : Int) (Wn : Nat) (x y : Int) : Nat := mixF (A.getD (cellNo X Y Wn x y).toNat 0) (B.getD (cellNo X Y Wn x y).toNat 0) (S.getD (cellNo X Y Wn x y).toNat 0)
theorem madeL_mix (A B S : List Nat) (X Y : Int) (Wn Hn : Nat) (hl : A.length = Hn * Wn) : madeL (mixV A B S X Y Wn) X Y Wn (Hn * Wn) = mixL A B S := by
  unfold madeL mixL
  rw [hl]
  refine List.map_congr_left fun k hk => ?_
  have e : (cellNo X Y Wn (X + ((k % Wn : Nat) : Int)) (Y + ((k / Wn : Nat) : Int))).toNat = k := by
    unfold cellNo
    have := Nat.div_add_mod k Wn
    have h : (Y + ((k / Wn : Nat) : Int) - Y) * (Wn : Int) = ((Wn * (k / Wn) : Nat) : Int) := by
      rw [show Y + ((k / Wn : Nat) : Int) - Y = ((k / Wn : Nat) : Int) from by omega, Int.natCast_mul, Int.mul_comm]
    rw [h]
    omega
  unfold mixV
  rw [e]

set_option maxRecDepth 100000 in
set_option maxHeartbeats 1000000 in
theorem refblendfn_any (X Y : Int) (Wn Hn : Nat) (x y : Int) (ba oa ca bb ob cb bs os cs qa qb qs : Nat) (A B S : List Nat) (w : World) (ha : SRow w (some ⟨ba, oa, none⟩) A) (hb : SRow w (some ⟨bb, ob, none⟩) B) (hs : SRow w (some ⟨bs, os, none⟩) S)
    (ra : Right X Y Wn Hn A) (rb : Right X Y Wn Hn B) (rs : Right X Y Wn Hn S) (hw : S.any noWt = false) (hx : X ≤ x) (hx' : x < X + Wn) (hy : Y ≤ y) (hy' : y < Y + Hn)
    (fa : Fld w qa X Y Wn Hn (.slice (some ⟨ba, oa, none⟩) A.length ca)) (fb : Fld w qb X Y Wn Hn (.slice (some ⟨bb, ob, none⟩) B.length cb)) (fs : Fld w qs X Y Wn Hn (.slice (some ⟨bs, os, none⟩) S.length cs)) :
    Calls Try.prog 118 #[.int .i64 x, .int .i64 y, .pointer (some ⟨qa, 0, none⟩), .pointer (some ⟨qb, 0, none⟩), .pointer (some ⟨qs, 0, none⟩)] w fun e w' => e = .returned (.float .f32 (mixV A B S X Y Wn x y)) ∧ Below w.heap.size w w' := by
  have KA := Lib.hid (fun w hl => at_right X Y Wn Hn x y ba oa ca A w hl ra hx hx' hy hy')
  have KB := Lib.hid (fun w hl => at_right X Y Wn Hn x y bb ob cb B w hl rb hx hx' hy hy')
  have KS := Lib.hid (fun w hl => at_right X Y Wn Hn x y bs os cs S w hl rs hx hx' hy hy')
  have hkn : Hid ((cellNo X Y Wn x y).toNat < S.length) := by
    have e := rs.len
    obtain ⟨p, hp⟩ : ∃ p : Nat, (p : Int) = y - Y := ⟨(y - Y).toNat, by omega⟩
    obtain ⟨r, hr⟩ : ∃ r : Nat, (r : Int) = x - X := ⟨(x - X).toNat, by omega⟩
    have h3 : (p + 1) * Wn ≤ Hn * Wn := Nat.mul_le_mul_right _ (by omega)
    rw [Nat.add_mul, Nat.one_mul] at h3
    unfold Hid cellNo
    rw [← hp, ← Int.natCast_mul, e]
    omega
  have KM := Lib.hid (fun w => lerp_any 20 (A.getD (cellNo X Y Wn x y).toNat 0) (B.getD (cellNo X Y Wn x y).toNat 0) (S.getD (cellNo X Y Wn x y).toNat 0) w (Ieee.Format.Ht.bd (ra.getD _)) (Ieee.Format.Ht.bd (rb.getD _)) (wt_bd (Ieee.Format.Ht.bd (rs.getD _)).1 (by
    have hall := hw
    rw [List.any_eq_false] at hall
    have := hall (S.getD (cellNo X Y Wn x y).toNat 0) (by rw [List.getD_eq_getElem?_getD, List.getElem?_eq_getElem hkn.out]; exact List.getElem_mem hkn.out)
    simpa using this)) (by omega))
  have HA := Lib.hid ha
  have HB := Lib.hid hb
  have HS := Lib.hid hs
  obtain ⟨a0, a1, a2, a3, a4⟩ := fa.cells
  obtain ⟨b0, b1, b2, b3, b4⟩ := fb.cells
  obtain ⟨s0, s1, s2, s3, s4⟩ := fs.cells
  have la := fa.lt
  have lb := fb.lt
  have ls := fs.lt
  unfold mixV
  clear ha hb hs ra rb rs hw hx hx' hy hy' fa fb fs hkn
  generalize (cellNo X Y Wn x y).toNat = k at *
  generalize hz : mixF (A.getD k 0) (B.getD k 0) (S.getD k 0) = z at *
  clear hz
  generalize A.getD k 0 = va at *
  generalize B.getD k 0 = vb at *
  generalize S.getD k 0 = vs at *
  go_enter Try.func118, Try.ntmps118
  go_wp2_with fail
  go_region_held3 (fun w' => w'.cell? ⟨qa, 0, none⟩ = some (.int .i64 X) ∧ w'.cell? ⟨qa, 1, none⟩ = some (.int .i64 Y) ∧ w'.cell? ⟨qa, 2, none⟩ = some (.int .i64 Wn) ∧ w'.cell? ⟨qa, 3, none⟩ = some (.int .i64 Hn) ∧ w'.cell? ⟨qa, 4, none⟩ = some (.slice (some ⟨ba, oa, none⟩) A.length ca) ∧ w'.cell? ⟨qb, 0, none⟩ = some (.int .i64 X) ∧ w'.cell? ⟨qb, 1, none⟩ = some (.int .i64 Y) ∧ w'.cell? ⟨qb, 2, none⟩ = some (.int .i64 Wn) ∧ w'.cell? ⟨qb, 3, none⟩ = some (.int .i64 Hn) ∧ w'.cell? ⟨qb, 4, none⟩ = some (.slice (some ⟨bb, ob, none⟩) B.length cb) ∧ w'.cell? ⟨qs, 0, none⟩ = some (.int .i64 X) ∧ w'.cell? ⟨qs, 1, none⟩ = some (.int .i64 Y) ∧ w'.cell? ⟨qs, 2, none⟩ = some (.int .i64 Wn) ∧ w'.cell? ⟨qs, 3, none⟩ = some (.int .i64 Hn) ∧ w'.cell? ⟨qs, 4, none⟩ = some (.slice (some ⟨bs, os, none⟩) S.length cs) ∧ Below w.heap.size w w')
    (first
      | exact ⟨a0, a1, a2, a3, a4, b0, b1, b2, b3, b4, s0, s1, s2, s3, s4, (Below.refl _ _).drew⟩
      | (go_split_ands
         have hsz := hb.size
         have hsz2 := (show Below w.heap.size w _ by assumption).size
         refine ⟨?_, ?_, ?_, ?_, ?_, ?_, ?_, ?_, ?_, ?_, ?_, ?_, ?_, ?_, ?_, ?_⟩
         all_goals first
           | (rw [hb.cell (by simp; omega)]; assumption)
           | exact Below.trans (by assumption) (hb.mono (by omega)))
      | (go_split_ands; refine ⟨?_, ?_, ?_, ?_, ?_, ?_, ?_, ?_, ?_, ?_, ?_, ?_, ?_, ?_, ?_, ?_⟩ <;> assumption))
    (first
      | (go_at_call 107; go_split_ands; with_reducible refine (KA.out _ (HA.out.below (by assumption))).mono ?_; rintro e2 w2 ⟨rfl, hb⟩)
      | (go_at_call 107; go_split_ands; with_reducible refine (KB.out _ (HB.out.below (by assumption))).mono ?_; rintro e2 w2 ⟨rfl, hb⟩)
      | (go_at_call 107; go_split_ands; with_reducible refine (KS.out _ (HS.out.below (by assumption))).mono ?_; rintro e2 w2 ⟨rfl, hb⟩)
      | (go_at_call 119; go_split_ands; refine (KM.out _).mono ?_; rintro e2 w2 ⟨rfl, rfl⟩))
  rename_i hHeld
  have HBH := Lib.hid (hHeld.2.2.2.2.2.2.2.2.2.2.2.2.2.2.2)
  clear hHeld
  go_wp2_with fail
  go_ret
  exact ⟨rfl, HBH.out⟩
end Go.Proofs.Ytnfebeebjelgbaa
