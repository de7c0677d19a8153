import Derived.Test.YtnfebeebjelgbaaBrushLaw
import Derived.Test.YtnfebeebjelgbaaAgg5
namespace Go.Proofs.Ytnfebeebjelgbaa
open Go.ChangeShapes Go.WideShapes Go.ChangeAt Go.RowKit
open Ieee.Format (fin finE htE allFin allHt all_true all_false mulF subF addF Ht Bd divF rootF floorF easeF mixF)
set_option linter.unusedVariables false

theorem brushes_law (k BX BY R : Int) (H : Nat) (X Y A B : Int) (a : Option Addr) (l : List Nat) (cap : Nat) (px py : Int) (w : World) (hl : Row63 w a l) (hH : H < 4294967296) :
    Calls Try.prog 10 #[brushV k BX BY R H, fldV X Y A B a l.length cap, .int .i64 px, .int .i64 py] w fun e w' => e = .returned (.bool true) ∧ Below w.heap.size w w' := by
  have KE1 := Lib.hid (fun w => refcheck_brush k BX BY R H w hH)
  have KE2 := Lib.hid (fun w => check_brush k BX BY R H w hH)
  by_cases hz : brushE k BX BY R H = 0
  · have KX := Lib.hid (fun w => Box_ok k BX BY R H w hH hz)
    obtain ⟨_, _, p, r1, r2, hH'⟩ := brush_zero hz
    by_cases hp : -4194304 ≤ px ∧ px ≤ 4194304 ∧ -4194304 ≤ py ∧ py ≤ 4194304
    · have hok : BrushOk BX BY R px py := ⟨p, by omega, r1, r2⟩
      have KW := Lib.hid (fun w => Weight_in k BX BY R H px py w hH hz (placeE_of hp) hok)
      have KV := Lib.hid (fun w => refweight_any k BX BY R px py H w hok)
      have KY := Lib.hid (fun w => brushbox_any k BX BY R H w p r1 r2)
      have KI := Lib.hid (fun w => refinside_one (BX - R + 1) (BY - R + 1) (2 * R - 1) (2 * R - 1) px py w (by omega) (by omega) (by omega) (by omega) (by omega) (by omega) (by omega) (by omega))
      rw [hz] at KE1 KE2
      have hs := weight_share (k := k) (d := sqD px py BX BY) (R := R) (by have := sqD_bd hok.p hok.q; unfold sqD; omega) r1 r2
      exact brushes_in k BX BY R H X Y A B a l cap px py w hl hH (BX - R + 1) (BY - R + 1) (2 * R - 1) (2 * R - 1) (weightF k (sqD px py BX BY) R) (decide (inR (BX - R + 1) (BY - R + 1) (2 * R - 1) (2 * R - 1) px py)) hp hs (fun h => out_box r1 (of_decide_eq_false h)) KE1 KE2 KW KI KV KY KX
    · have KW := Lib.hid (fun w => Weight_out k BX BY R H px py w hH hz (placeE_bad hp))
      rw [hz] at KE1 KE2
      exact brushes_out k BX BY R H X Y A B a l cap px py w hl hH (BX - R + 1) (BY - R + 1) (2 * R - 1) (2 * R - 1) hp KE1 KE2 KW KX
  · have KW := Lib.hid (fun w => Weight_bad k BX BY R H px py w hH hz)
    have KX := Lib.hid (fun w => Box_bad k BX BY R H w hH hz)
    exact brushes_bad k BX BY R H X Y A B a l cap px py w hl hH _ hz KE1 KE2 KW KX
end Go.Proofs.Ytnfebeebjelgbaa
