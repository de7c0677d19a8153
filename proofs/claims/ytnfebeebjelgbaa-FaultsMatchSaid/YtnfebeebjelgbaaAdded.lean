import Derived.Test.YtnfebeebjelgbaaSelOp
import Derived.Deep.RegionHeld3
namespace Go.Proofs.Ytnfebeebjelgbaa
open Go.ChangeShapes Go.WideShapes Go.ChangeAt Go.RowKit
open Ieee.Format (fin finE htE allFin allHt all_true all_false mulF subF addF Ht Bd divF rootF floorF easeF mixF)
set_option linter.unusedVariables false

set_option maxRecDepth 100000 in
set_option maxHeartbeats 1000000 in
/-- the program's cells of added -/
theorem addedfn_any (gn : Nat) (caps : Array Value) (z : Nat) (x y : Int) (p q b o c pm k : Nat) (X Y W1 H1 : Int) (l : List Nat) (t : TypeId) (w : World) (h : CntSt w p q b o c X Y W1 H1 l k)
    (hm : Blk w pm #[.func (.func gn) #[] caps] t) (pmp : pm ≠ p) (eg : ∀ args w, (callFunc gn args).run Try.prog w = .ok (.enter gn args) w)
    (hf : ∀ W', But w.heap.size (fun j => j = p) w W' → Calls Try.prog gn (#[.int .i64 x, .int .i64 y, .float .f32 (l.getD k 0)] ++ caps) W' fun e w' => e = .returned (.float .f32 z) ∧ Below W'.heap.size W' w') :
    Calls Try.prog 214 #[.int .i64 x, .int .i64 y, .pointer (some ⟨p, 0, none⟩), .pointer (some ⟨pm, 0, none⟩), .pointer (some ⟨q, 0, none⟩)] w fun e w' => e = .returned (.float .f32 z) ∧ But w.heap.size (fun j => j = p) w w' ∧ CntAt w' p (k : Int) := by
  have HF := Lib.hid hf
  clear hf
  generalize hv0 : l.getD k 0 = v at *
  have HV0 := Lib.hid hv0
  clear hv0
  have hkc := h.cnt
  obtain ⟨cc, hcc⟩ : ∃ cc : Int, cc = (k : Int) - 1 := ⟨_, rfl⟩
  rw [← hcc] at hkc
  have HCC : Hid (cc + 1 = (k : Int)) := by unfold Hid; omega
  have hk1 : -1 ≤ cc := by omega
  have hk2 : cc ≤ 1099511627776 := by have := h.row.1.1; have := h.kl; omega
  have hk4 : (k : Int) < l.length := by have := h.kl; omega
  have hk5 : l.length ≤ 1099511627776 := h.row.1.1
  clear hcc
  have c0 : w.cell? ⟨p, 0, none⟩ = some (.int .i64 cc) := hkc.cell 0
  have cf : w.frozen? ⟨p, 0, none⟩ = false := hkc.frozen 0
  have hp1 := hkc.lt
  go_enter Try.func214, Try.ntmps214
  go_wp2_with fail
  rw [HCC.out]
  have HB0 := Lib.hid (But.setq (B := w.heap.size) (q := fun j => j = p) (w := w) (p := ⟨p, 0, none⟩) (.int .i64 k) rfl)
  have HC2 := Lib.hid (CntAt.setc hkc (k : Int))
  have HF2 := Lib.hid (h.fo.but HB0.out h.fo.lt h.qp)
  have HR2 := Lib.hid (h.row.but HB0.out h.bl h.bp)
  have d4 := HF2.out.cells.2.2.2.2
  have dr := SRow.at_ HR2.out h.kl
  rw [HV0.out] at dr
  have da := blk_cell1 hm HB0.out pmp
  have dp : (w.setCell ⟨p, 0, none⟩ (.int .i64 (k : Int))).cell? ⟨p, 0, none⟩ = some (.int .i64 (k : Int)) := HC2.out.cell 0
  have hz : w.heap.size ≤ (w.setCell ⟨p, 0, none⟩ (.int .i64 (k : Int))).heap.size := HB0.out.size
  have l1 := h.fo.lt
  have l2 := h.bl
  have l3 := hm.lt
  have hpl : Hid (p < (w.setCell ⟨p, 0, none⟩ (.int .i64 (k : Int))).heap.size) := HC2.out.lt
  clear h hm pmp c0 cf hkc hp1
  generalize w.setCell ⟨p, 0, none⟩ (.int .i64 (k : Int)) = W2 at *
  have hk6 : (0 : Int) ≤ k := by omega
  go_region_held3 (fun w' => w'.cell? ⟨q, 4, none⟩ = some (.slice (some ⟨b, o, none⟩) l.length c) ∧ w'.cell? ⟨p, 0, none⟩ = some (.int .i64 (k : Int)) ∧ w'.cell? ⟨b, o + k, none⟩ = some (.float .f32 v) ∧ w'.cell? ⟨pm, 0, none⟩ = some (.func (.func gn) #[] caps) ∧ Below W2.heap.size W2 w')
    (first
      | exact ⟨d4, dp, dr, da, (Below.refl _ _).drew⟩
      | (go_split_ands
         have hs := hb.size
         have hs2 := (show Below W2.heap.size W2 _ by assumption).size
         have hpl' := hpl.out
         refine ⟨?_, ?_, ?_, ?_, ?_⟩
         all_goals first
           | (rw [hb.cell (by simp; omega)]; assumption)
           | exact Below.trans (by assumption) (hb.mono (by omega)))
      | (go_split_ands; refine ⟨?_, ?_, ?_, ?_, ?_⟩ <;> assumption))
    (first | (go_at_fn gn; go_split_ands; refine (HF.out _ (HB0.out.trans ((But.of (show Below W2.heap.size W2 _ by assumption)).mono hz))).mono ?_; rintro e2 w2 ⟨rfl, hb⟩))
  rename_i w3 hHeld
  obtain ⟨_, _, _, _, hB⟩ := hHeld
  go_wp2_with fail
  go_ret
  exact ⟨rfl, HB0.out.trans ((But.of hB).mono hz), HC2.out.below hB hpl.out⟩
end Go.Proofs.Ytnfebeebjelgbaa
