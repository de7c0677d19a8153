import Derived.Test.YtfmbekdfigbfiaaJF
import Derived.BigQuiet
import Derived.Deep.QuietTactic
import Derived.Deep.DeepCutAuto
import Derived.Deep.RegionHeld3
import Derived.Deep.AppendLies
import Derived.OwnWalk
import Derived.Deep.RegionLaw
import Derived.Lib.SliceRun
import Derived.Lib.SmallJoins
import Derived.OpenShut
import Derived.WalkLawsBesides
import Derived.Deep.Slices
import Derived.Deep.Fields
import Derived.ChangeSame
namespace Go.Proofs.Ytfmbekdfigbfiaa
open Go.ChangeShapes Go.WideShapes Go.ChangeAt Go.RowKit
open Ieee.Format (fin finE htE allFin allHt all_true all_false mulF subF addF Ht Bd divF rootF floorF easeF mixF)
set_option linter.unusedVariables false

/-- as OpP, the result's values in memory made since B -/
def OpBase (B : Nat) (c : Int) (X Y W H : Int) (m : List Nat) (w : World) (e : Ending) (w' : World) : Prop :=
  (∃ x y p q a n k, e = .returned (.tuple #[fldV x y p q a n k, .int .i64 c]) ∧ OutV c X Y W H m w' B x y p q a n k) ∧ Below w.heap.size w w'
theorem OpBase.err {B : Nat} {c X Y W H : Int} {m : List Nat} {w : World} {e : Ending} {w' : World} (hc : c ≠ 0) (he : e = .returned (.tuple #[fldV 0 0 0 0 none 0 0, .int .i64 c])) (hb : Below w.heap.size w w') : OpBase B c X Y W H m w e w' :=
  ⟨⟨0, 0, 0, 0, none, 0, 0, he, .inl ⟨hc, rfl, rfl, rfl, rfl, rfl, rfl, rfl⟩⟩, hb⟩
theorem out_code (m : List Nat) : outE m = if allHt m = true then 0 else 3 := by
  cases hh : allHt m
  · rw [if_neg (by decide)]
    unfold outE
    rw [if_neg (Ieee.Format.htE_ne hh)]
  · rw [if_pos rfl]
    unfold outE
    rw [Ieee.Format.htE_of_ht hh]
    rfl
theorem held_step {w2 W w5 : World} (h1 : Below w2.heap.size w2 W) (hb : Below W.heap.size W w5) : Below w2.heap.size w2 w5 := h1.trans (hb.mono h1.size)
theorem held_cell {w2 W w5 : World} (h1 : Below w2.heap.size w2 W) (hb : Below W.heap.size W w5) {p : Addr} {v : Value} (hp : p.block < w2.heap.size) (h : W.cell? p = some v) : w5.cell? p = some v := by
  rw [hb.cell (Nat.lt_of_lt_of_le hp h1.size)]; exact h
theorem held_set {w2 W : World} {k : Nat} (h1 : Below w2.heap.size w2 W) (hk : w2.heap.size ≤ k) (a b c d : Value) : Below w2.heap.size W ((((W.setCell ⟨k, 0, none⟩ a).setCell ⟨k, 1, none⟩ b).setCell ⟨k, 2, none⟩ c).setCell ⟨k, 3, none⟩ d) :=
  ((((Below.refl _ _).setCell hk _).setCell hk _).setCell hk _).setCell hk _
theorem set_cell {w2 W : World} {k : Nat} (h1 : Below w2.heap.size w2 W) (hk : w2.heap.size ≤ k) (a b c d : Value) {p : Addr} {v : Value} (hp : p.block < w2.heap.size) (h : W.cell? p = some v) : ((((W.setCell ⟨k, 0, none⟩ a).setCell ⟨k, 1, none⟩ b).setCell ⟨k, 2, none⟩ c).setCell ⟨k, 3, none⟩ d).cell? p = some v := by
  rw [(held_set h1 hk a b c d).cell hp]; exact h
theorem zreg {W : World} {k : Nat} (h : Reg W k 0 0 0 0) : k < W.heap.size ∧ W.cell? ⟨k, 0, none⟩ = some (.int .i64 0) ∧ W.cell? ⟨k, 1, none⟩ = some (.int .i64 0) ∧ W.cell? ⟨k, 2, none⟩ = some (.int .i64 0) ∧ W.cell? ⟨k, 3, none⟩ = some (.int .i64 0) ∧ W.frozen? ⟨k, 0, none⟩ = false ∧ W.frozen? ⟨k, 1, none⟩ = false ∧ W.frozen? ⟨k, 2, none⟩ = false ∧ W.frozen? ⟨k, 3, none⟩ = false :=
  ⟨h.lt, h.cell 0, h.cell 1, h.cell 2, h.cell 3, frozen_of_row W k 0 _ _ h, frozen_of_row W k 1 _ _ h, frozen_of_row W k 2 _ _ h, frozen_of_row W k 3 _ _ h⟩
theorem size_le {w2 W : World} (h1 : Below w2.heap.size w2 W) : w2.heap.size ≤ W.heap.size := h1.size
theorem first_cell {w2 : World} {o : Obj} {p : Addr} {v : Value} (hp : p.block < w2.heap.size) (h : w2.cell? p = some v) : ((w2.alloc o).drew).cell? p = some v := by
  have hA : Below w2.heap.size w2 ((w2.alloc o).drew) := ((Below.refl _ _).alloc (Nat.le_refl _) _).drew
  rw [hA.cell hp]; exact h
theorem first_step {w2 : World} {o : Obj} : Below w2.heap.size w2 ((w2.alloc o).drew) := ((Below.refl _ _).alloc (Nat.le_refl _) _).drew
theorem late_cell {w2 W : World} {o : Obj} (h1 : Hid (Below w2.heap.size w2 W)) {p : Addr} {v : Value} (hp : p.block < w2.heap.size) (h : w2.cell? p = some v) : (W.alloc o).cell? p = some v := by
  have hA : Below w2.heap.size w2 (W.alloc o) := h1.out.alloc h1.out.size _
  rw [hA.cell hp]; exact h
theorem late_step {w2 W : World} {o : Obj} (h1 : Hid (Below w2.heap.size w2 W)) : Below w2.heap.size w2 (W.alloc o) := h1.out.alloc h1.out.size _
set_option maxRecDepth 100000 in
set_option maxHeartbeats 8000000 in
theorem refapply_any (L : List Ed) (ea : Option Addr) (ecap : Nat) (X Y : Int) (Wn Hn g cap B : Nat) (l : List Nat) (w : World) (hr : Right X Y Wn Hn l) (ho : OwnF w B g cap l) (hB : B ≤ w.heap.size) (hE : EdRow w ea L) (hn : L.length ≤ 12) (hx0 : -4000000 ≤ X) (hx1 : X ≤ 4000000) (hy0 : -4000000 ≤ Y) (hy1 : Y ≤ 4000000) :
    Calls Try.prog 26 #[fldV X Y Wn Hn (some ⟨g, 0, none⟩) l.length cap, .slice ea L.length ecap] w fun e w' =>
      OpBase B (appE L Wn Hn (curF L X Y Wn Hn (cur0 X Y Wn l) L.length).l) (curF L X Y Wn Hn (cur0 X Y Wn l) L.length).X (curF L X Y Wn Hn (cur0 X Y Wn l) L.length).Y (curF L X Y Wn Hn (cur0 X Y Wn l) L.length).W (curF L X Y Wn Hn (cur0 X Y Wn l) L.length).H (curF L X Y Wn Hn (cur0 X Y Wn l) L.length).l w e w' := by
  have HE := Lib.hid hE
  have KC := Lib.hid (fun w h => editsError_list L ea ecap w h (by omega))
  unfold appE
  by_cases he : edsE L = 0
  · rw [he] at KC
    rw [if_neg (show ¬ edsE L ≠ 0 by omega)]
    have KS := Lib.hid (fun w h => refsoftens_any L ea ecap w h (by omega))
    have hsn : softN L ≤ 12 := by have := softN_le L; omega
    have w1 := hr.w1; have w2 := hr.w2; have h1 := hr.h1; have h2 := hr.h2
    by_cases hs : Wn ≤ 2 * softN L ∨ Hn ≤ 2 * softN L
    · rw [if_pos hs]
      have HQ := Lib.hid (fun e w' h1 h2 => OpBase.err (B := B) (c := 10) (X := (curF L X Y Wn Hn (cur0 X Y Wn l) L.length).X) (Y := (curF L X Y Wn Hn (cur0 X Y Wn l) L.length).Y) (W := (curF L X Y Wn Hn (cur0 X Y Wn l) L.length).W) (H := (curF L X Y Wn Hn (cur0 X Y Wn l) L.length).H) (m := (curF L X Y Wn Hn (cur0 X Y Wn l) L.length).l) (w := w) (e := e) (w' := w') (by decide) h1 h2)
      have KI := Lib.hid (fun W => refinner_no X Y Wn Hn (some ⟨g, 0, none⟩) l.length cap (softN L) W w1 w2 h1 h2 (by omega) hx0 hx1 hy0 hy1 (by omega))
      generalize curF L X Y Wn Hn (cur0 X Y Wn l) L.length = u at *
      generalize softN L = n at *
      clear hr ho hE he hs w1 h1 hsn hx0 hx1 hy0 hy1
      go_enter Try.func26, Try.ntmps26
      go_wp2_with fail
      generalize hW0 : (w.alloc (.cells #[.int .i64 X, .int .i64 Y, .int .i64 Wn, .int .i64 Hn, .slice (some ⟨g, 0, none⟩) l.length cap] 26)).alloc (.cells #[.int .i64 0, .int .i64 0, .int .i64 0, .int .i64 0, .slice none 0 0] 26) = W0 at *
      obtain ⟨E0, F0, B0, z0⟩ := two_fields w X Y Wn Hn (.slice (some ⟨g, 0, none⟩) l.length cap) W0 hW0.symm
      clear hW0
      refine (KC.out _ (HE.out.below B0)).mono ?_
      rintro e w2 ⟨rfl, b2⟩
      have HX2 := Lib.hid (E0.below b2 E0.lt)
      have HF2 := Lib.hid (F0.below b2 F0.lt)
      have HB2 := Lib.hid (B0.trans (b2.mono B0.size))
      clear b2 E0 F0 B0 z0
      obtain ⟨c0, c1, c2, c3, c4⟩ := HX2.out.cells
      have lx := HX2.out.lt
      go_upto_region 4 with fail
      go_cut [8] (fun v wx => v = .int .i64 10 ∧ Below w2.heap.size w2 wx)
      case first =>
        go_region_held3 (fun w' => w'.cell? ⟨w.heap.size, 0, none⟩ = some (.int .i64 X) ∧ w'.cell? ⟨w.heap.size, 1, none⟩ = some (.int .i64 Y) ∧ w'.cell? ⟨w.heap.size, 2, none⟩ = some (.int .i64 Wn) ∧ w'.cell? ⟨w.heap.size, 3, none⟩ = some (.int .i64 Hn) ∧ w'.cell? ⟨w.heap.size, 4, none⟩ = some (.slice (some ⟨g, 0, none⟩) l.length cap) ∧ Below w2.heap.size w2 w')
          (first
            | exact ⟨c0, c1, c2, c3, c4, (Below.refl _ _).drew⟩
            | (go_split_ands
               refine ⟨?_, ?_, ?_, ?_, ?_, ?_⟩
               all_goals first
                 | with_reducible exact held_cell (by with_reducible assumption) hb lx (by with_reducible assumption)
                 | with_reducible exact held_step (by with_reducible assumption) hb)
            | (go_split_ands
               refine ⟨?_, ?_, ?_, ?_, ?_, ?_⟩
               all_goals first
                 | with_reducible exact held_cell (by with_reducible assumption) ((Below.refl _ _).alloc (Nat.le_refl _) _) lx (by with_reducible assumption)
                 | with_reducible exact held_step (by with_reducible assumption) ((Below.refl _ _).alloc (Nat.le_refl _) _))
            | (go_split_ands
               refine ⟨?_, ?_, ?_, ?_, ?_, ?_⟩
               all_goals first
                 | with_reducible exact first_cell lx (by with_reducible assumption)
                 | with_reducible exact first_step)
            | (go_split_ands
               refine ⟨?_, ?_, ?_, ?_, ?_, ?_⟩
               all_goals first
                 | with_reducible exact set_cell (by with_reducible assumption) (by first | with_reducible exact Nat.le_refl _ | with_reducible assumption | with_reducible exact size_le (by with_reducible assumption)) _ _ _ _ lx (by with_reducible assumption)
                 | with_reducible exact Below.trans (by with_reducible assumption) (held_set (by with_reducible assumption) (by first | with_reducible exact Nat.le_refl _ | with_reducible assumption | with_reducible exact size_le (by with_reducible assumption)) _ _ _ _))
            | (go_split_ands
               refine ⟨?_, ?_, ?_, ?_, ?_, ?_⟩
               all_goals first
                 | with_reducible exact late_cell HB6 lx (by with_reducible assumption)
                 | with_reducible exact late_step HB6)
            | (go_split_ands; refine ⟨?_, ?_, ?_, ?_, ?_, ?_⟩ <;> with_reducible assumption))
          (first
            | (go_at_call 89; go_split_ands; refine (KS.out _ (HE.out.below (HB2.out.trans ((show Below w2.heap.size w2 _ by with_reducible assumption).mono HB2.out.size)))).mono ?_; rintro e2 w5 ⟨rfl, hb⟩; (have hsz5 := Nat.le_trans (size_le (w2 := w2) (by with_reducible assumption)) hb.size); try (with_reducible have hz5 := Lib.hid (((Reg.new w2 0 0 0 0).drew).below hb (by simp))))
            | (go_at_call 88; go_split_ands; refine (KI.out _).mono ?_; rintro e2 w6 ⟨rfl, hb⟩; (have HB6 := Lib.hid (held_step (w2 := w2) (by with_reducible assumption) hb)); first | (with_reducible have hz6 := Lib.hid (hz5.out.below hb hz5.out.lt); obtain ⟨z1, z2, z3, z4, z5, z6, z7, z8, z9⟩ := zreg hz6.out) | (with_reducible have hz6 := Lib.hid ((Reg.new w5 0 0 0 0).below hb (by simp)); obtain ⟨z1, z2, z3, z4, z5, z6, z7, z8, z9⟩ := zreg hz6.out) | skip))
        all_goals
          rename_i hHeld
          have hHB := hHeld.2.2.2.2.2
          clear hHeld
          go_wp2_with fail
          go_meet
          exact ⟨rfl, hHB⟩
      case rest =>
        obtain ⟨rfl, bc⟩ := hcut
        have HX3 := Lib.hid (HX2.out.below bc HX2.out.lt)
        have HF3 := Lib.hid (HF2.out.below bc HF2.out.lt)
        have HB3 := Lib.hid (HB2.out.trans (bc.mono HB2.out.size))
        clear HX2 HF2 HB2 bc c0 c1 c2 c3 c4 lx
        obtain ⟨d0, d1, d2, d3, d4⟩ := HF3.out.cells
        have qf0 := HF3.out.frozen 0
        have qf1 := HF3.out.frozen 1
        have qf2 := HF3.out.frozen 2
        have qf3 := HF3.out.frozen 3
        have qf4 := HF3.out.frozen 4
        have lz := HF3.out.lt
        go_wp2_with fail
        have B3 := HB3.out
        exact bodyPost_ret (v := .tuple #[fldV 0 0 0 0 none 0 0, .int .i64 10]) (by simp [results, Try.results26, go_sem, *]) rfl (HQ.out _ _ rfl (by have hszz := B3.size; repeat (first | with_reducible exact B3 | with_reducible apply Below.drew | with_reducible refine below_drewN ?_ _ | (with_reducible refine Below.setCell ?_ ?_ _; rotate_left; focus (first | omega | (simp <;> omega))) | (with_reducible refine Below.alloc ?_ ?_ _; rotate_left; focus (first | omega | (simp <;> omega))))))
    · rw [if_neg hs]
      have OK : EdsOk L := ⟨hn, fun e he' => edE_ok (edsE_zero he e he'), hE.1.2⟩
      obtain ⟨f1, f2⟩ := cur0_facts hr ho.2
      have FA := Lib.hid (fun k hk => edsV_facts OK f1 f2 k hk)
      have SM := Lib.hid (fun k (hk : k ≤ L.length) => snk_mono hk)
      have x1 := hr.x1; have x2 := hr.x2; have y1 := hr.y1; have y2 := hr.y2
      have C0 := curF_zero L X Y Wn Hn l w1 hr.len
      have KI := Lib.hid (fun W => refinner_reg X Y Wn Hn (some ⟨g, 0, none⟩) l.length cap (softN L) W (by omega) w2 (by omega) h2 (by omega) (by omega) (by omega) (by omega) (by omega))
      have KE := Lib.hid (fun k (hk : k < L.length) b c x y W (hW : SRow W (some ⟨b, 0, none⟩) (curF L X Y Wn Hn (cur0 X Y Wn l) k).l) (hx : (curF L X Y Wn Hn (cur0 X Y Wn l) (k + 1)).X ≤ x) (hx2 : x < (curF L X Y Wn Hn (cur0 X Y Wn l) (k + 1)).X + (curF L X Y Wn Hn (cur0 X Y Wn l) (k + 1)).W) (hy : (curF L X Y Wn Hn (cur0 X Y Wn l) (k + 1)).Y ≤ y) (hy2 : y < (curF L X Y Wn Hn (cur0 X Y Wn l) (k + 1)).Y + (curF L X Y Wn Hn (cur0 X Y Wn l) (k + 1)).H) =>
        show Calls Try.prog 91 #[fldV (curF L X Y Wn Hn (cur0 X Y Wn l) k).X (curF L X Y Wn Hn (cur0 X Y Wn l) k).Y (curF L X Y Wn Hn (cur0 X Y Wn l) k).W (curF L X Y Wn Hn (cur0 X Y Wn l) k).H (some ⟨b, 0, none⟩) (curF L X Y Wn Hn (cur0 X Y Wn l) k).l.length c, edA (edAt L k), .int .i64 x, .int .i64 y] W fun en w' => en = .returned (.float .f32 (edsV (L.take (k + 1)) (cur0 X Y Wn l) x y)) ∧ Below W.heap.size W w' from by
        have s1 := SM.out (k + 1) (by omega)
        have s0 := snk_succ hk
        have fa := FA.out k (by omega)
        have hm := edAt_mem hk
        have sb : softB (edAt L k) ≤ 1 := by unfold softB; split <;> omega
        change X + (snk L (k + 1) : Int) ≤ x at hx
        change x < X + (snk L (k + 1) : Int) + ((Wn - 2 * snk L (k + 1) : Nat) : Int) at hx2
        change Y + (snk L (k + 1) : Int) ≤ y at hy
        change y < Y + (snk L (k + 1) : Int) + ((Hn - 2 * snk L (k + 1) : Nat) : Int) at hy2
        rw [edsV_take hk]
        refine refedited_any (edAt L k) (OK.ok _ hm) (edsV (L.take k) (cur0 X Y Wn l)) (X + snk L k) (Y + snk L k) (Wn - 2 * snk L k) (Hn - 2 * snk L k) b c (20 + 2 * k) x y W hW (by omega) (by omega) (by omega) (by omega) (by omega) (by omega) (by omega) (by omega) (by omega) (by omega) (by omega) (by omega) (fun h3 => ?_) fa.1 (by omega) (by omega)
        have : softB (edAt L k) = 1 := by unfold softB; rw [if_pos h3]
        omega)
      have LT := Lib.hid (fun k (hk : k ≤ L.length) x y => (FA.out k hk).2 x y)
      have UB := Lib.hid (fun k (hk : k ≤ L.length) => show 1 ≤ (curF L X Y Wn Hn (cur0 X Y Wn l) k).W ∧ (curF L X Y Wn Hn (cur0 X Y Wn l) k).W ≤ 512 ∧ 1 ≤ (curF L X Y Wn Hn (cur0 X Y Wn l) k).H ∧ (curF L X Y Wn Hn (cur0 X Y Wn l) k).H ≤ 512 ∧ -4194304 ≤ (curF L X Y Wn Hn (cur0 X Y Wn l) k).X ∧ (curF L X Y Wn Hn (cur0 X Y Wn l) k).X ≤ 4194304 ∧ -4194304 ≤ (curF L X Y Wn Hn (cur0 X Y Wn l) k).Y ∧ (curF L X Y Wn Hn (cur0 X Y Wn l) k).Y ≤ 4194304 from by
        have := SM.out k hk
        show 1 ≤ Wn - 2 * snk L k ∧ Wn - 2 * snk L k ≤ 512 ∧ 1 ≤ Hn - 2 * snk L k ∧ Hn - 2 * snk L k ≤ 512 ∧ -4194304 ≤ X + (snk L k : Int) ∧ X + (snk L k : Int) ≤ 4194304 ∧ -4194304 ≤ Y + (snk L k : Int) ∧ Y + (snk L k : Int) ≤ 4194304
        omega)
      have UN := Lib.hid (fun k (hk : k < L.length) => show (curF L X Y Wn Hn (cur0 X Y Wn l) (k + 1)).X = (curF L X Y Wn Hn (cur0 X Y Wn l) k).X + softB (edAt L k) ∧ (curF L X Y Wn Hn (cur0 X Y Wn l) (k + 1)).Y = (curF L X Y Wn Hn (cur0 X Y Wn l) k).Y + softB (edAt L k) ∧ (curF L X Y Wn Hn (cur0 X Y Wn l) (k + 1)).W = (curF L X Y Wn Hn (cur0 X Y Wn l) k).W - 2 * softB (edAt L k) ∧ (curF L X Y Wn Hn (cur0 X Y Wn l) (k + 1)).H = (curF L X Y Wn Hn (cur0 X Y Wn l) k).H - 2 * softB (edAt L k) from by
        have s0 := snk_succ hk
        show X + (snk L (k + 1) : Int) = X + (snk L k : Int) + (softB (edAt L k) : Int) ∧ Y + (snk L (k + 1) : Int) = Y + (snk L k : Int) + (softB (edAt L k) : Int) ∧ Wn - 2 * snk L (k + 1) = Wn - 2 * snk L k - 2 * softB (edAt L k) ∧ Hn - 2 * snk L (k + 1) = Hn - 2 * snk L k - 2 * softB (edAt L k)
        omega)
      have UL := Lib.hid (fun k => show (curF L X Y Wn Hn (cur0 X Y Wn l) k).l = madeL (edsV (L.take k) (cur0 X Y Wn l)) (curF L X Y Wn Hn (cur0 X Y Wn l) k).X (curF L X Y Wn Hn (cur0 X Y Wn l) k).Y (curF L X Y Wn Hn (cur0 X Y Wn l) k).W ((curF L X Y Wn Hn (cur0 X Y Wn l) k).H * (curF L X Y Wn Hn (cur0 X Y Wn l) k).W) from rfl)
      have UZ := Lib.hid (fun k => show (curF L X Y Wn Hn (cur0 X Y Wn l) k).l.length ≤ 262144 from by
        unfold curF
        rw [madeL_len]
        have := Nat.mul_le_mul (show Hn - 2 * snk L k ≤ 512 by omega) (show Wn - 2 * snk L k ≤ 512 by omega)
        omega)
      have HO := Lib.hid ho
      clear FA SM
      generalize softN L = n at *
      clear hs f1 f2 OK he hr ho
      generalize cur0 X Y Wn l = g0 at *
      generalize hU : curF L X Y Wn Hn g0 L.length = uz
      have HU := Lib.hid hU
      have HQ1 := Lib.hid (fun (hh : allHt uz.l = true) (w' : World) gk ck (h1 : OwnF w' B gk ck uz.l) (h2 : Below w.heap.size w w') => show OpBase B (if allHt uz.l = true then 0 else 3) uz.X uz.Y uz.W uz.H uz.l w (.returned (.tuple #[fldV uz.X uz.Y uz.W uz.H (some ⟨gk, 0, none⟩) uz.l.length ck, .int .i64 0])) w' from
        ⟨⟨uz.X, uz.Y, uz.W, uz.H, some ⟨gk, 0, none⟩, uz.l.length, ck, by rw [if_pos hh], .inr ⟨if_pos hh, rfl, rfl, rfl, rfl, gk, rfl, rfl, h1⟩⟩, h2⟩)
      have HQ2 := Lib.hid (fun (hh : allHt uz.l = false) (w' : World) (h2 : Below w.heap.size w w') => show OpBase B (if allHt uz.l = true then 0 else 3) uz.X uz.Y uz.W uz.H uz.l w (.returned (.tuple #[fldV 0 0 0 0 none 0 0, .int .i64 3])) w' from by
        rw [if_neg (by simp [hh])]; exact OpBase.err (by decide) rfl h2)
      clear hU
      generalize (if allHt uz.l = true then (0 : Int) else 3) = C at *
      have hg : g < w.heap.size := HO.out.lt.2
      obtain ⟨i0, hi, hz0, hz1, hz2⟩ := info_parts info24
      go_enter Try.func26, Try.ntmps26
      go_wp2_with fail
      generalize hW0 : (w.alloc (.cells #[.int .i64 X, .int .i64 Y, .int .i64 Wn, .int .i64 Hn, .slice (some ⟨g, 0, none⟩) l.length cap] 26)).alloc (.cells #[.int .i64 0, .int .i64 0, .int .i64 0, .int .i64 0, .slice none 0 0] 26) = W0 at *
      obtain ⟨E0, F0, B0, z0⟩ := two_fields w X Y Wn Hn (.slice (some ⟨g, 0, none⟩) l.length cap) W0 hW0.symm
      clear hW0
      refine (KC.out _ (HE.out.below B0)).mono ?_
      rintro e w2 ⟨rfl, b2⟩
      have HX2 := Lib.hid (E0.below b2 E0.lt)
      have HF2 := Lib.hid (F0.below b2 F0.lt)
      have HB2 := Lib.hid (B0.trans (b2.mono B0.size))
      clear b2 E0 F0 B0 z0
      obtain ⟨c0, c1, c2, c3, c4⟩ := HX2.out.cells
      have lx := HX2.out.lt
      go_upto_region 4 with fail
      go_cut [8] (fun v wx => v = .int .i64 0 ∧ Below w2.heap.size w2 wx)
      case first =>
        go_region_held3 (fun w' => w'.cell? ⟨w.heap.size, 0, none⟩ = some (.int .i64 X) ∧ w'.cell? ⟨w.heap.size, 1, none⟩ = some (.int .i64 Y) ∧ w'.cell? ⟨w.heap.size, 2, none⟩ = some (.int .i64 Wn) ∧ w'.cell? ⟨w.heap.size, 3, none⟩ = some (.int .i64 Hn) ∧ w'.cell? ⟨w.heap.size, 4, none⟩ = some (.slice (some ⟨g, 0, none⟩) l.length cap) ∧ Below w2.heap.size w2 w')
          (first
            | exact ⟨c0, c1, c2, c3, c4, (Below.refl _ _).drew⟩
            | (go_split_ands
               refine ⟨?_, ?_, ?_, ?_, ?_, ?_⟩
               all_goals first
                 | with_reducible exact held_cell (by with_reducible assumption) hb lx (by with_reducible assumption)
                 | with_reducible exact held_step (by with_reducible assumption) hb)
            | (go_split_ands
               refine ⟨?_, ?_, ?_, ?_, ?_, ?_⟩
               all_goals first
                 | with_reducible exact held_cell (by with_reducible assumption) ((Below.refl _ _).alloc (Nat.le_refl _) _) lx (by with_reducible assumption)
                 | with_reducible exact held_step (by with_reducible assumption) ((Below.refl _ _).alloc (Nat.le_refl _) _))
            | (go_split_ands
               refine ⟨?_, ?_, ?_, ?_, ?_, ?_⟩
               all_goals first
                 | with_reducible exact first_cell lx (by with_reducible assumption)
                 | with_reducible exact first_step)
            | (go_split_ands
               refine ⟨?_, ?_, ?_, ?_, ?_, ?_⟩
               all_goals first
                 | with_reducible exact set_cell (by with_reducible assumption) (by first | with_reducible exact Nat.le_refl _ | with_reducible assumption | with_reducible exact size_le (by with_reducible assumption)) _ _ _ _ lx (by with_reducible assumption)
                 | with_reducible exact Below.trans (by with_reducible assumption) (held_set (by with_reducible assumption) (by first | with_reducible exact Nat.le_refl _ | with_reducible assumption | with_reducible exact size_le (by with_reducible assumption)) _ _ _ _))
            | (go_split_ands
               refine ⟨?_, ?_, ?_, ?_, ?_, ?_⟩
               all_goals first
                 | with_reducible exact late_cell HB6 lx (by with_reducible assumption)
                 | with_reducible exact late_step HB6)
            | (go_split_ands; refine ⟨?_, ?_, ?_, ?_, ?_, ?_⟩ <;> with_reducible assumption))
          (first
            | (go_at_call 89; go_split_ands; refine (KS.out _ (HE.out.below (HB2.out.trans ((show Below w2.heap.size w2 _ by with_reducible assumption).mono HB2.out.size)))).mono ?_; rintro e2 w5 ⟨rfl, hb⟩; (have hsz5 := Nat.le_trans (size_le (w2 := w2) (by with_reducible assumption)) hb.size); try (with_reducible have hz5 := Lib.hid (((Reg.new w2 0 0 0 0).drew).below hb (by simp))))
            | (go_at_call 88; go_split_ands; refine (KI.out _).mono ?_; rintro e2 w6 ⟨rfl, hb⟩; (have HB6 := Lib.hid (held_step (w2 := w2) (by with_reducible assumption) hb)); first | (with_reducible have hz6 := Lib.hid (hz5.out.below hb hz5.out.lt); obtain ⟨z1, z2, z3, z4, z5, z6, z7, z8, z9⟩ := zreg hz6.out) | (with_reducible have hz6 := Lib.hid ((Reg.new w5 0 0 0 0).below hb (by simp)); obtain ⟨z1, z2, z3, z4, z5, z6, z7, z8, z9⟩ := zreg hz6.out) | skip))
        all_goals
          rename_i hHeld
          have hHB := hHeld.2.2.2.2.2
          clear hHeld
          go_wp2_with fail
          go_meet
          exact ⟨rfl, hHB⟩
      case rest =>
        obtain ⟨rfl, bc⟩ := hcut
        have HX3 := Lib.hid (HX2.out.below bc HX2.out.lt)
        have HF3 := Lib.hid (HF2.out.below bc HF2.out.lt)
        have HB3 := Lib.hid (HB2.out.trans (bc.mono HB2.out.size))
        clear HX2 HF2 HB2 bc c0 c1 c2 c3 c4 lx
        have I0 : RoInv w wc B (curF L X Y Wn Hn g0 0) g cap := by
          rw [C0]
          exact ⟨HX3.out, HO.out.below HB3.out hg, HF3.out, by omega, by omega, HB3.out⟩
        have HI0 := Lib.hid I0
        clear I0 C0 HX3 HF3 HB3 HO KC KS KI
        go_upto_region 8 with fail
        go_loopw [35] (fun iv wr => ∃ (k gk ck : Nat), k ≤ L.length ∧ iv = .int .i64 (k : Int) ∧ RoInv w wr B (curF L X Y Wn Hn g0 k) gk ck) (fun iv _ => L.length - (intOf iv).toNat)
        case atStart => exact ⟨0, g, cap, by omega, rfl, HI0.out⟩
        case round =>
          clear HI0
          obtain ⟨k, gk, ck, hk, rfl, I⟩ := hrel
          have HI := Lib.hid I
          by_cases hlt : k < L.length
          · rcases (HE.out.below I.b).2 with h0 | ⟨b, o, rfl, hlb, hc⟩
            · rw [h0] at hlt; exact absurd hlt (by simp)
            have hi' : (k : Int) < (L.length : Int) := by omega
            obtain ⟨a0, a1, a2, a3, a4, a5, a6⟩ := hc.seven hlt
            have KE1 := Lib.hid (KE.out k hlt gk ck)
            have LT1 := Lib.hid (LT.out (k + 1) (by omega))
            have U0 := UB.out k (by omega)
            have hul := UZ.out k
            have U1 := UB.out (k + 1) (by omega)
            have UN1 := UN.out k hlt
            have UL1 := Lib.hid (UL.out (k + 1))
            clear I hc KE LT UB UN UL UZ
            obtain ⟨u2, hu2⟩ : ∃ u2, u2 = curF L X Y Wn Hn g0 (k + 1) := ⟨_, rfl⟩
            have HU2 := Lib.hid hu2
            rw [← hu2] at U1 UN1 KE1 UL1
            clear hu2
            generalize curF L X Y Wn Hn g0 k = u at *
            generalize edsV (L.take (k + 1)) g0 = ψ at *
            generalize hE1 : edAt L k = e1 at *
            clear hE1
            have sb : (e1.kd = 3 ∧ softB e1 = 1) ∨ (e1.kd ≠ 3 ∧ softB e1 = 0) := by unfold softB; by_cases h3 : e1.kd = 3 <;> simp [h3]
            have HED : Hid (edA e1 = .agg (edC e1)) := rfl
            obtain ⟨c0, c1, c2, c3, c4⟩ := HI.out.a.cells
            have lf := HI.out.a.lt
            have PA := Blk.new wr (edC e1) 68
            have BA : Below wr.heap.size wr (wr.alloc (.cells (edC e1) 68)) := (Below.refl _ _).alloc (Nat.le_refl _) _
            have HI1 := Lib.hid (HI.out.call BA)
            have lke : w.heap.size + 1 < wr.heap.size := HI.out.z.lt
            have HP := Lib.hid PA
            clear PA BA HI
            obtain ⟨kd, bk, BX, BY, R, h, t⟩ := e1
            unfold edC at HI1 HP
            simp only at a0 a1 a2 a3 a4 a5 a6 sb
            go_upto_region 10 with fail
            generalize wr.alloc (.cells #[.int .i64 kd, .int .i64 bk, .int .i64 BX, .int .i64 BY, .int .i64 R, .float .f32 h, .float .f32 t] 68) = wa at *
            clear a0 a1 a2 a3 a4 a5 a6 c0 c1 c2 c3 c4 lf hlb
            generalize wr.heap.size = ke at *
            obtain ⟨c0, c1, c2, c3, c4⟩ := HI1.out.a.cells
            have lf := HI1.out.a.lt
            have R0 := Reg.new wa u.X u.Y (u.W : Int) (u.H : Int)
            have HI2 := Lib.hid (HI1.out.alloc (.cells #[.int .i64 u.X, .int .i64 u.Y, .int .i64 (u.W : Int), .int .i64 (u.H : Int)] 23))
            have HP2 := Lib.hid (HP.out.alloc (.cells #[.int .i64 u.X, .int .i64 u.Y, .int .i64 (u.W : Int), .int .i64 (u.H : Int)] 23))
            have lkr : ke < wa.heap.size := HP.out.lt
            have lgk : gk < wa.heap.size := HI1.out.o.lt.2
            clear HI1 HP
            go_upto_region 11 with fail
            generalize wa.alloc (.cells #[.int .i64 u.X, .int .i64 u.Y, .int .i64 (u.W : Int), .int .i64 (u.H : Int)] 23) = wb at *
            generalize wa.heap.size = kr at *
            have p0 : wb.cell? ⟨ke, 0, none⟩ = some (.int .i64 kd) := HP2.out.cell 0
            have lpe := HP2.out.lt
            clear c0 c1 c2 c3 c4 lf
            have HR0 := Lib.hid R0
            clear R0
            obtain ⟨v1, v2, v3, v4, v5, v6, v7, v8⟩ := U0
            obtain ⟨t1, t2, t3, t4⟩ := UN1
            go_upto_if 43 with fail
            go_cut [] (fun wx => RoInv w wx B u gk ck ∧ Blk wx ke #[.int .i64 kd, .int .i64 bk, .int .i64 BX, .int .i64 BY, .int .i64 R, .float .f32 h, .float .f32 t] 68 ∧ Reg wx kr u2.X u2.Y (u2.W : Int) (u2.H : Int))
            case first =>
              rcases sb with ⟨h3, s1⟩ | ⟨h3, s1⟩
              · rw [s1] at t1 t2 t3 t4
                have KG := Lib.hid (fun W => show Calls Try.prog 90 #[reg u.X u.Y (u.W : Int) (u.H : Int), .int .i64 (-1)] W fun e w' => e = .returned (reg u2.X u2.Y (u2.W : Int) (u2.H : Int)) ∧ Below W.heap.size W w' from by
                  have := grown_any u.X u.Y u.W u.H (-1) W (by omega) (by omega) (by omega) (by omega) (by omega) (by omega) (by omega) (by omega) (by omega) (by omega)
                  rwa [show u.X - -1 = u2.X by omega, show u.Y - -1 = u2.Y by omega, show (u.W : Int) + 2 * -1 = (u2.W : Int) by omega, show (u.H : Int) + 2 * -1 = (u2.H : Int) by omega] at this)
                clear s1 t1 t2 t3 t4 v1 v2 v3 v4 v5 v6 v7 v8
                subst h3
                obtain ⟨r0, r1, r2, r3⟩ := HR0.out.cells
                have lr := HR0.out.lt
                go_wp2_with fail
                refine (KG.out _).mono ?_
                rintro en w5 ⟨rfl, b5⟩
                have HI3 := Lib.hid (HI2.out.call b5)
                have HP3 := Lib.hid (HP2.out.below b5 HP2.out.lt)
                have HR3 := Lib.hid (HR0.out.below b5 HR0.out.lt)
                clear b5 HI2 HP2 HR0 r0 r1 r2 r3 lr p0 lpe
                obtain ⟨r0, r1, r2, r3⟩ := HR3.out.cells
                have lr := HR3.out.lt
                have rf0 := frozen_of_row w5 _ 0 _ _ HR3.out
                have rf1 := frozen_of_row w5 _ 1 _ _ HR3.out
                have rf2 := frozen_of_row w5 _ 2 _ _ HR3.out
                have rf3 := frozen_of_row w5 _ 3 _ _ HR3.out
                have q1 : w.heap.size + 1 < kr := by omega
                have q2 : gk ≠ kr := by omega
                have q3 : ke ≠ kr := by omega
                have HFIN := Lib.hid (And.intro ((((HI3.out.set (p := ⟨kr, 0, none⟩) (.int .i64 u2.X) q1 q2).set (p := ⟨kr, 1, none⟩) (.int .i64 u2.Y) q1 q2).set (p := ⟨kr, 2, none⟩) (.int .i64 (u2.W : Int)) q1 q2).set (p := ⟨kr, 3, none⟩) (.int .i64 (u2.H : Int)) q1 q2)
                  (And.intro ((((HP3.out.setCell (p := ⟨kr, 0, none⟩) q3 (.int .i64 u2.X)).setCell (p := ⟨kr, 1, none⟩) q3 (.int .i64 u2.Y)).setCell (p := ⟨kr, 2, none⟩) q3 (.int .i64 (u2.W : Int))).setCell (p := ⟨kr, 3, none⟩) q3 (.int .i64 (u2.H : Int))) (reg_stored4 (x := u2.X) (y := u2.Y) (p := (u2.W : Int)) (q := (u2.H : Int)) HR3.out)))
                clear HI3 HP3 HR3
                go_wp2_with fail
                go_meet
                exact HFIN.out
              · rw [s1] at t1 t2 t3 t4
                have hb3 : (kd == 3) = false := by simpa using h3
                have HFIN := Lib.hid (And.intro HI2.out (And.intro HP2.out (show Reg wb kr u2.X u2.Y (u2.W : Int) (u2.H : Int) from by
                  rw [show u2.X = u.X by omega, show u2.Y = u.Y by omega, show (u2.W : Int) = (u.W : Int) by omega, show (u2.H : Int) = (u.H : Int) by omega]; exact HR0.out)))
                clear s1 t1 t2 t3 t4 v1 v2 v3 v4 v5 v6 v7 v8 HI2 HP2 HR0
                go_wp2_with fail
                go_meet
                exact HFIN.out
            case rest =>
              obtain ⟨ri, rp, rr⟩ := hcut
              obtain ⟨r0, r1, r2, r3⟩ := rr.cells
              have lr := rr.lt
              have J0 : RiInv w (wc.alloc (.cells #[.int .i64 u2.X, .int .i64 u2.Y, .int .i64 (u2.W : Int), .int .i64 (u2.H : Int), .slice none 0 0] 26)) B u gk ck ke kr wc.heap.size ⟨kd, bk, BX, BY, R, h, t⟩ u2.X u2.Y (u2.W : Int) (u2.H : Int) (.slice none 0 0) [] :=
                ⟨ri.alloc _, rp.alloc _, rr.alloc _, Fld.new _ _ _ _ _ _, World.ownsRow_nil _ _ _ _, by simp, ri.o.lt.2, lke, lkr, rr.lt⟩
              have HJ0 := Lib.hid J0
              clear ri rp rr J0 t1 t2 t3 t4 v1 v2 v3 v4 v5 v6 v7 v8 HI2 HP2 HR0 p0 lpe sb
              obtain ⟨v1, v2, v3, v4, v5, v6, v7, v8⟩ := U1
              go_upto_region 14 with fail
              generalize wc.alloc (.cells #[.int .i64 u2.X, .int .i64 u2.Y, .int .i64 (u2.W : Int), .int .i64 (u2.H : Int), .slice none 0 0] 26) = wd at *
              generalize wc.heap.size = kn at *
              clear r0 r1 r2 r3 lr
              obtain ⟨r0, r1, r2, r3⟩ := HJ0.out.rg.cells
              have lr := HJ0.out.rg.lt
              go_upto_region 15 with fail
              go_loopw [13, 14] (fun vy _ wi => ∃ (j : Nat) (sl : Value), j ≤ u2.H ∧ vy = .int .i64 (u2.Y + (j : Int)) ∧ RiInv w wi B u gk ck ke kr kn ⟨kd, bk, BX, BY, R, h, t⟩ u2.X u2.Y (u2.W : Int) (u2.H : Int) sl (madeL ψ u2.X u2.Y u2.W (j * u2.W))) (fun vy _ _ => (u2.Y + u2.H - intOf vy).toNat)
              case atStart => exact ⟨0, _, by omega, by simp, by rw [Nat.zero_mul]; exact HJ0.out⟩
              case round =>
                clear HJ0 r0 r1 r2 r3 lr
                obtain ⟨j, sl, hj, rfl, J⟩ := hrel
                have IH := Lib.hid J
                obtain ⟨r0, r1, r2, r3⟩ := J.rg.cells
                have lr := J.rg.lt
                clear J
                by_cases hlt2 : j < u2.H
                · have b1 : (u2.Y + (j : Int)) < u2.Y + (u2.H : Int) := by omega
                  go_upto_region 18 with fail
                  go_loopw [14] (fun vx wi => ∃ (i : Nat) (sl : Value), i ≤ u2.W ∧ vx = .int .i64 (u2.X + (i : Int)) ∧ RiInv w wi B u gk ck ke kr kn ⟨kd, bk, BX, BY, R, h, t⟩ u2.X u2.Y (u2.W : Int) (u2.H : Int) sl (madeL ψ u2.X u2.Y u2.W (j * u2.W + i))) (fun vx _ => (u2.X + u2.W - intOf vx).toNat)
                  case atStart => exact ⟨0, sl, by omega, by simp, by rw [Nat.add_zero]; exact IH.out⟩
                  case round =>
                    clear IH sl r0 r1 r2 r3 lr
                    obtain ⟨i, sl, hi3, rfl, J⟩ := hrel
                    obtain ⟨r0, r1, r2, r3⟩ := J.rg.cells
                    have lr := J.rg.lt
                    have IH := Lib.hid J
                    by_cases hlt3 : i < u2.W
                    · have b2 : (u2.X + (i : Int)) < u2.X + (u2.W : Int) := by omega
                      obtain ⟨c0, c1, c2, c3, c4⟩ := J.r.a.cells
                      have lf := J.r.a.lt
                      have p0 : wr.cell? ⟨ke, 0, none⟩ = some (.int .i64 kd) := J.pe.cell 0
                      have p1 : wr.cell? ⟨ke, 1, none⟩ = some (.int .i64 bk) := J.pe.cell 1
                      have p2 : wr.cell? ⟨ke, 2, none⟩ = some (.int .i64 BX) := J.pe.cell 2
                      have p3 : wr.cell? ⟨ke, 3, none⟩ = some (.int .i64 BY) := J.pe.cell 3
                      have p4 : wr.cell? ⟨ke, 4, none⟩ = some (.int .i64 R) := J.pe.cell 4
                      have p5 : wr.cell? ⟨ke, 5, none⟩ = some (.float .f32 h) := J.pe.cell 5
                      have p6 : wr.cell? ⟨ke, 6, none⟩ = some (.float .f32 t) := J.pe.cell 6
                      have lpe := J.pe.lt
                      have n4 := J.fo.cells.2.2.2.2
                      have lno := J.fo.lt
                      have HC : Hid (∀ W', SRow W' (some ⟨gk, 0, none⟩) u.l → Calls Try.prog 91 #[fldV u.X u.Y u.W u.H (some ⟨gk, 0, none⟩) u.l.length ck, .agg #[.int .i64 kd, .int .i64 bk, .int .i64 BX, .int .i64 BY, .int .i64 R, .float .f32 h, .float .f32 t], .int .i64 (u2.X + (i : Int)), .int .i64 (u2.Y + (j : Int))] W' fun en w' => en = .returned (.float .f32 (ψ (u2.X + (i : Int)) (u2.Y + (j : Int)))) ∧ Below W'.heap.size W' w') :=
                        Lib.hid (fun W' hW => KE1.out _ _ W' hW (by omega) (by omega) (by omega) (by omega))
                      have HY : Hid (ψ (u2.X + (i : Int)) (u2.Y + (j : Int)) < 4294967296) := Lib.hid (LT1.out _ _)
                      have HM : Hid (madeL ψ u2.X u2.Y u2.W (j * u2.W + i) ++ [ψ (u2.X + (i : Int)) (u2.Y + (j : Int))] = madeL ψ u2.X u2.Y u2.W (j * u2.W + (i + 1))) := Lib.hid (madeL_succ ψ u2.X u2.Y u2.W i j hlt3).symm
                      have hml : (madeL ψ u2.X u2.Y u2.W (j * u2.W + i)).length ≤ 262656 := by
                        rw [madeL_len]
                        have := Nat.mul_le_mul (show j ≤ 512 by omega) v2
                        omega
                      have HRW := Lib.hid (J.r.o.row (by omega)).drew
                      generalize madeL ψ u2.X u2.Y u2.W (j * u2.W + i) = m at *
                      generalize ψ (u2.X + (i : Int)) (u2.Y + (j : Int)) = y0 at *
                      have G1 : Hid (m.length + 1 ≤ maxLen) := by unfold maxLen Hid; omega
                      have G2 : Hid ((m.length + 1) * 4 ≤ 140737488355328) := by unfold Hid; omega
                      clear J KE1 LT1
                      go_wp2_with fail
                      go_region_law (first
                        | (refine step_append_lies _ (by rfl) _ _ _ (by rfl) (kn + 1) 27 i0 (.float .f32 0) 1 4 Try.underlying24 hi hz0 hz1 hz2 rfl (by omega) sl m.length (fls m) (by rfl) (I2.out.own.alloc _) ⟨w2.heap.size, 0, none⟩ 1 1 [.float .f32 y0] (by rfl) (by rfl) (World.news_of_block (cs := #[.float .f32 y0]) (t := 27) (fr := (0, 0)) (heap_alloc_new w2 _)) (by simp [Value.oneCell']) (by omega) G1.out G2.out G3.out (w2.heap.size + 1) (by simp) ?_; intro gg cap w3 hown3 hgrow3 hat3 hlt3; obtain ⟨e1, e2, e3, e4⟩ := I2.out.mid hgrow3; have e5 := e4.cells.2.2.2.2; have e6 := e4.frozen 4; have M3 := Lib.hid (I2.out.app HY.out hown3 hgrow3); clear e1 e2 e3 e4 hown3 hgrow3 hat3 hlt3)
                        | (go_simp; go_at_call 91; refine (HC.out _ HRW.out).mono ?_; rintro e2 w2 ⟨rfl, hb⟩; have I2 := Lib.hid (IH.out.drew.call hb); have G3 : Hid (kn + 1 ≤ (w2.alloc (.cells #[.float .f32 y0] 27)).heap.size) := (by have := I2.out.fo.lt; unfold Hid; simp; omega); have d4 := I2.out.fo.cells.2.2.2.2; have lz : kn < w2.heap.size := I2.out.fo.lt; clear hb))
                      all_goals
                        go_wp2
                        go_roundw
                        case rel => exact ⟨i + 1, _, by omega, by go_num, HM.out ▸ M3.out⟩
                        case measure => simp [intOf]; omega
                    · have HEQ : Hid (j * u2.W + i = (j + 1) * u2.W) := by
                        have : i = u2.W := by omega
                        unfold Hid; rw [this, Nat.add_mul, Nat.one_mul]
                      have IH1 := IH.out
                      rw [HEQ.out] at IH1
                      have HREL := Lib.hid (show ∃ (j_1 : Nat) (sl_1 : Value), j_1 ≤ u2.H ∧ Value.int .i64 (u2.Y + (j : Int) + 1) = .int .i64 (u2.Y + (j_1 : Int)) ∧ RiInv w wr B u gk ck ke kr kn ⟨kd, bk, BX, BY, R, h, t⟩ u2.X u2.Y (u2.W : Int) (u2.H : Int) sl_1 (madeL ψ u2.X u2.Y u2.W (j_1 * u2.W)) from ⟨j + 1, sl, by omega, by congr 1; omega, IH1⟩)
                      clear IH IH1 J HEQ
                      go_wp2
                      go_roundw
                      case rel => exact HREL.out
                      case measure => simp [intOf]; omega
                · have hjH : j = u2.H := by omega
                  subst hjH
                  obtain ⟨n0, n1, n2, n3, n4⟩ := IH.out.fo.cells
                  have lno := IH.out.fo.lt
                  have hm1 : 0 < (madeL ψ u2.X u2.Y u2.W (u2.H * u2.W)).length := by rw [madeL_len]; exact Nat.mul_le_mul v3 v1
                  obtain ⟨g2, c2, hsl, hst⟩ := IH.out.store hB hm1 u2 ⟨rfl, rfl, rfl, rfl, UL1.out⟩
                  subst hsl
                  have HST := Lib.hid hst
                  obtain ⟨f0, f1, f2, f3, f4⟩ := IH.out.r.a.cells
                  have qf0 := IH.out.r.a.frozen 0
                  have qf1 := IH.out.r.a.frozen 1
                  have qf2 := IH.out.r.a.frozen 2
                  have qf3 := IH.out.r.a.frozen 3
                  have qf4 := IH.out.r.a.frozen 4
                  have lf := IH.out.r.a.lt
                  clear hst hm1 IH KE1 LT1 UL1
                  generalize (madeL ψ u2.X u2.Y u2.W (u2.H * u2.W)).length = ml at *
                  go_upto_region 21 with fail
                  go_wp2_with fail
                  generalize hW5 : ((((wr.setCell ⟨w.heap.size, 0, none⟩ (.int .i64 u2.X)).setCell ⟨w.heap.size, 1, none⟩ (.int .i64 u2.Y)).setCell ⟨w.heap.size, 2, none⟩ (.int .i64 (u2.W : Int))).setCell ⟨w.heap.size, 3, none⟩ (.int .i64 (u2.H : Int))).setCell ⟨w.heap.size, 4, none⟩ (.slice (some ⟨g2, 0, none⟩) ml c2) = W5 at *
                  have HREL := Lib.hid (show ∃ (k_1 gk_1 ck_1 : Nat), k_1 ≤ L.length ∧ Value.int .i64 ((k : Int) + 1) = .int .i64 (k_1 : Int) ∧ RoInv w W5 B (curF L X Y Wn Hn g0 k_1) gk_1 ck_1 from ⟨k + 1, g2, c2, by omega, by congr 1, HU2.out ▸ HST.out W5 (by first | rfl | exact hW5.symm)⟩)
                  clear hW5 HST n0 n1 n2 n3 n4 f0 f1 f2 f3 f4 qf0 qf1 qf2 qf3 qf4 r0 r1 r2 r3
                  go_wp2_with fail
                  go_roundw
                  case rel => exact HREL.out
                  case measure => simp [intOf]; omega
          · obtain rfl : k = L.length := by omega
            have hul := UZ.out L.length
            rw [HU.out] at I hul
            clear HI KE LT UB UN UL UZ HE
            have HI := Lib.hid I
            have KO := Lib.hid (out_any (some ⟨gk, 0, none⟩) ck uz.l wr (I.o.row (by omega)))
            rw [out_code] at KO
            obtain ⟨c0, c1, c2, c3, c4⟩ := I.a.cells
            have lf := I.a.lt
            obtain ⟨d0, d1, d2, d3, d4⟩ := I.z.cells
            have qf0 := I.z.frozen 0
            have qf1 := I.z.frozen 1
            have qf2 := I.z.frozen 2
            have qf3 := I.z.frozen 3
            have qf4 := I.z.frozen 4
            have lz := I.z.lt
            clear I
            by_cases hh : allHt uz.l = true
            · have HQ := Lib.hid (HQ1.out hh)
              rw [if_pos hh] at KO
              clear hh HQ1 HQ2
              go_wp2_with fail
              refine KO.out.mono ?_
              rintro e w5 ⟨rfl, rfl⟩
              go_wp2_with fail
              generalize hW5 : ((((wr.setCell ⟨w.heap.size + 1, 0, none⟩ (.int .i64 uz.X)).setCell ⟨w.heap.size + 1, 1, none⟩ (.int .i64 uz.Y)).setCell ⟨w.heap.size + 1, 2, none⟩ (.int .i64 (uz.W : Int))).setCell ⟨w.heap.size + 1, 3, none⟩ (.int .i64 (uz.H : Int))).setCell ⟨w.heap.size + 1, 4, none⟩ (.slice (some ⟨gk, 0, none⟩) uz.l.length ck) = W5 at *
              obtain ⟨h5, bb5, oo5, _, _⟩ := fld_store wr (w.heap.size + 1) _ _ _ _ _ uz.X uz.Y uz.W uz.H (.slice (some ⟨gk, 0, none⟩) uz.l.length ck) HI.out.z W5 hW5.symm
              have hO5 := oo5 _ _ _ _ HI.out.o HI.out.n2
              have hB5 := HI.out.b.trans (bb5.mono (by omega))
              clear d0 d1 d2 d3 d4 qf0 qf1 qf2 qf3 qf4 hW5 oo5
              obtain ⟨d0, d1, d2, d3, d4⟩ := h5.cells
              exact bodyPost_ret (v := .tuple #[fldV uz.X uz.Y uz.W uz.H (some ⟨gk, 0, none⟩) uz.l.length ck, .int .i64 0]) (by simp [results, Try.results26, go_sem, *]) rfl (HQ.out _ _ _ hO5 hB5)
            · have hh' : allHt uz.l = false := by simpa using hh
              have HQ := Lib.hid (HQ2.out hh')
              rw [if_neg hh] at KO
              clear hh hh' HQ1 HQ2
              go_wp2_with fail
              refine KO.out.mono ?_
              rintro e w5 ⟨rfl, rfl⟩
              have HB5 := Lib.hid HI.out.b
              go_wp2_with fail
              have B5 := HB5.out
              exact bodyPost_ret (v := .tuple #[fldV 0 0 0 0 none 0 0, .int .i64 3]) (by simp [results, Try.results26, go_sem, *]) rfl (HQ.out _ (by have hszz := B5.size; repeat (first | with_reducible exact B5 | with_reducible apply Below.drew | with_reducible refine below_drewN ?_ _ | (with_reducible refine Below.setCell ?_ ?_ _; rotate_left; focus (first | omega | (simp <;> omega))) | (with_reducible refine Below.alloc ?_ ?_ _; rotate_left; focus (first | omega | (simp <;> omega))))))
  · rw [if_pos he]
    have hb' : (edsE L != 0) = true := by rw [bne_iff_ne]; exact he
    have HQ := Lib.hid (fun e w' h1 h2 => OpBase.err (B := B) (X := (curF L X Y Wn Hn (cur0 X Y Wn l) L.length).X) (Y := (curF L X Y Wn Hn (cur0 X Y Wn l) L.length).Y) (W := (curF L X Y Wn Hn (cur0 X Y Wn l) L.length).W) (H := (curF L X Y Wn Hn (cur0 X Y Wn l) L.length).H) (m := (curF L X Y Wn Hn (cur0 X Y Wn l) L.length).l) (w := w) (e := e) (w' := w') he h1 h2)
    generalize curF L X Y Wn Hn (cur0 X Y Wn l) L.length = u at *
    generalize edsE L = q at *
    clear hr ho hE he
    go_enter Try.func26, Try.ntmps26
    go_wp2_with fail
    generalize hW0 : (w.alloc (.cells #[.int .i64 X, .int .i64 Y, .int .i64 Wn, .int .i64 Hn, .slice (some ⟨g, 0, none⟩) l.length cap] 26)).alloc (.cells #[.int .i64 0, .int .i64 0, .int .i64 0, .int .i64 0, .slice none 0 0] 26) = W0 at *
    obtain ⟨E0, F0, B0, z0⟩ := two_fields w X Y Wn Hn (.slice (some ⟨g, 0, none⟩) l.length cap) W0 hW0.symm
    clear hW0
    refine (KC.out _ (HE.out.below B0)).mono ?_
    rintro e w2 ⟨rfl, b2⟩
    have HX2 := Lib.hid (E0.below b2 E0.lt)
    have HF2 := Lib.hid (F0.below b2 F0.lt)
    have HB2 := Lib.hid (B0.trans (b2.mono B0.size))
    clear b2 E0 F0 B0 z0
    obtain ⟨d0, d1, d2, d3, d4⟩ := HF2.out.cells
    have qf0 := HF2.out.frozen 0
    have qf1 := HF2.out.frozen 1
    have qf2 := HF2.out.frozen 2
    have qf3 := HF2.out.frozen 3
    have qf4 := HF2.out.frozen 4
    have lz := HF2.out.lt
    go_wp2_with fail
    have B2 := HB2.out
    exact bodyPost_ret (v := .tuple #[fldV 0 0 0 0 none 0 0, .int .i64 q]) (by simp [results, Try.results26, go_sem, *]) rfl (HQ.out _ _ rfl (by have hszz := B2.size; repeat (first | with_reducible exact B2 | with_reducible apply Below.drew | with_reducible refine below_drewN ?_ _ | (with_reducible refine Below.setCell ?_ ?_ _; rotate_left; focus (first | omega | (simp <;> omega))) | (with_reducible refine Below.alloc ?_ ?_ _; rotate_left; focus (first | omega | (simp <;> omega))))))
end Go.Proofs.Ytfmbekdfigbfiaa

namespace Go.Proofs.Ytfmbekdfigbfiaa
open Go.ChangeShapes Go.WideShapes Go.ChangeAt Go.RowKit
open Ieee.Format (fin finE htE allFin allHt all_true all_false mulF subF addF Ht Bd divF rootF floorF easeF mixF)
set_option linter.unusedVariables false

set_option maxRecDepth 100000 in
theorem edbox_any (e : Ed) (he : e.ok) (w : World) :
    Calls Try.prog 165 #[edA e] w fun en w' => en = .returned (reg (e.X - e.R + 1) (e.Y - e.R + 1) (2 * e.R - 1) (2 * e.R - 1)) ∧ Below w.heap.size w w' := by
  obtain ⟨_, _, p, r1, r2, _⟩ := brush_zero he.b
  obtain ⟨kd, bk, X, Y, R, h, t⟩ := e
  unfold edA edC
  simp only at *
  clear he
  go_enter Try.func165, Try.ntmps165
  go_wp2
  exact bodyPost_ret (v := reg (X - R + 1) (Y - R + 1) (2 * R - 1) (2 * R - 1)) (by simp [results, Try.results165, go_sem, *]) rfl ⟨rfl, (by repeat (first | with_reducible exact Below.refl _ _ | with_reducible apply Below.drew | with_reducible refine below_drewN ?_ _ | (with_reducible refine Below.setCell ?_ ?_ _; rotate_left; focus (first | omega | (simp <;> omega))) | (with_reducible refine Below.alloc ?_ ?_ _; rotate_left; focus (first | omega | (simp <;> omega)))))⟩
set_option maxRecDepth 100000 in
theorem margin_any (L : List Ed) (a : Option Addr) (cap : Nat) (w : World) (hr : EdRow w a L) (hn : L.length ≤ 1000) :
    Calls Try.prog 31 #[.slice a L.length cap] w fun en w' => en = .returned (.tuple #[.int .i64 (softN L : Int), .int .i64 0]) ∧ Below w.heap.size w w' := by
  have K := Lib.hid (softens_any L a cap w hr hn)
  clear hr
  go_enter Try.func31, Try.ntmps31
  go_wp2_with fail
  refine K.out.mono ?_
  rintro e w1 ⟨rfl, b1⟩
  go_wp2_with fail
  go_ret2
  exact ⟨rfl, b1⟩
/-- the law's closure: is an edit wrong? -/
theorem badfn_any (e : Ed) (w : World) (hh : e.h < 4294967296) (ht : e.t < 4294967296) :
    Calls Try.prog 29 #[edA e] w fun en w' => en = .returned (.bool (decide (edE e ≠ 0))) ∧ Below w.heap.size w w' := by
  have K := Lib.hid (fun w => refcheck_edit e w hh ht)
  have hb : (edE e != 0) = decide (edE e ≠ 0) := by by_cases h : edE e = 0 <;> simp [h]
  have HR : Hid (∀ r, r = (edE e != 0) → Ending.returned (.bool r) = .returned (.bool (decide (edE e ≠ 0)))) := fun r hr => by rw [hr, hb]
  clear hb
  generalize decide (edE e ≠ 0) = z at *
  generalize edE e = q at *
  obtain ⟨kd, bk, X, Y, R, h, t⟩ := e
  unfold edA edC at *
  simp only at *
  have BA : Below w.heap.size w (w.alloc (.cells #[.int .i64 kd, .int .i64 bk, .int .i64 X, .int .i64 Y, .int .i64 R, .float .f32 h, .float .f32 t] 68)) := (by repeat (first | with_reducible exact Below.refl _ _ | with_reducible apply Below.drew | with_reducible refine below_drewN ?_ _ | (with_reducible refine Below.setCell ?_ ?_ _; rotate_left; focus (first | omega | (simp <;> omega))) | (with_reducible refine Below.alloc ?_ ?_ _; rotate_left; focus (first | omega | (simp <;> omega)))))
  go_enter Try.func29, Try.ntmps29
  go_wp2_with fail
  refine (K.out _).mono ?_
  rintro en w1 ⟨rfl, b1⟩
  have B1 := Lib.hid (BA.trans (b1.mono BA.size))
  clear b1
  go_wp2_with fail
  go_ret
  exact ⟨HR.out _ rfl, B1.out⟩
/-- is one of the edits wrong? -/
def anyBad (L : List Ed) : Bool := L.any fun e => decide (edE e ≠ 0)
theorem anyBad_at {L : List Ed} {k : Nat} (h : k < L.length) (hk : edE (edAt L k) ≠ 0) : anyBad L = true := by
  unfold anyBad
  rw [List.any_eq_true]
  exact ⟨edAt L k, edAt_mem h, decide_eq_true hk⟩
theorem anyBad_no {L : List Ed} (h : ∀ i, i < L.length → edE (edAt L i) = 0) : anyBad L = false := by
  unfold anyBad
  rw [List.any_eq_false]
  intro e he
  obtain ⟨i, hi, rfl⟩ := List.mem_iff_getElem.1 he
  have := h i hi
  rw [edAt_eq hi] at this
  simp [this]
theorem anyBad_ok {L : List Ed} (h : anyBad L = false) : ∀ e ∈ L, edE e = 0 := by
  intro e he
  unfold anyBad at h
  rw [List.any_eq_false] at h
  have := h e he
  simpa using this
set_option maxRecDepth 100000 in
theorem edindex_any (L : List Ed) (a : Option Addr) (cap : Nat) (w : World) (hr : EdRow w a L) (hn : L.length ≤ 1000) :
    Calls Try.prog 93 #[.slice a L.length cap, .func (.func 29) #[] #[]] w fun en w' => (∃ i : Int, en = .returned (.int .i64 i) ∧ (0 ≤ i ∧ anyBad L = true ∨ i = -1 ∧ anyBad L = false)) ∧ Below w.heap.size w w' := by
  obtain ⟨⟨_, hwf⟩, hr⟩ := hr
  have HA := Lib.hid (fun k (hk : k < L.length) => show ∃ b o, a = some ⟨b, o, none⟩ ∧ b < w.heap.size ∧ EdCells w b o L from by
    rcases hr with h | h
    · rw [h] at hk; exact absurd hk (by simp)
    · exact h)
  have KC := Lib.hid (fun k (hk : k < L.length) w => badfn_any (edAt L k) w (hwf _ (edAt_mem hk)).1 (hwf _ (edAt_mem hk)).2)
  have eg : ∀ args w, (callFunc 29 args).run Try.prog w = .ok (.enter 29 args) w := enters_of Try.func29 (by kernel_rfl) rfl
  have HY := Lib.hid (fun k (hk : k < L.length) h => anyBad_at hk h)
  have HN := Lib.hid (fun h => anyBad_no (L := L) h)
  clear hr hwf
  go_enter Try.func93, Try.ntmps93
  go_upto_region 2 with fail
  go_loopw [5, 8] (fun _ iv wr => ∃ k : Nat, k ≤ L.length ∧ iv = .int .i64 (k : Int) ∧ (∀ i, i < k → edE (edAt L i) = 0) ∧ Below w.heap.size w wr) (fun _ iv _ => L.length - (intOf iv).toNat)
  case atStart => exact ⟨0, by omega, rfl, fun i hi => absurd hi (by omega), Below.refl _ _⟩
  case round =>
    obtain ⟨k, hk, rfl, hE, hb⟩ := hrel
    have HB := Lib.hid hb
    have HEE := Lib.hid hE
    clear hE
    by_cases hlt : k < L.length
    · obtain ⟨b, o, rfl, hlb, hc⟩ := HA.out k hlt
      have hi' : (k : Int) < (L.length : Int) := by omega
      obtain ⟨c0, c1, c2, c3, c4, c5, c6⟩ := (hc.below HB.out hlb).seven hlt
      have KC1 := Lib.hid (KC.out k hlt)
      clear KC hb hc
      by_cases hq : edE (edAt L k) = 0
      · have HE3 := Lib.hid (show ∀ i, i < k + 1 → edE (edAt L i) = 0 from fun i hi => by
          by_cases c : i = k
          · subst c; exact hq
          · exact HEE.out i (by omega))
        rw [decide_eq_false (by simpa using hq)] at KC1
        clear hq
        generalize edAt L k = e at *
        obtain ⟨kd, bk, BX, BY, R, h, t⟩ := e
        unfold edA edC at KC1
        simp only at *
        go_wp2_with fail
        refine (KC1.out _).mono ?_
        rintro en w2 ⟨rfl, b2⟩
        have HB2 := Lib.hid (HB.out.trans (b2.mono HB.out.size))
        clear b2
        go_wp2_with fail
        go_roundw
        case rel => exact ⟨k + 1, by omega, by go_num, HE3.out, HB2.out⟩
        case measure => simp [intOf]; omega
      · have HYY := Lib.hid (HY.out k hlt hq)
        rw [decide_eq_true (by simpa using hq)] at KC1
        clear hq
        generalize edAt L k = e at *
        obtain ⟨kd, bk, BX, BY, R, h, t⟩ := e
        unfold edA edC at KC1
        simp only at *
        go_wp2_with fail
        refine (KC1.out _).mono ?_
        rintro en w2 ⟨rfl, b2⟩
        have HB2 := Lib.hid (HB.out.trans (b2.mono HB.out.size))
        clear b2
        go_wp2_with fail
        go_ret
        exact ⟨⟨k, rfl, .inl ⟨by omega, HYY.out⟩⟩, HB2.out⟩
    · obtain rfl : k = L.length := by omega
      have HNN := Lib.hid (HN.out HEE.out)
      go_wp2_with fail
      go_ret
      exact ⟨⟨-1, rfl, .inr ⟨rfl, HNN.out⟩⟩, HB.out⟩
set_option maxRecDepth 100000 in
theorem edcontains_any (L : List Ed) (a : Option Addr) (cap : Nat) (w : World) (hr : EdRow w a L) (hn : L.length ≤ 1000) :
    Calls Try.prog 28 #[.slice a L.length cap, .func (.func 29) #[] #[]] w fun en w' => en = .returned (.bool (anyBad L)) ∧ Below w.heap.size w w' := by
  have K := Lib.hid (edindex_any L a cap w hr hn)
  clear hr
  generalize anyBad L = z at *
  go_enter Try.func28, Try.ntmps28
  go_wp2_with fail
  refine K.out.mono ?_
  rintro e w1 ⟨⟨i, rfl, h⟩, b1⟩
  rcases h with ⟨h, rfl⟩ | ⟨rfl, rfl⟩
  · go_wp2_with fail
    go_ret
    exact ⟨rfl, b1⟩
  · go_wp2_with fail
    go_ret
    exact ⟨rfl, b1⟩
end Go.Proofs.Ytfmbekdfigbfiaa

namespace Go.Proofs.Ytfmbekdfigbfiaa
open Go.ChangeShapes Go.WideShapes Go.ChangeAt Go.RowKit
open Ieee.Format (fin finE htE allFin allHt all_true all_false mulF subF addF Ht Bd divF rootF floorF easeF mixF)
set_option linter.unusedVariables false

theorem EdRow.drop {w : World} {a : Option Addr} {L : List Ed} (h : EdRow w a L) (k cap : Nat) (hc : L.length ≤ cap) : EdRow w (if cap = k then a else a.map (·.add (k * 7))) (L.drop k) := by
  obtain ⟨⟨h1, h2⟩, h3⟩ := h
  refine ⟨⟨by rw [List.length_drop]; omega, fun e he => h2 e (List.mem_of_mem_drop he)⟩, ?_⟩
  by_cases hk : k < L.length
  · rcases h3 with h3 | ⟨b, o, rfl, hb, hcs⟩
    · rw [h3] at hk; exact absurd hk (by simp)
    · right
      rw [if_neg (by omega)]
      refine ⟨b, o + k * 7, by simp [Addr.add], hb, fun i hi j hj => ?_⟩
      rw [List.length_drop] at hi
      have e : edAt (L.drop k) i = edAt L (k + i) := by
        unfold edAt
        rw [List.getD_eq_getElem?_getD, List.getD_eq_getElem?_getD, List.getElem?_drop]
      have := hcs (k + i) (by omega) j hj
      rw [e, ← this]
      congr 2
      omega
  · left
    rw [List.drop_eq_nil_iff]; omega
theorem EdRow.cap {w : World} {L : List Ed} (h : EdRow w none L) : L = [] := by
  rcases h.2 with h | ⟨b, o, h, _⟩
  · exact h
  · cases h
set_option maxRecDepth 100000 in
set_option maxHeartbeats 6000000 in
theorem reach_any (L : List Ed) (a : Option Addr) (cap k : Nat) (w : World) (hr : EdRow w a L) (hn : L.length ≤ 12) (hcap : L.length ≤ cap) (hcap2 : cap ≤ 9223372036854775807) (hk : k < L.length) (he : (edAt L k).ok) :
    Calls Try.prog 96 #[.slice a L.length cap, .int .i64 (k : Int)] w fun en w' => en = .returned (reg ((edAt L k).X - (edAt L k).R + 1 - (softN (L.drop (k + 1)) : Int)) ((edAt L k).Y - (edAt L k).R + 1 - (softN (L.drop (k + 1)) : Int)) (2 * (edAt L k).R - 1 + 2 * (softN (L.drop (k + 1)) : Int)) (2 * (edAt L k).R - 1 + 2 * (softN (L.drop (k + 1)) : Int))) ∧ Below w.heap.size w w' := by
  have hdl : (L.drop (k + 1)).length = L.length - (k + 1) := List.length_drop
  have KB := Lib.hid (fun w => edbox_any (edAt L k) he w)
  have hs : softN (L.drop (k + 1)) ≤ 12 := by have := softN_le (L.drop (k + 1)); omega
  obtain ⟨_, _, pb, r1, r2, _⟩ := brush_zero he.b
  rcases hr.2 with h0 | ⟨b, o, rfl, hb, hc⟩
  · rw [h0] at hk; exact absurd hk (by simp)
  obtain ⟨c0, c1, c2, c3, c4, c5, c6⟩ := hc.seven hk
  have HR := Lib.hid hr
  clear hc hdl he hr
  generalize edAt L k = e at *
  obtain ⟨kd, bk, X, Y, R, h, t⟩ := e
  unfold edA edC at KB
  simp only at *
  have hk' : (k : Int) < (L.length : Int) := by omega
  obtain ⟨k1, hk1⟩ : ∃ k1, k1 = k + 1 := ⟨_, rfl⟩
  have e1 : IntKind.i64.wrap ((k : Int) + 1) = (k1 : Int) := by rw [IntWalk.i64_in _ (by omega)]; omega
  have hk2 : (k1 : Int) ≤ (L.length : Int) := by omega
  have hk3 : (0 : Int) ≤ (k1 : Int) := by omega
  have hcase : (∃ P Q R', (∀ w', (Instr.slice 61 (.slice (some ⟨b, o, none⟩) L.length cap) (some (.int .i64 (k1 : Int))) none none).run Try.prog w' = .ok (.slice P Q R') w') ∧ ∀ w', EdRow w' (some ⟨b, o, none⟩) L → Calls Try.prog 83 #[.slice P Q R'] w' fun en w2 => en = .returned (.int .i64 (softN (L.drop k1) : Int)) ∧ Below w'.heap.size w' w2) := by
    refine ⟨if cap = k1 then some ⟨b, o, none⟩ else some ⟨b, o + k1 * 7, none⟩, L.length - k1, cap - k1, fun w' => ?_, fun w' h' => ?_⟩
    · have hsz : ((sizeOf (Try.prog.elem 61)).run Try.prog w') = .ok 7 w' := by kernel_rfl
      rw [run_slice_l w' 61 (some ⟨b, o, none⟩) L.length cap (by kernel_rfl) .i64 (k1 : Int) hk3 hk2, hsz]
      simp only [Result.andThen, sliced, Int.toNat_natCast]
      by_cases c : cap = k1
      · simp [c]
      · simp only [if_neg c, Option.map_some, Go.WideShapes.add_plain]
    · have h1 := softens_any (L.drop k1) _ (cap - k1) w' (h'.drop k1 cap hcap) (by rw [List.length_drop]; omega)
      rw [List.length_drop] at h1
      have e : (if cap = k1 then (some ⟨b, o, none⟩ : Option Addr) else (some ⟨b, o, none⟩ : Option Addr).map (·.add (k1 * 7))) = if cap = k1 then some ⟨b, o, none⟩ else some ⟨b, o + k1 * 7, none⟩ := by
        by_cases c : cap = k1
        · simp [c]
        · simp only [if_neg c, Option.map_some, Go.WideShapes.add_plain]
      rwa [e] at h1
  obtain ⟨P, Q, R', ksl, ks⟩ := hcase
  have KS := Lib.hid ks
  rw [← hk1] at hs ⊢
  clear ks hk1 hk2 hk3
  generalize hnn : softN (L.drop k1) = n at *
  go_enter Try.func96, Try.ntmps96
  go_upto_region 1 with fail
  have BA : Below w.heap.size w (w.alloc (.cells #[.int .i64 0, .int .i64 0, .int .i64 0, .int .i64 0] 23)) := (by repeat (first | with_reducible exact Below.refl _ _ | with_reducible apply Below.drew | with_reducible refine below_drewN ?_ _ | (with_reducible refine Below.setCell ?_ ?_ _; rotate_left; focus (first | omega | (simp <;> omega))) | (with_reducible refine Below.alloc ?_ ?_ _; rotate_left; focus (first | omega | (simp <;> omega)))))
  have HZ0 := Lib.hid (Reg.new w 0 0 0 0)
  have HB2 := Lib.hid BA
  have lx : b < (w.alloc (.cells #[.int .i64 0, .int .i64 0, .int .i64 0, .int .i64 0] 23)).heap.size := Nat.lt_of_lt_of_le hb BA.size
  have k0 := fun {p : Addr} {v : Value} (hp : p.block < w.heap.size) (h : w.cell? p = some v) => (BA.cell hp).trans h
  have c0 := k0 (p := ⟨b, o + k * 7, none⟩) hb c0
  have c1 := k0 (p := ⟨b, o + k * 7 + 1, none⟩) hb c1
  have c2 := k0 (p := ⟨b, o + k * 7 + 2, none⟩) hb c2
  have c3 := k0 (p := ⟨b, o + k * 7 + 3, none⟩) hb c3
  have c4 := k0 (p := ⟨b, o + k * 7 + 4, none⟩) hb c4
  have c5 := k0 (p := ⟨b, o + k * 7 + 5, none⟩) hb c5
  have c6 := k0 (p := ⟨b, o + k * 7 + 6, none⟩) hb c6
  have hzs : w.heap.size < (w.alloc (.cells #[.int .i64 0, .int .i64 0, .int .i64 0, .int .i64 0] 23)).heap.size := HZ0.out.lt
  clear k0 BA
  generalize w.alloc (.cells #[.int .i64 0, .int .i64 0, .int .i64 0, .int .i64 0] 23) = w2 at *
  go_cut [5, 6] (fun v5 v6 wx => ∃ kb : Nat, v5 = .pointer (some ⟨kb, 0, none⟩) ∧ Reg wx kb (X - R + 1) (Y - R + 1) (2 * R - 1) (2 * R - 1) ∧ v6 = .int .i64 (n : Int) ∧ Below w2.heap.size w2 wx)
  case first =>
    go_region_held3 (fun w' => w'.cell? ⟨b, o + k * 7, none⟩ = some (.int .i64 kd) ∧ w'.cell? ⟨b, o + k * 7 + 1, none⟩ = some (.int .i64 bk) ∧ w'.cell? ⟨b, o + k * 7 + 2, none⟩ = some (.int .i64 X) ∧ w'.cell? ⟨b, o + k * 7 + 3, none⟩ = some (.int .i64 Y) ∧ w'.cell? ⟨b, o + k * 7 + 4, none⟩ = some (.int .i64 R) ∧ w'.cell? ⟨b, o + k * 7 + 5, none⟩ = some (.float .f32 h) ∧ w'.cell? ⟨b, o + k * 7 + 6, none⟩ = some (.float .f32 t) ∧ Below w2.heap.size w2 w')
      (first
        | exact ⟨c0, c1, c2, c3, c4, c5, c6, (Below.refl _ _).drew⟩
        | (go_split_ands
           refine ⟨?_, ?_, ?_, ?_, ?_, ?_, ?_, ?_⟩
           all_goals first
             | with_reducible exact held_cell (by with_reducible assumption) hb lx (by with_reducible assumption)
             | with_reducible exact held_step (by with_reducible assumption) hb)
        | (go_split_ands
           refine ⟨?_, ?_, ?_, ?_, ?_, ?_, ?_, ?_⟩
           all_goals first
             | with_reducible exact held_cell (by with_reducible assumption) ((Below.refl _ _).alloc (Nat.le_refl _) _) lx (by with_reducible assumption)
             | with_reducible exact held_step (by with_reducible assumption) ((Below.refl _ _).alloc (Nat.le_refl _) _))
        | (go_split_ands
           refine ⟨?_, ?_, ?_, ?_, ?_, ?_, ?_, ?_⟩
           all_goals first
             | with_reducible exact first_cell lx (by with_reducible assumption)
             | with_reducible exact first_step)
        | (go_split_ands
           refine ⟨?_, ?_, ?_, ?_, ?_, ?_, ?_, ?_⟩
           all_goals first
             | with_reducible exact set_cell (by with_reducible assumption) (by first | with_reducible exact Nat.le_refl _ | with_reducible assumption | with_reducible exact size_le (by with_reducible assumption)) _ _ _ _ lx (by with_reducible assumption)
             | with_reducible exact Below.trans (by with_reducible assumption) (held_set (by with_reducible assumption) (by first | with_reducible exact Nat.le_refl _ | with_reducible assumption | with_reducible exact size_le (by with_reducible assumption)) _ _ _ _))
        | (go_split_ands
           refine ⟨?_, ?_, ?_, ?_, ?_, ?_, ?_, ?_⟩
           all_goals first
             | with_reducible exact late_cell HB6 lx (by with_reducible assumption)
             | with_reducible exact late_step HB6)
        | (go_split_ands; refine ⟨?_, ?_, ?_, ?_, ?_, ?_, ?_, ?_⟩ <;> with_reducible assumption))
      (first
        | (go_at_call 165; go_split_ands; refine (KB.out _).mono ?_; rintro e2 w5 ⟨rfl, hb⟩; (have hsz5 := Nat.le_trans (size_le (w2 := w2) (by with_reducible assumption)) hb.size); try (with_reducible have hz5 := Lib.hid (((Reg.new w2 0 0 0 0).drew).below hb (by simp))))
        | (go_at_call 83; go_split_ands; refine (KS.out _ (HR.out.below (HB2.out.trans ((show Below w2.heap.size w2 _ by with_reducible assumption).mono HB2.out.size)))).mono ?_; rintro e2 w6 ⟨rfl, hb⟩; (have HB6 := Lib.hid (held_step (w2 := w2) (by with_reducible assumption) hb)); first | (with_reducible have hz6 := Lib.hid (hz5.out.below hb hz5.out.lt); obtain ⟨z1, z2, z3, z4, z5, z6, z7, z8, z9⟩ := zreg hz6.out) | (with_reducible have hz6 := Lib.hid ((Reg.new w5 0 0 0 0).below hb (by simp)); obtain ⟨z1, z2, z3, z4, z5, z6, z7, z8, z9⟩ := zreg hz6.out) | skip))
    all_goals
      rename_i hHeld
      have hHB := hHeld.2.2.2.2.2.2.2
      clear hHeld
      go_wp2_with fail
      go_meet
      first
        | exact ⟨_, rfl, reg_stored4 hz6.out, rfl, hHB⟩
        | exact ⟨_, rfl, Reg.new _ _ _ _ _, rfl, hHB⟩
  case rest =>
    obtain ⟨kb, rfl, RB, rfl, bc⟩ := hcut
    have HZ := Lib.hid (HZ0.out.below bc hzs)
    have HB := Lib.hid (HB2.out.trans (bc.mono HB2.out.size))
    obtain ⟨r0, r1', r2', r3⟩ := RB.cells
    have lb := RB.lt
    obtain ⟨d0, d1, d2, d3⟩ := HZ.out.cells
    have ld := HZ.out.lt
    have q0 := frozen_of_row wc _ 0 _ _ HZ.out
    have q1 := frozen_of_row wc _ 1 _ _ HZ.out
    have q2 := frozen_of_row wc _ 2 _ _ HZ.out
    have q3 := frozen_of_row wc _ 3 _ _ HZ.out
    clear bc RB c0 c1 c2 c3 c4 c5 c6 HB2 HZ0
    go_wp2_with fail
    have B3 := HB.out
    exact bodyPost_ret (v := reg (X - R + 1 - n) (Y - R + 1 - n) (2 * R - 1 + 2 * n) (2 * R - 1 + 2 * n)) (by simp [results, Try.results96, go_sem, *]) rfl ⟨rfl, (by have hszz := B3.size; repeat (first | with_reducible exact B3 | with_reducible apply Below.drew | with_reducible refine below_drewN ?_ _ | (with_reducible refine Below.setCell ?_ ?_ _; rotate_left; focus (first | omega | (simp <;> omega))) | (with_reducible refine Below.alloc ?_ ?_ _; rotate_left; focus (first | omega | (simp <;> omega)))))⟩
end Go.Proofs.Ytfmbekdfigbfiaa

namespace Go.Proofs.Ytfmbekdfigbfiaa
open Go.ChangeShapes Go.WideShapes Go.ChangeAt Go.RowKit
open Ieee.Format (fin finE htE allFin allHt all_true all_false mulF subF addF Ht Bd divF rootF floorF easeF mixF)
set_option linter.unusedVariables false

set_option maxRecDepth 100000 in
theorem grown2_any (X Y W H n : Int) (w : World) (z1 : 1 ≤ W) (z2 : W ≤ 1024) (z3 : 1 ≤ H) (z4 : H ≤ 1024) (z5 : -5000000 ≤ X) (z6 : -5000000 ≤ Y) (z7 : X ≤ 5000000) (z8 : Y ≤ 5000000) (b1 : -512 ≤ n) (b2 : n ≤ 512) :
    Calls Try.prog 90 #[reg X Y W H, .int .i64 n] w fun e w' => e = .returned (reg (X - n) (Y - n) (W + 2 * n) (H + 2 * n)) ∧ Below w.heap.size w w' := by
  go_enter Try.func90, Try.ntmps90
  go_wp2
  exact bodyPost_ret (v := reg (X - n) (Y - n) (W + 2 * n) (H + 2 * n)) (by simp [results, Try.results90, go_sem, *]) rfl ⟨rfl, (by repeat (first | with_reducible exact Below.refl _ _ | with_reducible apply Below.drew | with_reducible refine below_drewN ?_ _ | (with_reducible refine Below.setCell ?_ ?_ _; rotate_left; focus (first | omega | (simp <;> omega))) | (with_reducible refine Below.alloc ?_ ?_ _; rotate_left; focus (first | omega | (simp <;> omega)))))⟩
set_option maxRecDepth 100000 in
set_option maxHeartbeats 6000000 in
theorem refreach_any (L : List Ed) (a : Option Addr) (cap k : Nat) (w : World) (hr : EdRow w a L) (hn : L.length ≤ 12) (hcap : L.length ≤ cap) (hcap2 : cap ≤ 9223372036854775807) (hk : k < L.length) (he : (edAt L k).ok) :
    Calls Try.prog 33 #[.slice a L.length cap, .int .i64 (k : Int)] w fun en w' => en = .returned (reg ((edAt L k).X - (edAt L k).R + 1 - (softN (L.drop (k + 1)) : Int)) ((edAt L k).Y - (edAt L k).R + 1 - (softN (L.drop (k + 1)) : Int)) (2 * (edAt L k).R - 1 + 2 * (softN (L.drop (k + 1)) : Int)) (2 * (edAt L k).R - 1 + 2 * (softN (L.drop (k + 1)) : Int))) ∧ Below w.heap.size w w' := by
  have hdl : (L.drop (k + 1)).length = L.length - (k + 1) := List.length_drop
  obtain ⟨_, _, pb0, r10, r20, _⟩ := brush_zero he.b
  have KB := Lib.hid (fun w => brushbox_any (edAt L k).bk (edAt L k).X (edAt L k).Y (edAt L k).R (edAt L k).h w pb0 r10 r20)
  clear pb0 r10 r20
  have hs : softN (L.drop (k + 1)) ≤ 12 := by have := softN_le (L.drop (k + 1)); omega
  obtain ⟨_, _, pb, r1, r2, _⟩ := brush_zero he.b
  rcases hr.2 with h0 | ⟨b, o, rfl, hb, hc⟩
  · rw [h0] at hk; exact absurd hk (by simp)
  obtain ⟨c0, c1, c2, c3, c4, c5, c6⟩ := hc.seven hk
  have HR := Lib.hid hr
  clear hc hdl he hr
  generalize edAt L k = e at *
  obtain ⟨kd, bk, X, Y, R, h, t⟩ := e
  simp only at *
  have hk' : (k : Int) < (L.length : Int) := by omega
  obtain ⟨k1, hk1⟩ : ∃ k1, k1 = k + 1 := ⟨_, rfl⟩
  have e1 : IntKind.i64.wrap ((k : Int) + 1) = (k1 : Int) := by rw [IntWalk.i64_in _ (by omega)]; omega
  have hk2 : (k1 : Int) ≤ (L.length : Int) := by omega
  have hk3 : (0 : Int) ≤ (k1 : Int) := by omega
  have hcase : (∃ P Q R', (∀ w', (Instr.slice 61 (.slice (some ⟨b, o, none⟩) L.length cap) (some (.int .i64 (k1 : Int))) none none).run Try.prog w' = .ok (.slice P Q R') w') ∧ ∀ w', EdRow w' (some ⟨b, o, none⟩) L → Calls Try.prog 89 #[.slice P Q R'] w' fun en w2 => en = .returned (.int .i64 (softN (L.drop k1) : Int)) ∧ Below w'.heap.size w' w2) := by
    refine ⟨if cap = k1 then some ⟨b, o, none⟩ else some ⟨b, o + k1 * 7, none⟩, L.length - k1, cap - k1, fun w' => ?_, fun w' h' => ?_⟩
    · have hsz : ((sizeOf (Try.prog.elem 61)).run Try.prog w') = .ok 7 w' := by kernel_rfl
      rw [run_slice_l w' 61 (some ⟨b, o, none⟩) L.length cap (by kernel_rfl) .i64 (k1 : Int) hk3 hk2, hsz]
      simp only [Result.andThen, sliced, Int.toNat_natCast]
      by_cases c : cap = k1
      · simp [c]
      · simp only [if_neg c, Option.map_some, Go.WideShapes.add_plain]
    · have h1 := refsoftens_any (L.drop k1) _ (cap - k1) w' (h'.drop k1 cap hcap) (by rw [List.length_drop]; omega)
      rw [List.length_drop] at h1
      have e : (if cap = k1 then (some ⟨b, o, none⟩ : Option Addr) else (some ⟨b, o, none⟩ : Option Addr).map (·.add (k1 * 7))) = if cap = k1 then some ⟨b, o, none⟩ else some ⟨b, o + k1 * 7, none⟩ := by
        by_cases c : cap = k1
        · simp [c]
        · simp only [if_neg c, Option.map_some, Go.WideShapes.add_plain]
      rwa [e] at h1
  obtain ⟨P, Q, R', ksl, ks⟩ := hcase
  have KS := Lib.hid ks
  rw [← hk1] at hs ⊢
  clear ks hk1 hk2 hk3
  generalize hnn : softN (L.drop k1) = n at *
  have KG := Lib.hid (fun w => grown2_any (X - R + 1) (Y - R + 1) (2 * R - 1) (2 * R - 1) (n : Int) w (by omega) (by omega) (by omega) (by omega) (by omega) (by omega) (by omega) (by omega) (by omega) (by omega))
  go_enter Try.func33, Try.ntmps33
  go_upto_region 1 with fail
  have BA : Below w.heap.size w (w.alloc (.cells #[.int .i64 0, .int .i64 0, .int .i64 0, .int .i64 0] 23)) := (by repeat (first | with_reducible exact Below.refl _ _ | with_reducible apply Below.drew | with_reducible refine below_drewN ?_ _ | (with_reducible refine Below.setCell ?_ ?_ _; rotate_left; focus (first | omega | (simp <;> omega))) | (with_reducible refine Below.alloc ?_ ?_ _; rotate_left; focus (first | omega | (simp <;> omega)))))
  have HZ0 := Lib.hid (Reg.new w 0 0 0 0)
  have HB2 := Lib.hid BA
  have lx : b < w.heap.size := hb
  have k0 := fun {p : Addr} {v : Value} (hp : p.block < w.heap.size) (h : w.cell? p = some v) => (BA.cell hp).trans h
  have c0 := k0 (p := ⟨b, o + k * 7, none⟩) hb c0
  have c1 := k0 (p := ⟨b, o + k * 7 + 1, none⟩) hb c1
  have c2 := k0 (p := ⟨b, o + k * 7 + 2, none⟩) hb c2
  have c3 := k0 (p := ⟨b, o + k * 7 + 3, none⟩) hb c3
  have c4 := k0 (p := ⟨b, o + k * 7 + 4, none⟩) hb c4
  have c5 := k0 (p := ⟨b, o + k * 7 + 5, none⟩) hb c5
  have c6 := k0 (p := ⟨b, o + k * 7 + 6, none⟩) hb c6
  have hzs : w.heap.size < (w.alloc (.cells #[.int .i64 0, .int .i64 0, .int .i64 0, .int .i64 0] 23)).heap.size := HZ0.out.lt
  clear k0 BA
  generalize w.alloc (.cells #[.int .i64 0, .int .i64 0, .int .i64 0, .int .i64 0] 23) = w2 at *
  go_region_held3 (fun w' => w'.cell? ⟨b, o + k * 7, none⟩ = some (.int .i64 kd) ∧ w'.cell? ⟨b, o + k * 7 + 1, none⟩ = some (.int .i64 bk) ∧ w'.cell? ⟨b, o + k * 7 + 2, none⟩ = some (.int .i64 X) ∧ w'.cell? ⟨b, o + k * 7 + 3, none⟩ = some (.int .i64 Y) ∧ w'.cell? ⟨b, o + k * 7 + 4, none⟩ = some (.int .i64 R) ∧ w'.cell? ⟨b, o + k * 7 + 5, none⟩ = some (.float .f32 h) ∧ w'.cell? ⟨b, o + k * 7 + 6, none⟩ = some (.float .f32 t) ∧ Below w.heap.size w w')
    (first
      | exact ⟨c0, c1, c2, c3, c4, c5, c6, HB2.out.drew⟩
      | (go_split_ands
         refine ⟨?_, ?_, ?_, ?_, ?_, ?_, ?_, ?_⟩
         all_goals first
           | with_reducible exact held_cell (by with_reducible assumption) hb lx (by with_reducible assumption)
           | with_reducible exact held_step (by with_reducible assumption) hb)
      | (go_split_ands
         refine ⟨?_, ?_, ?_, ?_, ?_, ?_, ?_, ?_⟩
         all_goals first
           | with_reducible exact held_cell (by with_reducible assumption) ((Below.refl _ _).alloc (Nat.le_refl _) _) lx (by with_reducible assumption)
           | with_reducible exact held_step (by with_reducible assumption) ((Below.refl _ _).alloc (Nat.le_refl _) _))
      | (go_split_ands
         refine ⟨?_, ?_, ?_, ?_, ?_, ?_, ?_, ?_⟩
         all_goals first
           | with_reducible exact first_cell lx (by with_reducible assumption)
           | with_reducible exact first_step)
      | (go_split_ands
         refine ⟨?_, ?_, ?_, ?_, ?_, ?_, ?_, ?_⟩
         all_goals first
           | with_reducible exact set_cell (by with_reducible assumption) (by first | with_reducible exact Nat.le_refl _ | with_reducible assumption | with_reducible exact size_le (by with_reducible assumption)) _ _ _ _ lx (by with_reducible assumption)
           | with_reducible exact Below.trans (by with_reducible assumption) (held_set (by with_reducible assumption) (by first | with_reducible exact Nat.le_refl _ | with_reducible assumption | with_reducible exact size_le (by with_reducible assumption)) _ _ _ _))
      | (go_split_ands
         refine ⟨?_, ?_, ?_, ?_, ?_, ?_, ?_, ?_⟩
         all_goals first
           | with_reducible exact late_cell HB6 lx (by with_reducible assumption)
           | with_reducible exact late_step HB6)
      | (go_split_ands; refine ⟨?_, ?_, ?_, ?_, ?_, ?_, ?_, ?_⟩ <;> with_reducible assumption))
    (first
      | (go_at_call 97; go_split_ands; refine (KB.out _).mono ?_; rintro e2 w5 ⟨rfl, hb⟩; (have hz5 := Lib.hid ((HZ0.out.drew).below hb hzs)))
      | (go_at_call 89; go_split_ands; refine (KS.out _ (HR.out.below (show Below w.heap.size w _ by with_reducible assumption))).mono ?_; rintro e2 w6 ⟨rfl, hb⟩; (have hz6 := Lib.hid (hz5.out.below hb hz5.out.lt)))
      | (go_at_call 90; go_split_ands; refine (KG.out _).mono ?_; rintro e2 w7 ⟨rfl, hb⟩; (have hz7 := Lib.hid (hz6.out.below hb hz6.out.lt)); obtain ⟨z1, z2, z3, z4, z5, z6, z7, z8, z9⟩ := zreg hz7.out))
  rename_i hHeld
  have HB := Lib.hid hHeld.2.2.2.2.2.2.2
  clear hHeld
  go_wp2_with fail
  have B3 := HB.out
  exact bodyPost_ret (v := reg (X - R + 1 - n) (Y - R + 1 - n) (2 * R - 1 + 2 * n) (2 * R - 1 + 2 * n)) (by simp [results, Try.results33, go_sem, *]) rfl ⟨rfl, B3⟩
set_option maxRecDepth 100000 in
theorem Reach_in (L : List Ed) (a : Option Addr) (cap k : Nat) (w : World) (hr : EdRow w a L) (hn : L.length ≤ 12) (hcap : L.length ≤ cap) (hcap2 : cap ≤ 9223372036854775807) (hk : k < L.length) (he : (edAt L k).ok) :
    Calls Try.prog 32 #[.slice a L.length cap, .int .i64 (k : Int)] w fun en w' => en = .returned (.tuple #[reg ((edAt L k).X - (edAt L k).R + 1 - (softN (L.drop (k + 1)) : Int)) ((edAt L k).Y - (edAt L k).R + 1 - (softN (L.drop (k + 1)) : Int)) (2 * (edAt L k).R - 1 + 2 * (softN (L.drop (k + 1)) : Int)) (2 * (edAt L k).R - 1 + 2 * (softN (L.drop (k + 1)) : Int)), .int .i64 0]) ∧ Below w.heap.size w w' := by
  have K := Lib.hid (fun w h => reach_any L a cap k w h hn hcap hcap2 hk he)
  have HR := Lib.hid hr
  have hk' : (k : Int) < (L.length : Int) := by omega
  generalize (edAt L k).X - (edAt L k).R + 1 - (softN (L.drop (k + 1)) : Int) = A at *
  generalize (edAt L k).Y - (edAt L k).R + 1 - (softN (L.drop (k + 1)) : Int) = B at *
  generalize 2 * (edAt L k).R - 1 + 2 * (softN (L.drop (k + 1)) : Int) = D at *
  clear hr he
  have BA : Below w.heap.size w (w.alloc (.cells #[.int .i64 0, .int .i64 0, .int .i64 0, .int .i64 0] 23)) := (by repeat (first | with_reducible exact Below.refl _ _ | with_reducible apply Below.drew | with_reducible refine below_drewN ?_ _ | (with_reducible refine Below.setCell ?_ ?_ _; rotate_left; focus (first | omega | (simp <;> omega))) | (with_reducible refine Below.alloc ?_ ?_ _; rotate_left; focus (first | omega | (simp <;> omega)))))
  have HZ0 := Lib.hid (Reg.new w 0 0 0 0)
  go_enter Try.func32, Try.ntmps32
  go_wp2_with fail
  generalize w.alloc (.cells #[.int .i64 0, .int .i64 0, .int .i64 0, .int .i64 0] 23) = W0 at *
  refine (K.out _ (HR.out.below BA)).mono ?_
  rintro e w1 ⟨rfl, b1⟩
  have HZ := Lib.hid (HZ0.out.below b1 HZ0.out.lt)
  have HB := Lib.hid (BA.trans (b1.mono BA.size))
  clear b1 BA HZ0
  obtain ⟨d0, d1, d2, d3⟩ := HZ.out.cells
  have ld := HZ.out.lt
  have q0 := frozen_of_row w1 _ 0 _ _ HZ.out
  have q1 := frozen_of_row w1 _ 1 _ _ HZ.out
  have q2 := frozen_of_row w1 _ 2 _ _ HZ.out
  have q3 := frozen_of_row w1 _ 3 _ _ HZ.out
  go_wp2_with fail
  have B3 := HB.out
  exact bodyPost_ret (v := .tuple #[reg A B D D, .int .i64 0]) (by simp [results, Try.results32, go_sem, *]) rfl ⟨rfl, (by have hszz := B3.size; repeat (first | with_reducible exact B3 | with_reducible apply Below.drew | with_reducible refine below_drewN ?_ _ | (with_reducible refine Below.setCell ?_ ?_ _; rotate_left; focus (first | omega | (simp <;> omega))) | (with_reducible refine Below.alloc ?_ ?_ _; rotate_left; focus (first | omega | (simp <;> omega)))))⟩
set_option maxRecDepth 100000 in
theorem Reach_out (L : List Ed) (a : Option Addr) (cap : Nat) (k : Int) (w : World) (hn : L.length ≤ 12) (hk : k < 0 ∨ (L.length : Int) ≤ k) :
    Calls Try.prog 32 #[.slice a L.length cap, .int .i64 k] w fun en w' => en = .returned (.tuple #[reg 0 0 0 0, .int .i64 11]) ∧ Below w.heap.size w w' := by
  have hk2 : k < 0 ∨ ¬ k < 0 ∧ (L.length : Int) ≤ k := by omega
  clear hk
  rcases hk2 with h | ⟨h1, h2⟩
  all_goals
    go_enter Try.func32, Try.ntmps32
    go_wp2
    exact bodyPost_ret (v := .tuple #[reg 0 0 0 0, .int .i64 11]) (by simp [results, Try.results32, go_sem, *]) rfl ⟨rfl, (by repeat (first | with_reducible exact Below.refl _ _ | with_reducible apply Below.drew | with_reducible refine below_drewN ?_ _ | (with_reducible refine Below.setCell ?_ ?_ _; rotate_left; focus (first | omega | (simp <;> omega))) | (with_reducible refine Below.alloc ?_ ?_ _; rotate_left; focus (first | omega | (simp <;> omega)))))⟩
end Go.Proofs.Ytfmbekdfigbfiaa

namespace Go.Proofs.Ytfmbekdfigbfiaa
open Go.ChangeShapes Go.WideShapes Go.ChangeAt Go.RowKit
open Ieee.Format (fin finE htE allFin allHt all_true all_false mulF subF addF Ht Bd divF rootF floorF easeF mixF)
set_option linter.unusedVariables false

theorem Try.infoEd : (Try.prog.info? 68).map (fun i => (i.zero, i.size, i.bytes)) = some (some (.agg #[.int .i64 0, .int .i64 0, .int .i64 0, .int .i64 0, .int .i64 0, .float .f32 0, .float .f32 0]), 7, 56) := by kernel_rfl
/-- the cells of a row of edits -/
def edsL (L : List Ed) : List Value := L.flatMap fun e => (edC e).toList
theorem edsL_len (L : List Ed) : (edsL L).length = L.length * 7 := by
  induction L with
  | nil => rfl
  | cons a L ih =>
    have e : edsL (a :: L) = (edC a).toList ++ edsL L := rfl
    rw [e, List.length_append, ih, List.length_cons]
    have : (edC a).toList.length = 7 := rfl
    omega
theorem edsL_get (L : List Ed) (i : Nat) (hi : i < L.length) (t : Nat) (ht : t < 7) : (edsL L)[i * 7 + t]? = (edC (edAt L i))[t]? := by
  induction L generalizing i with
  | nil => simp at hi
  | cons a L ih =>
    have e : edsL (a :: L) = (edC a).toList ++ edsL L := rfl
    have hl : (edC a).toList.length = 7 := rfl
    rw [e]
    cases i with
    | zero => rw [Nat.zero_mul, Nat.zero_add, List.getElem?_append_left (by rw [hl]; exact ht)]; simp [edAt]
    | succ i =>
      rw [List.getElem?_append_right (by rw [hl]; omega), hl, show (i + 1) * 7 + t - 7 = i * 7 + t by omega]
      exact ih i (by simpa using hi)
theorem edsL_at (L : List Ed) (j : Nat) (hj : j < L.length * 7) : (edsL L)[j]? = (edC (edAt L (j / 7)))[j % 7]? := by
  have := edsL_get L (j / 7) (by omega) (j % 7) (by omega)
  rwa [show j / 7 * 7 + j % 7 = j by omega] at this
set_option maxRecDepth 100000 in
set_option maxHeartbeats 1000000 in
/-- slices.Clone on edits -/
theorem edclone_any (b o c : Nat) (L : List Ed) (w : World) (hr : EdRow w (some ⟨b, o, none⟩) L) (hn : L.length ≤ 12) (h0 : L ≠ []) :
    Calls Try.prog 35 #[.slice (some ⟨b, o, none⟩) L.length c] w fun e w' => (∃ g cap, e = .returned (.slice (some ⟨g, 0, none⟩) L.length cap) ∧ w'.ownsRow w.heap.size 68 7 (.slice (some ⟨g, 0, none⟩) L.length cap) L.length (edsL L)) ∧ Below w.heap.size w w' := by
  obtain ⟨i0, hi, hz0, hz1, hz2⟩ := info_parts Try.infoEd
  obtain ⟨b1, o1, e1, hblt, hcells⟩ : ∃ b1 o1, (some ⟨b, o, none⟩ : Option Addr) = some ⟨b1, o1, none⟩ ∧ b1 < w.heap.size ∧ EdCells w b1 o1 L := by
    rcases hr.2 with h | h
    · exact absurd h h0
    · exact h
  simp only [Option.some.injEq, Addr.mk.injEq, and_true] at e1
  obtain ⟨rfl, rfl⟩ := e1
  have hlen : 0 < L.length := List.length_pos_iff.2 h0
  have hown := World.ownsRow_lit (base := w.heap.size) (e := 68) (size := 7) w #[] 0 (Nat.le_refl _) (by decide) rfl
  have hnews : ∀ j u, (edsL L)[j]? = some u → (w.alloc (.cells #[] 68)).cell? ((⟨b, o, none⟩ : Addr).add j) = some u := by
    intro j u hu
    have hj : j < L.length * 7 := by
      have := (List.getElem?_eq_some_iff.1 hu).1
      rwa [edsL_len] at this
    rw [edsL_at L j hj] at hu
    have hc := hcells (j / 7) (by omega) (j % 7) (by omega)
    rw [Go.WideShapes.add_plain, World.cell?_alloc_lt w _ ⟨b, o + j, none⟩ hblt, ← hu, ← hc]
    congr 2
    omega
  have hone : ∀ u ∈ edsL L, u.oneCell' = true := by
    intro u hu
    unfold edsL at hu
    obtain ⟨e, _, he⟩ := List.mem_flatMap.1 hu
    unfold edC at he
    simp only [List.mem_cons, List.mem_nil_iff, or_false] at he
    rcases he with rfl | rfl | rfl | rfl | rfl | rfl | rfl <;> rfl
  have HC := Lib.hid hnews
  have HO := Lib.hid hone
  have HW2 := Lib.hid hown
  have HF := Lib.hid (edsL_len L)
  clear hcells hnews hone hown h0 hr
  have kn := fun w => Lib.run_eql_slice_nil (P := Try.prog) w 61 68 (some ⟨b, o, none⟩) L.length c 0 0 Try.underlying61
  have G1 : Hid (0 + L.length ≤ maxLen) := by unfold maxLen Hid; omega
  have G2 : Hid ((0 + L.length) * 56 ≤ 140737488355328) := by unfold Hid; omega
  have G3 : Hid (w.heap.size ≤ (w.alloc (.cells #[] 68)).heap.size) := by unfold Hid; simp
  go_enter Try.func35, Try.ntmps35
  go_wp2_with (at_builtin; refine wpList_append_own _ rfl _ _ 61 rfl w.heap.size 68 i0 (.agg #[.int .i64 0, .int .i64 0, .int .i64 0, .int .i64 0, .int .i64 0, .float .f32 0, .float .f32 0]) 7 56 Try.underlying61 hi hz0 hz1 hz2 rfl (by decide) _ 0 [] rfl HW2.out ⟨b, o, none⟩ L.length c (edsL L) rfl HF.out HC.out HO.out G1.out G2.out G3.out ?_; intro v' w1 hown' hgrow hnil)
  have HO1 := Lib.hid hown'
  have HG1 := Lib.hid hgrow
  clear hown' hgrow hnil
  go_wp2
  go_ret
  have hfo : w1.ownsRow w.heap.size 68 7 v' L.length (edsL L) := by simpa using HO1.out
  rcases hfo.2 with ⟨_, h0⟩ | ⟨g, cap, cur, rfl, hg, hh, hr⟩
  · omega
  · refine ⟨⟨g, cap, rfl, hfo⟩, ?_⟩
    have ha : Below w.heap.size w (w.alloc (.cells #[] 68)) := (by repeat (first | with_reducible exact Below.refl _ _ | with_reducible apply Below.drew | with_reducible refine below_drewN ?_ _ | (with_reducible refine Below.setCell ?_ ?_ _; rotate_left; focus (first | omega | (simp <;> omega))) | (with_reducible refine Below.alloc ?_ ?_ _; rotate_left; focus (first | omega | (simp <;> omega)))))
    exact ha.grown HG1.out G3.out (fun k hk => by have hk' : some w.heap.size = some k := hk; cases hk'; exact Nat.le_refl _)
end Go.Proofs.Ytfmbekdfigbfiaa

namespace Go.Proofs.Ytfmbekdfigbfiaa
open Go.ChangeShapes Go.WideShapes Go.ChangeAt Go.RowKit
open Ieee.Format (fin finE htE allFin allHt all_true all_false mulF subF addF Ht Bd divF rootF floorF easeF mixF)
set_option linter.unusedVariables false

theorem below_setCells {B b : Nat} (hb : B ≤ b) : ∀ (vs : List Value) (o : Nat) (w w' : World), Below B w w' → Below B w (w'.setCells b o vs)
  | [], _, _, _, h => h
  | v :: r, o, w, w', h => below_setCells hb r (o + 1) w _ (h.setCell hb _)
theorem frozen_setCells (b : Nat) : ∀ (vs : List Value) (o : Nat) (w : World) (p : Addr), (w.setCells b o vs).frozen? p = w.frozen? p
  | [], _, _, _ => rfl
  | v :: r, o, w, p => by
    rw [World.setCells, frozen_setCells b r (o + 1) _ p]
    exact World.frozen?_setCell _ _ _ _
def zed : List Value := [.int .i64 0, .int .i64 0, .int .i64 0, .int .i64 0, .int .i64 0, .float .f32 0, .float .f32 0]
theorem run_clear_edit (w : World) (ty : TypeId) (b o c : Nat) (hc : ∀ j, j < 7 → (w.cell? ⟨b, o + j, none⟩).isSome = true) (hf : ∀ j, j < 7 → w.frozen? ⟨b, o + j, none⟩ = false) :
    (Builtin.clear_ #[61] ty #[.slice (some ⟨b, o, none⟩) 1 c]).run Try.prog w = .ok (.tuple #[]) (w.setCells b o zed) := by
  have hv : ∀ w, (zeroValue 68).run Try.prog w = .ok (.agg #[.int .i64 0, .int .i64 0, .int .i64 0, .int .i64 0, .int .i64 0, .float .f32 0, .float .f32 0]) w := fun _ => by kernel_rfl
  have hzc : (Builtin.zeroCells (Value.agg #[.int .i64 0, .int .i64 0, .int .i64 0, .int .i64 0, .int .i64 0, .float .f32 0, .float .f32 0]).cells 1).toList = zed := by kernel_rfl
  have hst := run_storeCells_cells (P := Try.prog) b o zed 0 w (by simpa [zed] using hc) (by simpa [zed] using hf) (by intro v hv'; simp [zed] at hv'; rcases hv' with rfl | rfl | rfl | rfl | rfl | rfl | rfl <;> rfl)
  simp only [Nat.add_zero] at hst
  simp [Builtin.clear_, run_underlying Try.underlying61, hv, hzc, hst]
theorem edAt_del {L : List Ed} {k i : Nat} (hk : k < L.length) : edAt (L.take k ++ L.drop (k + 1)) i = if i < k then edAt L i else edAt L (i + 1) := by
  unfold edAt
  rw [List.getD_eq_getElem?_getD, List.getD_eq_getElem?_getD, List.getD_eq_getElem?_getD]
  split
  · rename_i h
    rw [List.getElem?_append_left (by rw [List.length_take]; omega), List.getElem?_take_of_lt h]
  · rename_i h
    rw [List.getElem?_append_right (by rw [List.length_take]; omega), List.length_take, List.getElem?_drop, show k + 1 + (i - min k L.length) = i + 1 by omega]
theorem edsL_drop (L : List Ed) (k : Nat) (hk : k ≤ L.length) : (edsL L).drop (k * 7) = edsL (L.drop k) := by
  apply List.ext_getElem?
  intro j
  rw [List.getElem?_drop]
  by_cases h : j < (L.drop k).length * 7
  · rw [List.length_drop] at h
    rw [edsL_at L (k * 7 + j) (by omega), edsL_at (L.drop k) j (by rw [List.length_drop]; exact h)]
    have e : edAt (L.drop k) (j / 7) = edAt L ((k * 7 + j) / 7) := by
      unfold edAt
      rw [List.getD_eq_getElem?_getD, List.getD_eq_getElem?_getD, List.getElem?_drop, show (k * 7 + j) / 7 = k + j / 7 by omega]
    rw [e, show (k * 7 + j) % 7 = j % 7 by omega]
  · rw [List.length_drop] at h
    rw [List.getElem?_eq_none (by rw [edsL_len]; omega), List.getElem?_eq_none (by rw [edsL_len, List.length_drop]; omega)]
/-- the memory behind slices.Delete -/
theorem del_world {w : World} {B g cap k : Nat} {L : List Ed} (hown : w.ownsRow B 68 7 (.slice (some ⟨g, 0, none⟩) L.length cap) L.length (edsL L)) (hk : k < L.length) (hn : L.length ≤ 12) (hwf : ∀ e ∈ L, e.h < 4294967296 ∧ e.t < 4294967296) (hB : B ≤ w.heap.size) :
    EdRow (((w.drew).setCells g (k * 7) (edsL (L.drop (k + 1)))).setCells g ((L.length - 1) * 7) zed) (some ⟨g, 0, none⟩) (L.take k ++ L.drop (k + 1)) ∧ Below B w (((w.drew).setCells g (k * 7) (edsL (L.drop (k + 1)))).setCells g ((L.length - 1) * 7) zed) := by
  have hl := hown.lt g rfl
  have hbel : Below B w (((w.drew).setCells g (k * 7) (edsL (L.drop (k + 1)))).setCells g ((L.length - 1) * 7) zed) :=
    below_setCells hl.1 _ _ _ _ (below_setCells hl.1 _ _ _ _ (Below.refl _ _).drew)
  have hlen : (L.take k ++ L.drop (k + 1)).length = L.length - 1 := by rw [List.length_append, List.length_take, List.length_drop]; omega
  refine ⟨⟨⟨by omega, fun e he => ?_⟩, .inr ⟨g, 0, rfl, Nat.lt_of_lt_of_le hl.2 (below_setCells (Nat.zero_le _) _ _ _ _ (below_setCells (Nat.zero_le _) _ _ _ _ (Below.refl 0 w).drew)).size, fun i hi j hj => ?_⟩⟩, hbel⟩
  · rcases List.mem_append.1 he with he | he
    · exact hwf e (List.mem_of_mem_take he)
    · exact hwf e (List.mem_of_mem_drop he)
  · rw [hlen] at hi
    have hdl : (edsL (L.drop (k + 1))).length = (L.length - (k + 1)) * 7 := by rw [edsL_len, List.length_drop]
    rw [World.cell?_setCells_out g zed _ _ _ (fun _ _ => .inl (by show 0 + i * 7 + j < (L.length - 1) * 7; omega)), edAt_del hk]
    split
    · rename_i h
      rw [World.cell?_setCells_out g _ _ _ _ (fun _ _ => .inl (by show 0 + i * 7 + j < k * 7; omega))]
      show w.cell? _ = _
      rw [show 0 + i * 7 + j = i * 7 + j by omega, hown.cellAt (i * 7 + j) (by omega)]
      exact edsL_get L i (by omega) j hj
    · rename_i h
      have hin := World.cell?_setCells_in g (edsL (L.drop (k + 1))) (k * 7) w.drew (fun t ht => by
        rw [hdl] at ht
        show (w.cell? _).isSome = true
        rw [hown.cellAt (k * 7 + t) (by omega), List.getElem?_eq_getElem (by rw [edsL_len]; omega)]; rfl) ((i - k) * 7 + j) (by rw [hdl]; omega)
      rw [show k * 7 + ((i - k) * 7 + j) = 0 + i * 7 + j by omega] at hin
      rw [hin, ← List.getElem?_eq_getElem, edsL_get (L.drop (k + 1)) (i - k) (by rw [List.length_drop]; omega) j hj]
      congr 2
      unfold edAt
      rw [List.getD_eq_getElem?_getD, List.getD_eq_getElem?_getD, List.getElem?_drop, show k + 1 + (i - k) = i + 1 by omega]
end Go.Proofs.Ytfmbekdfigbfiaa

namespace Go.Proofs.Ytfmbekdfigbfiaa
open Go.ChangeShapes Go.WideShapes Go.ChangeAt Go.RowKit
open Ieee.Format (fin finE htE allFin allHt all_true all_false mulF subF addF Ht Bd divF rootF floorF easeF mixF)
set_option linter.unusedVariables false

set_option maxRecDepth 100000 in
set_option maxHeartbeats 2000000 in
/-- slices.Delete of one edit, from a row of its own -/
theorem eddelete_any (B g cap k : Nat) (L : List Ed) (w : World) (hown : w.ownsRow B 68 7 (.slice (some ⟨g, 0, none⟩) L.length cap) L.length (edsL L)) (hk : k < L.length) (hn : L.length ≤ 12) (hwf : ∀ e ∈ L, e.h < 4294967296 ∧ e.t < 4294967296) (hB : B ≤ w.heap.size) :
    Calls Try.prog 34 #[.slice (some ⟨g, 0, none⟩) L.length cap, .int .i64 (k : Int), .int .i64 ((k : Int) + 1)] w fun e w' => e = .returned (.slice (some ⟨g, 0, none⟩) (L.take k ++ L.drop (k + 1)).length cap) ∧ EdRow w' (some ⟨g, 0, none⟩) (L.take k ++ L.drop (k + 1)) ∧ Below B w w' := by
  obtain ⟨d1, d2⟩ := del_world hown hk hn hwf hB
  have hlen : (L.take k ++ L.drop (k + 1)).length = L.length - 1 := by rw [List.length_append, List.length_take, List.length_drop]; omega
  rw [hlen]
  obtain ⟨i0, hi, hz0, hz1, hz2⟩ := info_parts Try.infoEd
  have hl := hown.lt g rfl
  obtain ⟨hcap, hcap2⟩ : L.length ≤ cap ∧ cap ≤ maxLen := by
    rcases hown.2 with ⟨h, _⟩ | ⟨g', cap', cur, h, _, _, h1, h2, _⟩
    · cases h
    · simp only [Value.slice.injEq, Option.some.injEq, Addr.mk.injEq, and_true, true_and] at h
      obtain ⟨_, rfl⟩ := h
      exact ⟨h1, h2⟩
  unfold maxLen at hcap2
  have hnl : (edsL (L.drop (k + 1))).length = (L.length - (k + 1)) * 7 := by rw [edsL_len, List.length_drop]
  have hcell : ∀ t, t < L.length * 7 → (w.cell? ⟨g, t, none⟩).isSome = true := fun t ht => by
    rw [hown.cellAt t ht, List.getElem?_eq_getElem (by rw [edsL_len]; exact ht)]; rfl
  -- the source of the append
  obtain ⟨A, hA, hsrc⟩ : ∃ A : Addr, (if cap = k + 1 then (some ⟨g, 0, none⟩ : Option Addr) else some ⟨g, (k + 1) * 7, none⟩) = some A ∧ ∀ t u, (edsL (L.drop (k + 1)))[t]? = some u → w.drew.cell? (A.add t) = some u := by
    by_cases h : cap = k + 1
    · refine ⟨⟨g, 0, none⟩, by simp [h], fun t u hu => ?_⟩
      have := (List.getElem?_eq_some_iff.1 hu).1
      rw [hnl] at this
      omega
    · refine ⟨⟨g, (k + 1) * 7, none⟩, by simp [h], fun t u hu => ?_⟩
      have ht := (List.getElem?_eq_some_iff.1 hu).1
      rw [hnl] at ht
      rw [Go.WideShapes.add_plain]
      show w.cell? ⟨g, (k + 1) * 7 + t, none⟩ = some u
      rw [hown.cellAt _ (by omega), ← hu, ← edsL_drop L (k + 1) (by omega), List.getElem?_drop]
  have s1 := Lib.hid hnl
  have HS := Lib.hid hsrc
  have s2 : Hid (∀ u ∈ edsL (L.drop (k + 1)), u.oneCell' = true) := Lib.hid (fun u hu => by
    unfold edsL at hu
    obtain ⟨e, _, he⟩ := List.mem_flatMap.1 hu
    unfold edC at he
    simp only [List.mem_cons, List.mem_nil_iff, or_false] at he
    rcases he with rfl | rfl | rfl | rfl | rfl | rfl | rfl <;> rfl)
  have s3 : Hid (∀ t, t < (edsL (L.drop (k + 1))).length → (w.drew.cell? ⟨g, 0 + k * 7 + t, none⟩).isSome = true ∧ w.drew.frozen? ⟨g, 0 + k * 7 + t, none⟩ = false) := Lib.hid (fun t ht => by
    rw [hnl] at ht
    exact ⟨hcell _ (by omega), hown.frozenAt _⟩)
  obtain ⟨W1, hW1⟩ : ∃ W1, W1 = w.drew.setCells g (0 + k * 7) (edsL (L.drop (k + 1))) := ⟨_, rfl⟩
  have hW1' : W1 = w.drew.setCells g (k * 7) (edsL (L.drop (k + 1))) := by rw [hW1, Nat.zero_add]
  have hcl : ∀ ty, (Builtin.clear_ #[61] ty #[.slice (some ⟨g, (L.length - 1) * 7, none⟩) 1 (cap - (L.length - 1))]).run Try.prog W1 = .ok (.tuple #[]) (W1.setCells g ((L.length - 1) * 7) zed) := fun ty =>
    run_clear_edit W1 ty g ((L.length - 1) * 7) _ (fun j hj => by
      rw [hW1]
      exact World.isSome_setCells g _ _ _ _ (hcell _ (by omega))) (fun j hj => by rw [hW1, frozen_setCells]; exact hown.frozenAt _)
  rw [← hW1'] at d1 d2
  have HQ := Lib.hid (And.intro d1 d2)
  have HW := Lib.hid hW1
  clear d1 d2 hW1 hW1' hown hcell hsrc hnl hwf hlen
  obtain ⟨n, hnn⟩ : ∃ n, n = L.length := ⟨_, rfl⟩
  obtain ⟨k1, hk1⟩ : ∃ k1, k1 = k + 1 := ⟨_, rfl⟩
  obtain ⟨n1, hn1⟩ : ∃ n1, n1 = L.length - 1 := ⟨_, rfl⟩
  rw [← hk1] at hA s1 s2 s3 HS HW
  rw [← hn1] at HQ hcl ⊢
  generalize edsL (L.drop k1) = news at *
  have hkk : ((k : Int) + 1) = (k1 : Int) := by omega
  rw [hkk]
  have hne : ((k : Int) == (k1 : Int)) = false := by
    have : ¬ (k : Int) = (k1 : Int) := by omega
    simpa using this
  have a1 : (0 : Int) ≤ (k : Int) := by omega
  have a2 : (k : Int) ≤ (k1 : Int) := by omega
  have a3 : (k1 : Int) ≤ (L.length : Int) := by omega
  have a4 : (L.length : Int) ≤ (cap : Int) := by omega
  have a5 : (k : Int) ≤ (cap : Int) := by omega
  have a6 : k + (L.length - k1) = n1 := by omega
  have a7 : L.length - n1 = 1 := by omega
  have a8 : (n1 : Int) ≤ (L.length : Int) := by omega
  have a9 : ¬ cap = n1 := by omega
  have hsz : ∀ w', ((sizeOf (Try.prog.elem 61)).run Try.prog w') = .ok 7 w' := fun w' => by kernel_rfl
  have ksl1 : ∀ w', (Instr.slice 61 (.slice (some ⟨g, 0, none⟩) L.length cap) none (some (.int .i64 (k : Int))) none).run Try.prog w' = .ok (.slice (some ⟨g, 0, none⟩) k cap) w' := fun w' => by
    rw [run_slice_h w' 61 (some ⟨g, 0, none⟩) L.length cap (by kernel_rfl) .i64 (k : Int) a1 a5, hsz]
    simp only [Result.andThen, sliced, Int.toNat_natCast, Nat.sub_zero, Nat.zero_mul, Option.map_some, Go.WideShapes.add_plain, Nat.add_zero, ite_self]
  have ksl2 : ∀ w', (Instr.slice 61 (.slice (some ⟨g, 0, none⟩) L.length cap) (some (.int .i64 (k1 : Int))) none none).run Try.prog w' = .ok (.slice (some A) (L.length - k1) (cap - k1)) w' := fun w' => by
    rw [run_slice_l w' 61 (some ⟨g, 0, none⟩) L.length cap (by kernel_rfl) .i64 (k1 : Int) (by omega) a3, hsz]
    simp only [Result.andThen, sliced, Int.toNat_natCast, Option.map_some, Go.WideShapes.add_plain, Nat.zero_add]
    rw [hA]
  have ksl3 : ∀ w', (Instr.slice 61 (.slice (some ⟨g, 0, none⟩) n1 cap) (some (.int .i64 (n1 : Int))) (some (.int .i64 (L.length : Int))) none).run Try.prog w' = .ok (.slice (some ⟨g, n1 * 7, none⟩) 1 (cap - n1)) w' := fun w' => by
    rw [run_slice_lh w' 61 (some ⟨g, 0, none⟩) n1 cap (by kernel_rfl) .i64 .i64 (n1 : Int) (L.length : Int) (by omega) a8 a4, hsz]
    simp only [Result.andThen, sliced, Int.toNat_natCast, Option.map_some, Go.WideShapes.add_plain, Nat.zero_add, if_neg a9, a7]
  clear hnn n hk1 hn1 hkk hsz
  go_enter Try.func34, Try.ntmps34
  go_upto_region 5 with fail
  go_region_law (refine step_append_room rfl (.tmp 22) (.tmp 25) 61 rfl 68 i0 7 Try.underlying61 hi hz1 g 0 k cap (by simp [Act.eval, Act.put]) A (L.length - k1) (cap - k1) news (by simp [Act.eval, Act.put]) s1.out HS.out s2.out (by omega) s3.out ?_; rw [← HW.out, a6])
  all_goals
    go_wp2_with fail
    go_ret
    exact ⟨rfl, HQ.out⟩
end Go.Proofs.Ytfmbekdfigbfiaa

namespace Go.Proofs.Ytfmbekdfigbfiaa
open Go.ChangeShapes Go.WideShapes Go.ChangeAt Go.RowKit
open Ieee.Format (fin finE htE allFin allHt all_true all_false mulF subF addF Ht Bd divF rootF floorF easeF mixF)
set_option linter.unusedVariables false
open Go.Joins Go.Deep

theorem cellsEd : Try.prog.cellsOf 68 = 7 := by kernel_rfl
theorem cellsBr : Try.prog.cellsOf 66 = 5 := by kernel_rfl
theorem cellsFl1 : Try.prog.cellsOf 27 = 1 := by kernel_rfl
theorem cellsIn1 : Try.prog.cellsOf 3 = 1 := by kernel_rfl
set_option maxRecDepth 100000 in
theorem open_edit_cells {H : Type} {enc : TypeId × Value → H} {W : World} {fuel : Nat} {cs : List Value} {x : DataW H × List MemPlace} (hl : cs.length = 7)
    (h : DataW.trod enc Try.prog W 0 (fun _ => true) true fuel 68 cs = some x) : ∃ e : Ed, cs = (edC e).toList ∧ e.h < 4294967296 ∧ e.t < 4294967296 := by
  match cs, hl with
  | [c0, c1, c2, c3, c4, c5, c6], _ =>
    obtain ⟨xs, m, _, _, _, hlen, hg⟩ := DataW.trod_struct Try.underlying68 h
    match xs, hlen with
    | [z0, z1, z2], _ =>
      have g0 := hg 0 _ rfl
      have g1 := hg 1 _ rfl
      have g2 := hg 2 _ rfl
      simp only [List.getElem_toArray, List.getElem_cons_zero, List.getElem_cons_succ, cellsIn1, cellsBr, cellsFl1, List.drop_zero, List.take_succ_cons, List.take_zero, List.drop_succ_cons, List.getElem?_cons_zero, List.getElem?_cons_succ] at g0 g1 g2
      obtain ⟨kd, e0, _, _⟩ := DataW.trod_int Try.underlying3 g0
      obtain ⟨t, e6, wt⟩ := trod_single (v := c6) (by simpa using g2)
      obtain ⟨ys, m2, _, _, _, hlen2, hg2⟩ := DataW.trod_struct Try.underlying66 g1
      match ys, hlen2 with
      | [y0, y1, y2, y3, y4], _ =>
        have b0 := hg2 0 _ rfl
        have b1 := hg2 1 _ rfl
        have b2 := hg2 2 _ rfl
        have b3 := hg2 3 _ rfl
        have b4 := hg2 4 _ rfl
        simp only [List.getElem_toArray, List.getElem_cons_zero, List.getElem_cons_succ, cellsIn1, cellsFl1, List.drop_zero, List.take_succ_cons, List.take_zero, List.drop_succ_cons, List.getElem?_cons_zero, List.getElem?_cons_succ] at b0 b1 b2 b3 b4
        obtain ⟨bk, e1, _, _⟩ := DataW.trod_int Try.underlying3 b0
        obtain ⟨X, e2, _, _⟩ := DataW.trod_int Try.underlying3 b1
        obtain ⟨Y, e3, _, _⟩ := DataW.trod_int Try.underlying3 b2
        obtain ⟨R, e4, _, _⟩ := DataW.trod_int Try.underlying3 b3
        obtain ⟨hh, e5, wh⟩ := trod_single b4
        simp at e0 e1 e2 e3 e4
        subst e0 e1 e2 e3 e4 e5 e6
        exact ⟨⟨kd, bk, X, Y, R, hh, t⟩, rfl, wh, wt⟩

set_option maxRecDepth 100000 in
theorem open_edits {H : Type} {enc : TypeId × Value → H} {W : World} {r : Reach} {b0 : Nat} {v : Value} {d : DataW H} {p : List MemPlace}
    (hv : Value.okWide Try.prog W r b0 61 v) (h : DataW.Trod enc Try.prog W 0 (fun _ => true) true 61 v d p) :
    ∃ (a : Option Addr) (L : List Ed) (cap : Nat), v = .slice a L.length cap ∧ EdRow W a L ∧ L.length ≤ cap ∧ cap ≤ 9223372036854775807 := by
  obtain ⟨a, len, cap, rfl⟩ := Go.WideShapes.okWide_slice Try.underlying61 hv
  obtain ⟨fuel, hf⟩ := h
  rcases Go.Deep.open_slice Try.underlying61 hf with ⟨hcs, _⟩ | ⟨a', len', cap', m, n, D, Pl, hcs, _, hl, hm, hmm, _, hc⟩
  · simp [Value.cells] at hcs
    obtain ⟨rfl, rfl, rfl⟩ := hcs
    exact ⟨none, [], 0, rfl, ⟨⟨Nat.zero_le _, fun _ h => absurd h List.not_mem_nil⟩, .inl rfl⟩, Nat.zero_le _, Nat.zero_le _⟩
  · simp [Value.cells] at hcs
    obtain ⟨rfl, rfl, rfl⟩ := hcs
    obtain rfl : m = cap := by simpa using hmm
    unfold maxLen at hm
    have hg : ∀ i, ∃ e : Ed, i < len → ((e.h < 4294967296 ∧ e.t < 4294967296) ∧ ∀ j, j < 7 → W.cell? ((a'.add (i * 7)).add j) = (edC e)[j]?) := by
      intro i
      by_cases hi : i < len
      · obtain ⟨cs', c1, c2⟩ := hc i (by omega)
        rw [cellsEd] at c1
        obtain ⟨_, hcl, hce⟩ := World.cells?_some c1
        obtain ⟨e, rfl, he, ht⟩ := open_edit_cells hcl c2
        refine ⟨e, fun _ => ⟨⟨he, ht⟩, fun j hj => ?_⟩⟩
        rw [hce j hj]
        simp
      · exact ⟨⟨0, 0, 0, 0, 0, 0, 0⟩, fun h => absurd h hi⟩
    obtain ⟨g, hgs⟩ := Classical.axiomOfChoice hg
    have hlen : ((List.range len).map g).length = len := by simp
    refine ⟨some a', (List.range len).map g, m, by rw [hlen], ⟨⟨by rw [hlen]; omega, ?_⟩, ?_⟩, by rw [hlen]; omega, by omega⟩
    · intro x hx
      obtain ⟨i, hi, rfl⟩ := List.mem_map.1 hx
      exact (hgs i (List.mem_range.1 hi)).1
    · by_cases h0 : len = 0
      · subst h0; exact .inl rfl
      · right
        obtain ⟨b, off, spot⟩ := a'
        have z := (hgs 0 (by omega)).2 0 (by omega)
        have hspot : spot = none := by simpa [Addr.add] using World.cell?_spot z
        subst hspot
        simp only [Go.WideShapes.add_plain] at z hgs
        refine ⟨b, off, rfl, ?_, fun i hi j hj => ?_⟩
        · rcases Nat.lt_or_ge b W.heap.size with hlt | hge
          · exact hlt
          · simp [World.cell?, Array.getElem?_eq_none hge, edC] at z
        · rw [hlen] at hi
          have e : edAt ((List.range len).map g) i = g i := by
            unfold edAt
            simp [List.getD_eq_getElem?_getD, List.getElem?_map, List.getElem?_range hi]
          rw [e]
          exact (hgs i hi).2 j hj
end Go.Proofs.Ytfmbekdfigbfiaa

namespace Go.Proofs.Ytfmbekdfigbfiaa
open Go.ChangeShapes Go.WideShapes Go.ChangeAt Go.RowKit
open Ieee.Format (fin finE htE allFin allHt all_true all_false mulF subF addF Ht Bd divF rootF floorF easeF mixF)
set_option linter.unusedVariables false

/-- the reference's Inside of one cell and a wider region -/
theorem refinside_wide (X Y W H : Int) (x y : Int) (w : World) (hw : 1 ≤ W) (hw2 : W ≤ 1024) (hh : 1 ≤ H) (hh2 : H ≤ 1024) (hx0 : -8388608 ≤ X) (hx1 : X ≤ 8388608) (hy0 : -8388608 ≤ Y) (hy1 : Y ≤ 8388608) :
    Calls Try.prog 36 #[reg x y 1 1, reg X Y W H] w fun e w' => e = .returned (.bool (decide (inR X Y W H x y))) ∧ Below w.heap.size w w' := by
  go_enter Try.func36, Try.ntmps36
  go_wp2
  all_goals
    go_ret
    refine ⟨ret_bool ?_, (by repeat (first | with_reducible exact Below.refl _ _ | with_reducible apply Below.drew | with_reducible refine below_drewN ?_ _ | (with_reducible refine Below.setCell ?_ ?_ _; rotate_left; focus (first | omega | (simp <;> omega))) | (with_reducible refine Below.alloc ?_ ?_ _; rotate_left; focus (first | omega | (simp <;> omega)))))⟩
    show _ = decide (inR X Y W H x y)
    unfold inR; grind

theorem EdRow.take {w : World} {a : Option Addr} {L : List Ed} (h : EdRow w a L) (n : Nat) : EdRow w a (L.take n) := by
  obtain ⟨⟨h0, h2⟩, h1⟩ := h
  refine ⟨⟨by rw [List.length_take]; omega, fun e he => h2 e (List.mem_of_mem_take he)⟩, ?_⟩
  rcases h1 with rfl | ⟨b, o, rfl, hb, hc⟩
  · left; simp
  · right
    refine ⟨b, o, rfl, hb, fun i hi j hj => ?_⟩
    have hi' : i < n ∧ i < L.length := by rw [List.length_take] at hi; omega
    have e : edAt (L.take n) i = edAt L i := by
      unfold edAt
      rw [List.getD_eq_getElem?_getD, List.getD_eq_getElem?_getD, List.getElem?_take, if_pos hi'.1]
    rw [e]
    exact hc i hi'.2 j hj
end Go.Proofs.Ytfmbekdfigbfiaa
