import Derived.Test.YtiiogjjjgoeghaaG13
import Derived.IntWalk
import Derived.BigQuiet
import Derived.BigRegion
import Derived.StillTailTactics
import Derived.Deep.DeepCutAuto
import Derived.Laws.CopyOwn
import Derived.Deep.CutBlock
namespace Go.Proofs.Ytiiogjjjgoeghaa
open Go.ChangeShapes Go.WideShapes Go.ChangeAt Go.RowKit
open Ieee.Format (fin finE htE allFin allHt all_true all_false mulF subF addF Ht Bd divF rootF floorF easeF mixF)
set_option linter.unusedVariables false
set_option linter.unusedSimpArgs false
open Ieee.Format (num fin_num Ry Bx stF upB Mn lvN lvN_pos ed Rc)

theorem look_any (X Y : Int) (Wn Hn K q b o c g gst gS N cB cT cS : Nat) (l : List Nat) (r : Ry) (hc : l.length ≤ c) (hr : Right X Y Wn Hn l) (hry : r.ok) (hK : Top Wn Hn K) (hN : N = offB Wn Hn (K + 1)) :
    ∀ L x y n S (P : Nat → Prop) w, LkW w q b o g gst gS l Wn Hn K → Sh w q X Y Wn Hn (.slice (some ⟨b, o, none⟩) l.length c) r S n → L ≤ K → x < lvN Wn L → y < lvN Hn L → (∀ k, P k → k < l.length) → Mn (stO r X Y Wn l) P S → n + nB Wn Hn L x y ≤ 1000000 →
    Calls Try.prog 23 #[.pointer (some ⟨q, 0, none⟩), .slice (some ⟨g, 0, none⟩) N cB, .slice (some ⟨gst, 0, none⟩) (K + 1) cT, .slice (some ⟨gS, 0, none⟩) (K + 1) cS, .int .i64 (L : Int), .int .i64 (x : Int), .int .i64 (y : Int)] w fun e w' => LkP q X Y Wn Hn L x y (.slice (some ⟨b, o, none⟩) l.length c) r l P n w e w' := by
  intro L
  induction L with
  | zero =>
    intro x y n S P w hw hs hL hx hy hP hm hn
    exact look_step X Y Wn Hn K q b o c g gst gS N cB cT cS 0 x y n l r S P w hc hr hry hK hN hw hs hL hx hy hP hm hn (fun h => absurd h (by omega))
  | succ L ih =>
    intro x y n S P w hw hs hL hx hy hP hm hn
    refine look_step X Y Wn Hn K q b o c g gst gS N cB cT cS (L + 1) x y n l r S P w hc hr hry hK hN hw hs hL hx hy hP hm hn (fun _ x' y' S' n' P' W h1 h2 h3 h4 h5 h6 h7 => ?_)
    exact ih x' y' n' S' P' W h1 h2 (by omega) h3 h4 h5 h6 h7

/-! ### follow -/
def zv (o : List Int) : Array Value := (o.map (Value.int .i64)).toArray
theorem zv_get {o : List Int} {i : Nat} (h : i < o.length) : (zv o)[i]? = some (.int .i64 (o.getD i 0)) := by
  unfold zv
  rw [List.getElem?_toArray, List.getElem?_map, List.getD_eq_getElem?_getD, List.getElem?_eq_getElem h]
  rfl
theorem zv_set (o : List Int) (i : Nat) (x : Int) : (zv o).setIfInBounds i (.int .i64 x) = zv (o.set i x) := by
  unfold zv
  rw [List.setIfInBounds_toArray, List.map_set]
theorem Blk.setz {w : World} {g : Nat} {o : List Int} (h : Blk w g (zv o) 3) (i : Nat) (x : Int) : Blk (w.setCell ⟨g, i, none⟩ (.int .i64 x)) g (zv (o.set i x)) 3 := by
  have := Go.heap_setCell_same w g i _ _ (.int .i64 x) h
  rw [zv_set] at this
  exact this
theorem infoIn1 : (Try.prog.info? 3).map (fun i => (i.zero, i.size, i.bytes)) = some (some (.int .i64 0), 1, 8) := by kernel_rfl
set_option maxRecDepth 10000 in
theorem make_ints (n : Nat) (hn : n ≤ 4294967296) : ∀ w : World, (Instr.makeSlice 68 (.int .i64 (n : Int)) (.int .i64 (n : Int))).run Try.prog w = .ok (.slice (some ⟨w.heap.size, 0, none⟩) n n) (w.alloc (.cells (zv (List.replicate n 0)) 3)) := by
  obtain ⟨i0, hi, hz0, hz1, hz2⟩ := info_parts infoIn1
  intro w
  have hr := run_make (P := Try.prog) w 68 3 i0 (.int .i64 0) (by rfl) hi hz0 .i64 .i64 (n : Int) (n : Int) (by omega) (Int.le_refl _) (by rw [hz2]; omega) (by omega)
  simp only [Int.toNat_natCast] at hr
  rw [hr, hz1]
  have e : madeCells (Value.cells (.int .i64 0)) (n * 1) = zv (List.replicate n 0) := by
    apply Array.toList_inj.1
    unfold madeCells zv
    refine List.ext_getElem? fun k => ?_
    by_cases hk : k < n
    · simp [Value.cells, hk, Nat.mod_one]
    · simp [Value.cells, hk]
  rw [e]
/-- where the levels begin, as far as they are filled in -/
structure StO (Wn Hn K j : Nat) (o : List Int) : Prop where
  len : o.length = K + 1
  get : ∀ i, i < j → o.getD i 0 = (offB Wn Hn i : Int)
theorem StO.start (Wn Hn K : Nat) : StO Wn Hn K 1 (List.replicate (K + 1) 0) := by
  refine ⟨List.length_replicate, fun i hi => ?_⟩
  obtain rfl : i = 0 := by omega
  rw [List.getD_eq_getElem?_getD, List.getElem?_replicate, if_pos (by omega)]; rfl
theorem StO.next {Wn Hn K j : Nat} {o : List Int} (h : StO Wn Hn K (j + 1) o) (hj : j + 1 < K + 1) : StO Wn Hn K (j + 1 + 1) (o.set (j + 1) (offB Wn Hn (j + 1) : Int)) := by
  refine ⟨by rw [List.length_set]; exact h.len, fun i hi => ?_⟩
  rw [List.getD_eq_getElem?_getD, List.getElem?_set]
  by_cases e : j + 1 = i
  · subst e
    rw [if_pos rfl, if_pos (by rw [h.len]; omega)]; rfl
  · rw [if_neg e, ← List.getD_eq_getElem?_getD]
    exact h.get i (by omega)
theorem StO.rw {Wn Hn K : Nat} {o : List Int} (h : StO Wn Hn K (K + 1) o) {w : World} {g : Nat} (hb : Blk w g (zv o) 3) : Rw w g (stL Wn Hn (K + 1)) := by
  refine ⟨hb.lt, fun i u hi => ?_⟩
  have hl : i < K + 1 := by
    rcases Nat.lt_or_ge i (K + 1) with q | q
    · exact q
    · unfold stL at hi
      rw [List.getElem?_eq_none (by simpa using q)] at hi; cases hi
  rw [stL_get hl] at hi
  obtain rfl := Option.some.inj hi
  rw [hb.cell i, zv_get (by rw [h.len]; exact hl), h.get i hl]
/-- a shot of nothing -/
abbrev shZ : Array Value := #[.int .i64 0, .int .i64 0, .int .i64 0, .int .i64 0, .slice none 0 0, .float .f32 0, .float .f32 0, .float .f32 0, .float .f32 0, .float .f32 0, .float .f32 0, .float .f32 0, .int .i64 0, .int .i64 0, .float .f32 0, .int .i64 0, .bool false, .int .i64 0]
structure FoI (w wr : World) (X Y : Int) (Wn Hn : Nat) (fv : Value) (r : Ry) (kR : Nat) : Prop where
  fl : Fld wr w.heap.size X Y Wn Hn fv
  ry : Blk wr (w.heap.size + 1) (ryA r) 29
  kr : Blk wr kR shZ 49
  below : Below w.heap.size w wr
  gr : w.heap.size + 1 < kR
theorem FoI.call {w wr w2 : World} {X Y : Int} {Wn Hn : Nat} {fv : Value} {r : Ry} {kR : Nat} (h : FoI w wr X Y Wn Hn fv r kR) (hb : Below wr.heap.size wr w2) : FoI w w2 X Y Wn Hn fv r kR :=
  ⟨h.fl.below hb h.fl.lt, h.ry.below hb h.ry.lt, h.kr.below hb h.kr.lt, h.below.trans (hb.mono h.below.size), h.gr⟩
theorem FoI.set {w wr : World} {X Y : Int} {Wn Hn : Nat} {fv : Value} {r : Ry} {kR g i : Nat} (h : FoI w wr X Y Wn Hn fv r kR) (hg : kR < g) (u : Value) : FoI w (wr.setCell ⟨g, i, none⟩ u) X Y Wn Hn fv r kR := by
  have := h.gr
  exact ⟨h.fl.setCell (by show w.heap.size ≠ g; omega) _, h.ry.setCell (by show w.heap.size + 1 ≠ g; omega) _, h.kr.setCell (by show kR ≠ g; omega) _, h.below.setCell (by show w.heap.size ≤ g; omega) _, h.gr⟩
theorem FoI.start (w : World) (X Y : Int) (Wn Hn : Nat) (fv : Value) (r : Ry) :
    FoI w (((w.alloc (.cells #[.int .i64 X, .int .i64 Y, .int .i64 (Wn : Int), .int .i64 (Hn : Int), fv] 26)).alloc (.cells (ryA r) 29)).alloc (.cells shZ 49)) X Y Wn Hn fv r (w.heap.size + 1 + 1) := by
  have F0 := ((Fld.new w X Y Wn Hn fv).alloc (.cells (ryA r) 29)).alloc (.cells shZ 49)
  have R0 := (Blk.new (w.alloc (.cells #[.int .i64 X, .int .i64 Y, .int .i64 (Wn : Int), .int .i64 (Hn : Int), fv] 26)) (ryA r) 29).alloc (.cells shZ 49)
  have K0 := Blk.new ((w.alloc (.cells #[.int .i64 X, .int .i64 Y, .int .i64 (Wn : Int), .int .i64 (Hn : Int), fv] 26)).alloc (.cells (ryA r) 29)) shZ 49
  refine ⟨F0, by simpa using R0, by simpa using K0, (by repeat (first | with_reducible exact Below.refl _ _ | with_reducible apply Below.drew | with_reducible refine below_drewN ?_ _ | (with_reducible refine Below.setCell ?_ ?_ _; rotate_left; focus (first | omega | (simp <;> omega))) | (with_reducible refine Below.alloc ?_ ?_ _; rotate_left; focus (first | omega | (simp <;> omega))))), by omega⟩
end Go.Proofs.Ytiiogjjjgoeghaa

namespace Go.Proofs.Ytiiogjjjgoeghaa
open Go.ChangeShapes Go.WideShapes Go.ChangeAt Go.RowKit
open Ieee.Format (fin finE htE allFin allHt all_true all_false mulF subF addF Ht Bd divF rootF floorF easeF mixF)
set_option linter.unusedVariables false
set_option linter.unusedSimpArgs false
open Ieee.Format (num fin_num Ry Bx stF upB Mn lvN lvN_pos ed ed_end Rc)

/-- what a whole shot has found -/
def FoP (r : Ry) (X Y : Int) (Wn Hn : Nat) (fv : Value) (l : List Nat) (w : World) (e : Ending) (w' : World) : Prop :=
  (∃ S n, e = .returned (.agg (shC X Y Wn Hn fv r (bX X Wn S) (bY Y Wn S) (bT S) (bK S) S.isSome (n : Nat))) ∧ Mn (stO r X Y Wn l) (fun k => k < l.length) S ∧ n ≤ l.length) ∧ Below w.heap.size w w'
theorem top_rb {Wn Hn K : Nat} {l : List Nat} (hw1 : 1 ≤ Wn) (hh1 : 1 ≤ Hn) (hK : Top Wn Hn K) (hl : l.length = Hn * Wn) : (∀ k, (False ∨ Rb Wn Hn K 0 0 k) ↔ k < l.length) ∧ nB Wn Hn K 0 0 = l.length := by
  have e0 : ∀ n, ed n K 0 = 0 := fun n => by unfold ed; rw [Nat.zero_mul]; exact Nat.zero_min n
  have e1 : ed Wn K (0 + 1) = Wn := ed_end hK.w
  have e2 : ed Hn K (0 + 1) = Hn := ed_end hK.h
  unfold Rb nB
  rw [e0, e0, e1, e2, hl]
  exact ⟨fun k => by rw [Rc.all]; simp, by rw [Nat.sub_zero, Nat.sub_zero, Nat.mul_comm]⟩
set_option maxRecDepth 100000 in
set_option maxHeartbeats 8000000 in
theorem follow_any (X Y : Int) (Wn Hn K : Nat) (b o c g cB : Nat) (l : List Nat) (r : Ry) (w : World) (hl : SRow w (some ⟨b, o, none⟩) l) (hc : l.length ≤ c) (hr : Right X Y Wn Hn l) (hry : r.ok) (hK : Top Wn Hn K) (hB : Rw w g (alB l Wn Hn (K + 1))) :
    Calls Try.prog 14 #[fldV X Y Wn Hn (some ⟨b, o, none⟩) l.length c, .slice (some ⟨g, 0, none⟩) (offB Wn Hn (K + 1)) cB, rayV r] w fun e w' => FoP r X Y Wn Hn (.slice (some ⟨b, o, none⟩) l.length c) l w e w' := by
  have hw1 := hr.w1; have hw2 := hr.w2; have hh1 := hr.h1; have hh2 := hr.h2
  have hK9 := hK.le hw2 hh2
  have hlt16 : l.length ≤ 65536 := by rw [hr.len, Nat.mul_comm]; exact hr.wh
  have KL := Lib.hid (fun W => levels_any X Y Wn Hn K W hw2 hh2 hK)
  have kb : b < w.heap.size := bl_blt0 hl (bl_pos0 hr)
  have kg := hB.1
  have HTP := Lib.hid (top_rb hw1 hh1 hK hr.len)
  have HLK := Lib.hid (fun q gst gS cT cS W => look_any X Y Wn Hn K q b o c g gst gS (offB Wn Hn (K + 1)) cB cT cS l r hc hr hry hK rfl K 0 0 0 none (fun _ => False) W)
  have HPO := Lib.hid (And.intro (lvN_pos hw1 K) (lvN_pos hh1 K))
  have HL := Lib.hid hl
  have HB := Lib.hid hB
  have KMI := make_ints (K + 1) (by omega)
  simp only [Int.natCast_add, Int.natCast_one] at KMI
  have HOF := Lib.hid (fun l => offB_le hw1 hh1 hr.wh l)
  have HLB := Lib.hid (fun l => And.intro (lvN_bound hw2 l) (lvN_bound hh2 l))
  clear hl hr hry hK hc hB
  generalize hN : offB Wn Hn (K + 1) = N at *
  clear hN
  go_enter Try.func14, Try.ntmps14
  go_upto_region 1 with fail
  have I0 := FoI.start w X Y Wn Hn (.slice (some ⟨b, o, none⟩) l.length c) r
  generalize hkR : w.heap.size + 1 + 1 = kR at *
  generalize ((w.alloc (.cells #[.int .i64 X, .int .i64 Y, .int .i64 (Wn : Int), .int .i64 (Hn : Int), .slice (some ⟨b, o, none⟩) l.length c] 26)).alloc (.cells (ryA r) 29)).alloc (.cells shZ 49) = W0 at *
  clear hkR
  obtain ⟨d0, d1, d2, d3, d4⟩ := I0.fl.cells
  have l0 := I0.fl.lt
  have HI0 := Lib.hid I0
  clear I0
  go_wp2_with fail
  refine (KL.out _).mono ?_
  rintro e w1 ⟨⟨gS, cS, rfl, hS⟩, b1⟩
  have HI1 := Lib.hid (HI0.out.call b1)
  have HS1 := Lib.hid hS
  clear d0 d1 d2 d3 d4 l0 HI0 hS b1 KL
  go_upto_region 3 with fail
  have bA : Below w1.heap.size w1 (w1.alloc (.cells (zv (List.replicate (K + 1) 0)) 3)) := (Below.refl _ _).alloc (Nat.le_refl _) _
  have I2 := HI1.out.call bA
  have Z2 : Blk (w1.alloc (.cells (zv (List.replicate (K + 1) 0)) 3)) w1.heap.size (zv (List.replicate (K + 1) 0)) 3 := Blk.new _ _ _
  have S2 := HS1.out.below bA HS1.out.1
  have hgk : kR < w1.heap.size := HI1.out.kr.lt
  have hgS : gS ≠ w1.heap.size := by have := HS1.out.1; omega
  have hkg : kR ≠ gS ∨ True := .inr trivial
  clear HI1 HS1 bA hkg KMI
  generalize w1.alloc (.cells (zv (List.replicate (K + 1) 0)) 3) = W2 at *
  generalize w1.heap.size = gT at *
  have HQ : Hid (∃ o, StO Wn Hn K 1 o ∧ Blk W2 gT (zv o) 3) := ⟨_, StO.start Wn Hn K, Z2⟩
  have HI2 := Lib.hid I2
  have HS2 := Lib.hid S2
  clear Z2 I2 S2
  go_wp2_with fail
  go_loopw [9] (fun v wr => ∃ (j : Nat) (oo : List Int), j ≤ K ∧ v = .int .i64 ((j : Int) + 1) ∧ Hid (StO Wn Hn K (j + 1) oo ∧ Blk wr gT (zv oo) 3) ∧ Hid (FoI w wr X Y Wn Hn (.slice (some ⟨b, o, none⟩) l.length c) r kR) ∧ Hid (Rw wr gS (szs Wn Hn (K + 1)))) (fun v _ => K + 2 - (intOf v).toNat)
  case atStart =>
    obtain ⟨oo, h1, h2⟩ := HQ.out
    exact ⟨0, oo, by omega, by simp, ⟨h1, h2⟩, HI2, HS2⟩
  case round =>
    clear HQ HI2 HS2
    obtain ⟨j, oo, hj, rfl, HQ, HI, HS⟩ := hrel
    by_cases hlt : j < K
    · have hlt' : (j : Int) + 1 < (K : Int) + 1 := by omega
      have hoo : oo.length = K + 1 := HQ.out.1.len
      have t0 : wr.cell? ⟨gT, j, none⟩ = some (.int .i64 (offB Wn Hn j : Int)) := by
        rw [HQ.out.2.cell j, zv_get (by omega), HQ.out.1.get j (by omega)]
      have t1 : wr.cell? ⟨gT, j + 1, none⟩ = some (.int .i64 (oo.getD (j + 1) 0)) := by
        rw [HQ.out.2.cell (j + 1), zv_get (by omega)]
      have f1 := HQ.out.2.frozen (j + 1)
      have lT := HQ.out.2.lt
      have z0 := HS.out.2 _ _ (szs_get Wn Hn (K + 1) j (by omega)).1
      have z1 := HS.out.2 _ _ (szs_get Wn Hn (K + 1) j (by omega)).2
      have hof := HOF.out j
      obtain ⟨bw, bh⟩ := HLB.out j
      have HNX : Hid (offB Wn Hn (j + 1) = offB Wn Hn j + lvN Wn j * lvN Hn j) := Lib.hid rfl
      have hm : lvN Wn j * lvN Hn j ≤ 262144 := Nat.le_trans (Nat.mul_le_mul bw bh) (by omega)
      have eW : ((lvN Wn j * lvN Hn j : Nat) : Int) = (lvN Wn j : Int) * (lvN Hn j : Int) := Int.natCast_mul _ _
      generalize hofn : offB Wn Hn (j + 1) = ofn at *
      have HOFN := Lib.hid hofn
      clear hofn
      generalize offB Wn Hn j = ofj at *
      generalize lvN Wn j = pw at *
      generalize lvN Hn j = ph at *
      generalize oo.getD (j + 1) 0 = old at *
      obtain ⟨mm, hmm⟩ : ∃ mm, mm = pw * ph := ⟨_, rfl⟩
      rw [← hmm] at HNX hm eW
      have e1 : IntKind.i64.wrap ((pw : Int) * (ph : Int)) = (mm : Int) := by rw [← eW]; exact IntWalk.i64_in _ (by omega)
      have e2 : (pw : Int) * (ph : Int) = (mm : Int) := eW.symm
      have hnx := HNX.out
      have e3 : IntKind.i64.wrap ((ofj : Int) + (mm : Int)) = (ofn : Int) := by rw [IntWalk.i64_in _ (by omega)]; omega
      have e4 : (ofj : Int) + (mm : Int) = (ofn : Int) := by omega
      have e5 : IntKind.i64.wrap ((j : Int) + 1 - 1) = (j : Int) := by rw [IntWalk.i64_in _ (by omega)]; omega
      have e6 : (j : Int) + 1 - 1 = (j : Int) := by omega
      have lS := HS.out.1
      clear hmm eW hnx
      go_wp2_with fail
      go_region
      all_goals
        have gk : kR < gT := hgk
        have HQ2 : Hid (StO Wn Hn K (j + 1 + 1) (oo.set (j + 1) (ofn : Int)) ∧ Blk (wr.setCell ⟨gT, j + 1, none⟩ (.int .i64 (ofn : Int))).drew gT (zv (oo.set (j + 1) (ofn : Int))) 3) := by
          refine ⟨?_, (HQ.out.2.setz (j + 1) _).drew⟩
          have := HQ.out.1.next (by omega)
          rw [HOFN.out] at this
          exact this
        have HI2 : Hid (FoI w (wr.setCell ⟨gT, j + 1, none⟩ (.int .i64 (ofn : Int))).drew X Y Wn Hn (.slice (some ⟨b, o, none⟩) l.length c) r kR) := Lib.hid ((HI.out.set hgk _).call ((Below.refl _ _).drew))
        have HS2 : Hid (Rw (wr.setCell ⟨gT, j + 1, none⟩ (.int .i64 (ofn : Int))).drew gS (szs Wn Hn (K + 1))) := by
          refine ⟨by simpa using HS.out.1, fun i u hi => ?_⟩
          exact (World.cell?_setCell_far wr ⟨gT, j + 1, none⟩ ⟨gS, i, none⟩ _ (by show gT ≠ gS; exact fun h => hgS h.symm)).trans (HS.out.2 i u hi)
        clear HQ HI HS t0 t1 f1 lT z0 z1 lS
        generalize (wr.setCell ⟨gT, j + 1, none⟩ (.int .i64 (ofn : Int))).drew = WX at *
        go_wp2_with fail
        go_roundw
        case rel => exact ⟨j + 1, _, by omega, by simp, HQ2, HI2, HS2⟩
        case measure => simp [intOf]; omega
    · obtain rfl : j = K := by omega
      have HT := Lib.hid (HQ.out.1.rw HQ.out.2)
      clear HQ
      obtain ⟨d0, d1, d2, d3, d4⟩ := HI.out.fl.cells
      have l0 := HI.out.fl.lt
      have lr := HI.out.ry.lt
      have p_0 : wr.cell? ⟨w.heap.size + 1, 0, none⟩ = some (.float .f32 r.X) := HI.out.ry.cell 0
      have p_1 : wr.cell? ⟨w.heap.size + 1, 1, none⟩ = some (.float .f32 r.Y) := HI.out.ry.cell 1
      have p_2 : wr.cell? ⟨w.heap.size + 1, 2, none⟩ = some (.float .f32 r.H) := HI.out.ry.cell 2
      have p_3 : wr.cell? ⟨w.heap.size + 1, 3, none⟩ = some (.float .f32 r.DX) := HI.out.ry.cell 3
      have p_4 : wr.cell? ⟨w.heap.size + 1, 4, none⟩ = some (.float .f32 r.DY) := HI.out.ry.cell 4
      have p_5 : wr.cell? ⟨w.heap.size + 1, 5, none⟩ = some (.float .f32 r.DH) := HI.out.ry.cell 5
      have p_6 : wr.cell? ⟨w.heap.size + 1, 6, none⟩ = some (.float .f32 r.Mo) := HI.out.ry.cell 6
      go_upto_region 8 with (refine wpList_store_row rfl 49 (.tmp 10) (.tmp 47) rfl wr.heap.size (shC X Y Wn Hn (.slice (some ⟨b, o, none⟩) l.length c) r 0 0 0 0 false 0) rfl rfl 49 shZ (heap_alloc_new _ _) (by kernel_rfl) rfl (by simp [Value.oneCell']) ?_)
      have bA : Below wr.heap.size wr ((wr.alloc (.cells shZ 49)).setRow wr.heap.size (shC X Y Wn Hn (.slice (some ⟨b, o, none⟩) l.length c) r 0 0 0 0 false 0)) := below_setRow ((Below.refl _ _).alloc (Nat.le_refl _) _) (Nat.le_refl _) _
      have hq : w.heap.size ≤ wr.heap.size := HI.out.below.size
      have WA : LkW ((wr.alloc (.cells shZ 49)).setRow wr.heap.size (shC X Y Wn Hn (.slice (some ⟨b, o, none⟩) l.length c) r 0 0 0 0 false 0)) wr.heap.size b o g gT gS l Wn Hn j := by
        have hT := HT.out.1
        have hS := HS.out.1
        exact ⟨(HL.out.below HI.out.below).below bA, (HB.out.below HI.out.below kg).below bA (by omega), HT.out.below bA HT.out.1, HS.out.below bA HS.out.1, Nat.lt_of_lt_of_le (by omega) bA.size, by omega, by omega, by omega, by omega⟩
      have SA : Sh ((wr.alloc (.cells shZ 49)).setRow wr.heap.size (shC X Y Wn Hn (.slice (some ⟨b, o, none⟩) l.length c) r 0 0 0 0 false 0)) wr.heap.size X Y Wn Hn (.slice (some ⟨b, o, none⟩) l.length c) r none 0 := setRow_heap _ _ _ _ _ _ (heap_alloc_new _ _)
      have KK := Lib.hid (HLK.out wr.heap.size gT gS (j + 1) cS _ WA SA (Nat.le_refl _) HPO.out.1 HPO.out.2 (fun k h => h.elim) (Mn.start _) (by rw [HTP.out.2]; omega))
      rw [show ((0 : Nat) : Int) = 0 from rfl] at KK
      have HIA := Lib.hid (HI.out.call bA)
      have hkq : kR < wr.heap.size := HI.out.kr.lt
      clear p_0 p_1 p_2 p_3 p_4 p_5 p_6
      clear d0 d1 d2 d3 d4 l0 lr HI HT HS bA WA SA HLK hgk
      generalize (wr.alloc (.cells shZ 49)).setRow wr.heap.size (shC X Y Wn Hn (.slice (some ⟨b, o, none⟩) l.length c) r 0 0 0 0 false 0) = WQ at *
      generalize wr.heap.size = q at *
      have ej : (j : Int) + 1 - 1 = (j : Int) := by omega
      have ej2 : IntKind.i64.wrap ((j : Int) + 1 - 1) = (j : Int) := by rw [ej]; exact IntWalk.i64_in _ (by omega)
      go_wp2_with fail
      refine KK.out.mono ?_
      rintro e w3 ⟨rfl, S', n', hs, hm, hn, hb⟩
      have hkq2 : kR ≠ q := by omega
      have hqw : w.heap.size ≤ q := hq
      have HKR := Lib.hid (Blk.but HIA.out.kr hb HIA.out.kr.lt hkq2)
      have HBW := Lib.hid (HIA.out.below.trans (hb.belowOf HIA.out.below.size (fun k hk => by omega)))
      have gr : w.heap.size ≤ kR := by have := HIA.out.gr; omega
      have HRES : Hid (∃ S n, ((.agg (shC X Y Wn Hn (.slice (some ⟨b, o, none⟩) l.length c) r (bX X Wn S') (bY Y Wn S') (bT S') (bK S') S'.isSome (n' : Nat)) : Value) = .agg (shC X Y Wn Hn (.slice (some ⟨b, o, none⟩) l.length c) r (bX X Wn S) (bY Y Wn S) (bT S) (bK S) S.isSome (n : Nat))) ∧ Mn (stO r X Y Wn l) (fun k => k < l.length) S ∧ n ≤ l.length) :=
        ⟨S', n', rfl, hm.iff HTP.out.1, by rw [HTP.out.2] at hn; omega⟩
      have lq := hs.lt
      have lk := HKR.out.lt
      have HSQ : Hid (Sh w3 q X Y Wn Hn (.slice (some ⟨b, o, none⟩) l.length c) r S' n') := Lib.hid hs
      unfold Sh at HSQ
      generalize bX X Wn S' = px at *
      generalize bY Y Wn S' = py at *
      generalize bT S' = pt at *
      generalize ((bK S' : Nat) : Int) = pk at *
      generalize S'.isSome = ss at *
      clear hs hm hn hb HIA KK ej ej2 HTP HPO HOF HLB
      have hSF : Try.prog.underlying 49 = some (.struct (Try.prog.fieldsOf 49)) := by kernel_rfl
      have KZ : Blk (w3.setRow kR (shC X Y Wn Hn (.slice (some ⟨b, o, none⟩) l.length c) r px py pt pk ss (n' : Nat))) kR (shC X Y Wn Hn (.slice (some ⟨b, o, none⟩) l.length c) r px py pt pk ss (n' : Nat)) 49 := setRow_heap _ _ _ _ _ _ HKR.out
      have BZ : Below w.heap.size w (w3.setRow kR (shC X Y Wn Hn (.slice (some ⟨b, o, none⟩) l.length c) r px py pt pk ss (n' : Nat))) := below_setRow HBW.out gr _
      have HKZ := Lib.hid KZ
      have HBZ := Lib.hid BZ
      clear KZ BZ HBW
      go_upto_region 9 with fail
      go_step
      refine wpList_load_row rfl 49 (.tmp 10) rfl q rfl 49 (shC X Y Wn Hn (.slice (some ⟨b, o, none⟩) l.length c) r px py pt pk ss (n' : Nat)) (0, 0) _ HSQ.out hSF rfl (by kernel_rfl) ?_
      try simp only [Act.put, List.setIfInBounds_toArray, List.set_cons_zero, List.set_cons_succ]
      refine wpList_store_row rfl 49 (.tmp 6) (.tmp 55) rfl kR (shC X Y Wn Hn (.slice (some ⟨b, o, none⟩) l.length c) r px py pt pk ss (n' : Nat)) rfl rfl 49 shZ HKR.out (by kernel_rfl) rfl (by simp [Value.oneCell']) ?_
      go_wp2_with fail
      generalize w3.setRow kR (shC X Y Wn Hn (.slice (some ⟨b, o, none⟩) l.length c) r px py pt pk ss (n' : Nat)) = WZ at *
      refine bodyPost_ret (v := .agg (shC X Y Wn Hn (.slice (some ⟨b, o, none⟩) l.length c) r px py pt pk ss (n' : Nat))) ?_ rfl ⟨?_, HBZ.out⟩
      · exact results_cell_row rfl _ _ kR 49 (shC X Y Wn Hn (.slice (some ⟨b, o, none⟩) l.length c) r px py pt pk ss (n' : Nat)) (0, 0) _ rfl HKZ.out hSF rfl (by kernel_rfl)
      obtain ⟨S, n, h1, h2, h3⟩ := HRES.out
      exact ⟨S, n, by rw [h1], h2, h3⟩
end Go.Proofs.Ytiiogjjjgoeghaa

namespace Go.Proofs.Ytiiogjjjgoeghaa
open Go.ChangeShapes Go.WideShapes Go.ChangeAt Go.RowKit
open Ieee.Format (fin finE htE allFin allHt all_true all_false mulF subF addF Ht Bd divF rootF floorF easeF mixF)
set_option linter.unusedVariables false
set_option linter.unusedSimpArgs false
open Ieee.Format (num fin_num Ry Bx stF upB Mn lvN lvN_pos lvN_lt ed ed_end Rc)

/-! ### all boxes hold no NaN -/
theorem bxs_app {P : List Value} {N : Nat} (h : Bxs P N) (hl : P.length = N * 5) (v x y lo hi : Nat) (hlo : num lo) (hhi : num hi) : Bxs (P ++ [.int .i64 (v : Int), .int .i64 (x : Int), .int .i64 (y : Int), .float .f32 lo, .float .f32 hi]) (N + 1) := by
  intro k hk
  by_cases e : k < N
  · obtain ⟨v', x', y', lo', hi', n1, n2, q0, q1, q2, q3, q4⟩ := h k e
    refine ⟨v', x', y', lo', hi', n1, n2, ?_, ?_, ?_, ?_, ?_⟩ <;> (rw [List.getElem?_append_left (by omega)]; assumption)
  · obtain rfl : k = N := by omega
    refine ⟨v, x, y, lo, hi, hlo, hhi, ?_, ?_, ?_, ?_, ?_⟩ <;> rw [List.getElem?_append_right (by omega)]
    · rw [show k * 5 - P.length = 0 by omega]; rfl
    · rw [show k * 5 + 1 - P.length = 1 by omega]; rfl
    · rw [show k * 5 + 2 - P.length = 2 by omega]; rfl
    · rw [show k * 5 + 3 - P.length = 3 by omega]; rfl
    · rw [show k * 5 + 4 - P.length = 4 by omega]; rfl
theorem bx_num {X Y : Int} {Wn Hn : Nat} {l : List Nat} (h : Right X Y Wn Hn l) {L x y : Nat} (hx : x < lvN Wn L) (hy : y < lvN Hn L) : num (loP (bxC l Wn Hn L x y)) ∧ num (hiP (bxC l Wn Hn L x y)) := by
  have hxw := lvN_lt h.w1 L x hx
  have hyh := lvN_lt h.h1 L y hy
  have h0 : 0 < (bxC l Wn Hn L x y).length := by
    rw [bxC_len]
    have p1 : 0 < 2 ^ L := Nat.pow_pos (by omega)
    exact Nat.mul_pos (by omega) (by omega)
  exact ⟨fin_num (cutL_mem (loP_mem h0) h.ht).fin, fin_num (cutL_mem (hiP_mem h0) h.ht).fin⟩
theorem bxs_rw {X Y : Int} {Wn Hn : Nat} {l : List Nat} (h : Right X Y Wn Hn l) {L y : Nat} (hy : y < lvN Hn L) {P : List Value} {N : Nat} (hP : Bxs P N) (hl : P.length = N * 5) : ∀ n, n ≤ lvN Wn L → Bxs (P ++ rwB l Wn Hn L y n) (N + n)
  | 0, _ => by rw [rwB, List.append_nil]; exact hP
  | n + 1, hn => by
    obtain ⟨a, b⟩ := bx_num h (show n < lvN Wn L by omega) hy
    rw [rwB, ← List.append_assoc]
    exact bxs_app (bxs_rw h hy hP hl n (by omega)) (by rw [List.length_append, rwB_len, hl]; omega) _ _ _ _ _ a b
theorem bxs_lv {X Y : Int} {Wn Hn : Nat} {l : List Nat} (h : Right X Y Wn Hn l) {L : Nat} {P : List Value} {N : Nat} (hP : Bxs P N) (hl : P.length = N * 5) : ∀ n, n ≤ lvN Hn L → Bxs (P ++ lvB l Wn Hn L n) (N + n * lvN Wn L)
  | 0, _ => by rw [lvB, List.append_nil, Nat.zero_mul]; exact hP
  | n + 1, hn => by
    rw [lvB, ← List.append_assoc, Nat.add_mul, Nat.one_mul, ← Nat.add_assoc]
    exact bxs_rw h (show n < lvN Hn L by omega) (bxs_lv h hP hl n (by omega)) (by rw [List.length_append, lvB_len, hl, Nat.add_mul]) _ (Nat.le_refl _)
theorem bxs_al {X Y : Int} {Wn Hn : Nat} {l : List Nat} (h : Right X Y Wn Hn l) : ∀ n, Bxs (alB l Wn Hn n) (offB Wn Hn n)
  | 0 => fun k hk => absurd hk (by simp [offB])
  | n + 1 => by
    rw [alB, offB, Nat.mul_comm]
    exact bxs_lv h (bxs_al h n) (alB_len l Wn Hn n) _ (Nat.le_refl _)

/-! ### HitBounds -/
def HbP (r : Ry) (X Y : Int) (Wn : Nat) (l : List Nat) (w : World) (e : Ending) (w' : World) : Prop :=
  (∃ S n, e = .returned (.tuple #[skV X Y Wn S, .bool S.isSome, .int .i64 (n : Nat), .int .i64 0]) ∧ Mn (stO r X Y Wn l) (fun k => k < l.length) S ∧ n ≤ l.length) ∧ Below w.heap.size w w'
def HbB (er : Int) (w : World) (e : Ending) (w' : World) : Prop := e = .returned (.tuple #[.agg #[.int .i64 0, .int .i64 0, .float .f32 0], .bool false, .int .i64 0, .int .i64 er]) ∧ Below w.heap.size w w'
set_option maxRecDepth 100000 in
set_option maxHeartbeats 4000000 in
theorem hb_bad (X Y : Int) (Wn Hn : Nat) (b o c : Nat) (l : List Nat) (r : Ry) (vb : Value) (w : World) (hl : SRow w (some ⟨b, o, none⟩) l) (hr : Right X Y Wn Hn l) (hw : ∀ x ∈ ryL r, x < 4294967296) (he : ryE r ≠ 0) :
    Calls Try.prog 7 #[fldV X Y Wn Hn (some ⟨b, o, none⟩) l.length c, vb, rayV r] w fun e w' => HbB (ryE r) w e w' := by
  have K1 := Lib.hid (fun W h => checkhit_any X Y Wn Hn b o c l r W h hr hw)
  have hb : (ryE r != 0) = true := by rw [bne_iff_ne]; exact he
  have HL := Lib.hid hl
  clear hl hr hw he
  generalize ryE r = er at *
  go_enter Try.func7, Try.ntmps7
  go_upto_region 1 with fail
  have I0 := HbI.start w X Y Wn Hn (.slice (some ⟨b, o, none⟩) l.length c) r
  generalize hkR : w.heap.size + 1 + 1 = kR at *
  generalize ((w.alloc (.cells #[.int .i64 X, .int .i64 Y, .int .i64 (Wn : Int), .int .i64 (Hn : Int), .slice (some ⟨b, o, none⟩) l.length c] 26)).alloc (.cells (ryA r) 29)).alloc (.cells #[.int .i64 0, .int .i64 0, .float .f32 0] 38) = W0 at *
  clear hkR
  obtain ⟨d0, d1, d2, d3, d4⟩ := I0.fl.cells
  have l0 := I0.fl.lt
  have lr := I0.ry.lt
  have p_0 : W0.cell? ⟨w.heap.size + 1, 0, none⟩ = some (.float .f32 r.X) := I0.ry.cell 0
  have p_1 : W0.cell? ⟨w.heap.size + 1, 1, none⟩ = some (.float .f32 r.Y) := I0.ry.cell 1
  have p_2 : W0.cell? ⟨w.heap.size + 1, 2, none⟩ = some (.float .f32 r.H) := I0.ry.cell 2
  have p_3 : W0.cell? ⟨w.heap.size + 1, 3, none⟩ = some (.float .f32 r.DX) := I0.ry.cell 3
  have p_4 : W0.cell? ⟨w.heap.size + 1, 4, none⟩ = some (.float .f32 r.DY) := I0.ry.cell 4
  have p_5 : W0.cell? ⟨w.heap.size + 1, 5, none⟩ = some (.float .f32 r.DH) := I0.ry.cell 5
  have p_6 : W0.cell? ⟨w.heap.size + 1, 6, none⟩ = some (.float .f32 r.Mo) := I0.ry.cell 6
  have HI0 := Lib.hid I0
  clear I0
  go_wp2_with fail
  refine (K1.out _ (HL.out.below HI0.out.below)).mono ?_
  rintro e w1 ⟨rfl, b1⟩
  have I1 := HI0.out.call b1
  clear p_0 p_1 p_2 p_3 p_4 p_5 p_6
  clear d0 d1 d2 d3 d4 l0 lr HI0 b1 K1
  have s0 : w1.cell? ⟨kR, 0, none⟩ = some (.int .i64 0) := I1.kr.cell 0
  have s1 : w1.cell? ⟨kR, 1, none⟩ = some (.int .i64 0) := I1.kr.cell 1
  have s2 : w1.cell? ⟨kR, 2, none⟩ = some (.float .f32 0) := I1.kr.cell 2
  have f0 := I1.kr.frozen 0
  have f1 := I1.kr.frozen 1
  have f2 := I1.kr.frozen 2
  have lk := I1.kr.lt
  have HI1 := Lib.hid I1
  clear I1
  go_wp2_with fail
  have hI := HI1.out
  have KZ : Blk (((w1.setCell ⟨kR, 0, none⟩ (.int .i64 0)).setCell ⟨kR, 1, none⟩ (.int .i64 0)).setCell ⟨kR, 2, none⟩ (.float .f32 0)) kR #[.int .i64 0, .int .i64 0, .float .f32 0] 38 := heap_setCell_same _ kR 2 _ _ _ (heap_setCell_same _ kR 1 _ _ _ (heap_setCell_same _ kR 0 _ _ _ hI.kr))
  have gr := hI.gr
  have hB : Below w.heap.size w (((w1.setCell ⟨kR, 0, none⟩ (.int .i64 0)).setCell ⟨kR, 1, none⟩ (.int .i64 0)).setCell ⟨kR, 2, none⟩ (.float .f32 0)) := (((hI.below.setCell (p := ⟨kR, 0, none⟩) gr _).setCell (p := ⟨kR, 1, none⟩) gr _).setCell (p := ⟨kR, 2, none⟩) gr _)
  clear s0 s1 s2 f0 f1 f2 lk hI HI1
  generalize (((w1.setCell ⟨kR, 0, none⟩ (.int .i64 0)).setCell ⟨kR, 1, none⟩ (.int .i64 0)).setCell ⟨kR, 2, none⟩ (.float .f32 0)) = WZ at *
  have z0 : WZ.cell? ⟨kR, 0, none⟩ = some (.int .i64 0) := KZ.cell 0
  have z1 : WZ.cell? ⟨kR, 1, none⟩ = some (.int .i64 0) := KZ.cell 1
  have z2 : WZ.cell? ⟨kR, 2, none⟩ = some (.float .f32 0) := KZ.cell 2
  have lz := KZ.lt
  exact bodyPost_ret (v := .tuple #[.agg #[.int .i64 0, .int .i64 0, .float .f32 0], .bool false, .int .i64 0, .int .i64 er]) (by simp [results, Try.results7, go_sem, *]) rfl ⟨rfl, hB⟩
set_option maxRecDepth 100000 in
set_option maxHeartbeats 4000000 in
theorem hb_good (X Y : Int) (Wn Hn K : Nat) (b o c g cB : Nat) (l : List Nat) (r : Ry) (w : World) (hl : SRow w (some ⟨b, o, none⟩) l) (hc : l.length ≤ c) (hr : Right X Y Wn Hn l) (hw : ∀ x ∈ ryL r, x < 4294967296) (he : ryE r = 0) (hK : Top Wn Hn K) (hB : Rw w g (alB l Wn Hn (K + 1))) :
    Calls Try.prog 7 #[fldV X Y Wn Hn (some ⟨b, o, none⟩) l.length c, .slice (some ⟨g, 0, none⟩) (offB Wn Hn (K + 1)) cB, rayV r] w fun e w' => HbP r X Y Wn l w e w' := by
  have hry := ryE_zero he
  have hK9 := hK.le hr.w2 hr.h2
  have K1 := Lib.hid (fun W h => checkhit_any X Y Wn Hn b o c l r W h hr hw)
  rw [he] at K1
  have K2 := Lib.hid (fun W h => bounds_any X Y Wn Hn K b o c l W h hc hr hK)
  have hN6 : offB Wn Hn (K + 1) ≤ 1048576 := by have := offB_le hr.w1 hr.h1 hr.wh (K + 1); omega
  have K3 := Lib.hid (fun g' k' W h h' => boxes_equal g g' (offB Wn Hn (K + 1)) cB k' (alB l Wn Hn (K + 1)) W h h' (bxs_al hr (K + 1)) hN6)
  have K4 := Lib.hid (fun W h h' => follow_any X Y Wn Hn K b o c g cB l r W h hc hr hry hK h')
  have HL := Lib.hid hl
  have HB := Lib.hid hB
  have kg := hB.1
  clear hl hr hw he hry hc hK hB hN6
  generalize hN : offB Wn Hn (K + 1) = N at *
  have HNN := Lib.hid hN
  clear hN
  go_enter Try.func7, Try.ntmps7
  go_upto_region 1 with fail
  have I0 := HbI.start w X Y Wn Hn (.slice (some ⟨b, o, none⟩) l.length c) r
  generalize hkR : w.heap.size + 1 + 1 = kR at *
  generalize ((w.alloc (.cells #[.int .i64 X, .int .i64 Y, .int .i64 (Wn : Int), .int .i64 (Hn : Int), .slice (some ⟨b, o, none⟩) l.length c] 26)).alloc (.cells (ryA r) 29)).alloc (.cells #[.int .i64 0, .int .i64 0, .float .f32 0] 38) = W0 at *
  clear hkR
  obtain ⟨d0, d1, d2, d3, d4⟩ := I0.fl.cells
  have l0 := I0.fl.lt
  have lr := I0.ry.lt
  have p_0 : W0.cell? ⟨w.heap.size + 1, 0, none⟩ = some (.float .f32 r.X) := I0.ry.cell 0
  have p_1 : W0.cell? ⟨w.heap.size + 1, 1, none⟩ = some (.float .f32 r.Y) := I0.ry.cell 1
  have p_2 : W0.cell? ⟨w.heap.size + 1, 2, none⟩ = some (.float .f32 r.H) := I0.ry.cell 2
  have p_3 : W0.cell? ⟨w.heap.size + 1, 3, none⟩ = some (.float .f32 r.DX) := I0.ry.cell 3
  have p_4 : W0.cell? ⟨w.heap.size + 1, 4, none⟩ = some (.float .f32 r.DY) := I0.ry.cell 4
  have p_5 : W0.cell? ⟨w.heap.size + 1, 5, none⟩ = some (.float .f32 r.DH) := I0.ry.cell 5
  have p_6 : W0.cell? ⟨w.heap.size + 1, 6, none⟩ = some (.float .f32 r.Mo) := I0.ry.cell 6
  have HI0 := Lib.hid I0
  clear I0
  go_wp2_with fail
  refine (K1.out _ (HL.out.below HI0.out.below)).mono ?_
  rintro e w1 ⟨rfl, b1⟩
  have I1 := HI0.out.call b1
  clear p_0 p_1 p_2 p_3 p_4 p_5 p_6
  clear d0 d1 d2 d3 d4 l0 lr HI0 b1 K1
  obtain ⟨d0, d1, d2, d3, d4⟩ := I1.fl.cells
  have l0 := I1.fl.lt
  have HI1 := Lib.hid I1
  clear I1
  go_wp2_with fail
  refine (K2.out w1 (HL.out.below HI1.out.below)).mono ?_
  rintro e w2 ⟨⟨g2, cap2, rfl, hR⟩, b2⟩
  rw [HNN.out]
  have HI2 := Lib.hid (HI1.out.call b2)
  have KE := Lib.hid (K3.out g2 cap2 w2 (HB.out.below HI2.out.below kg) hR)
  clear d0 d1 d2 d3 d4 l0 HI1 hR b2 K2 K3
  go_wp2_with fail
  refine KE.out.mono ?_
  rintro e w3 ⟨rfl, b3⟩
  have I3 := HI2.out.call b3
  clear KE HI2 b3
  obtain ⟨d0, d1, d2, d3, d4⟩ := I3.fl.cells
  have l0 := I3.fl.lt
  have lr := I3.ry.lt
  have p_0 : w3.cell? ⟨w.heap.size + 1, 0, none⟩ = some (.float .f32 r.X) := I3.ry.cell 0
  have p_1 : w3.cell? ⟨w.heap.size + 1, 1, none⟩ = some (.float .f32 r.Y) := I3.ry.cell 1
  have p_2 : w3.cell? ⟨w.heap.size + 1, 2, none⟩ = some (.float .f32 r.H) := I3.ry.cell 2
  have p_3 : w3.cell? ⟨w.heap.size + 1, 3, none⟩ = some (.float .f32 r.DX) := I3.ry.cell 3
  have p_4 : w3.cell? ⟨w.heap.size + 1, 4, none⟩ = some (.float .f32 r.DY) := I3.ry.cell 4
  have p_5 : w3.cell? ⟨w.heap.size + 1, 5, none⟩ = some (.float .f32 r.DH) := I3.ry.cell 5
  have p_6 : w3.cell? ⟨w.heap.size + 1, 6, none⟩ = some (.float .f32 r.Mo) := I3.ry.cell 6
  have HI3 := Lib.hid I3
  have KF := Lib.hid (K4.out w3 (HL.out.below I3.below) (HB.out.below I3.below kg))
  clear I3 K4
  go_wp2_with fail
  refine KF.out.mono ?_
  rintro e w4 ⟨⟨S, n', rfl, hm, hn⟩, b4⟩
  have I4 := HI3.out.call b4
  have HI4 := Lib.hid I4
  clear p_0 p_1 p_2 p_3 p_4 p_5 p_6
  clear d0 d1 d2 d3 d4 l0 lr HI3 KF b4 I4
  have HRES : Hid (∃ S2 n, ((.tuple #[skV X Y Wn S, .bool S.isSome, .int .i64 (n' : Nat), .int .i64 0] : Value) = .tuple #[skV X Y Wn S2, .bool S2.isSome, .int .i64 (n : Nat), .int .i64 0]) ∧ Mn (stO r X Y Wn l) (fun k => k < l.length) S2 ∧ n ≤ l.length) := ⟨S, n', rfl, hm, hn⟩
  unfold skV at HRES
  clear hm hn
  generalize bX X Wn S = px at *
  generalize bY Y Wn S = py at *
  generalize bT S = pt at *
  generalize ((bK S : Nat) : Int) = pk at *
  generalize S.isSome = ss at *
  go_upto_region 7 with (refine wpList_store_row rfl 49 (.tmp 11) (.tmp 28) rfl w4.heap.size (shC X Y Wn Hn (.slice (some ⟨b, o, none⟩) l.length c) r px py pt pk ss (n' : Nat)) rfl rfl 49 shZ (heap_alloc_new _ _) (by kernel_rfl) rfl (by simp [Value.oneCell']) ?_)
  have bA : Below w4.heap.size w4 ((w4.alloc (.cells shZ 49)).setRow w4.heap.size (shC X Y Wn Hn (.slice (some ⟨b, o, none⟩) l.length c) r px py pt pk ss (n' : Nat))) := below_setRow ((Below.refl _ _).alloc (Nat.le_refl _) _) (Nat.le_refl _) _
  have QA : Blk ((w4.alloc (.cells shZ 49)).setRow w4.heap.size (shC X Y Wn Hn (.slice (some ⟨b, o, none⟩) l.length c) r px py pt pk ss (n' : Nat))) w4.heap.size (shC X Y Wn Hn (.slice (some ⟨b, o, none⟩) l.length c) r px py pt pk ss (n' : Nat)) 49 := setRow_heap _ _ _ _ _ _ (heap_alloc_new _ _)
  have IA := HI4.out.call bA
  have hne : kR ≠ w4.heap.size := by have := HI4.out.kr.lt; omega
  clear HI4 bA
  generalize (w4.alloc (.cells shZ 49)).setRow w4.heap.size (shC X Y Wn Hn (.slice (some ⟨b, o, none⟩) l.length c) r px py pt pk ss (n' : Nat)) = WQ at *
  generalize w4.heap.size = q at *
  have g12 : WQ.cell? ⟨q, 12, none⟩ = some (.int .i64 px) := QA.cell 12
  have g13 : WQ.cell? ⟨q, 13, none⟩ = some (.int .i64 py) := QA.cell 13
  have g14 : WQ.cell? ⟨q, 14, none⟩ = some (.float .f32 pt) := QA.cell 14
  have g16 : WQ.cell? ⟨q, 16, none⟩ = some (.bool ss) := QA.cell 16
  have g17 : WQ.cell? ⟨q, 17, none⟩ = some (.int .i64 (n' : Int)) := QA.cell 17
  have s0 : WQ.cell? ⟨kR, 0, none⟩ = some (.int .i64 0) := IA.kr.cell 0
  have s1 : WQ.cell? ⟨kR, 1, none⟩ = some (.int .i64 0) := IA.kr.cell 1
  have s2 : WQ.cell? ⟨kR, 2, none⟩ = some (.float .f32 0) := IA.kr.cell 2
  have f0 := IA.kr.frozen 0
  have f1 := IA.kr.frozen 1
  have f2 := IA.kr.frozen 2
  have lk := IA.kr.lt
  have lq := QA.lt
  have gr := IA.gr
  have HIA := Lib.hid IA
  clear IA QA
  go_wp2_with fail
  go_region
  all_goals
    go_wp2_with fail
    have KZ : Blk (((WQ.setCell ⟨kR, 0, none⟩ (.int .i64 px)).setCell ⟨kR, 1, none⟩ (.int .i64 py)).setCell ⟨kR, 2, none⟩ (.float .f32 pt)).drew kR #[.int .i64 px, .int .i64 py, .float .f32 pt] 38 := heap_setCell_same _ kR 2 _ _ _ (heap_setCell_same _ kR 1 _ _ _ (heap_setCell_same _ kR 0 _ _ _ HIA.out.kr))
    have hB : Below w.heap.size w (((WQ.setCell ⟨kR, 0, none⟩ (.int .i64 px)).setCell ⟨kR, 1, none⟩ (.int .i64 py)).setCell ⟨kR, 2, none⟩ (.float .f32 pt)).drew := (((HIA.out.below.setCell (p := ⟨kR, 0, none⟩) gr _).setCell (p := ⟨kR, 1, none⟩) gr _).setCell (p := ⟨kR, 2, none⟩) gr _).drew
    clear s0 s1 s2 f0 f1 f2 lk g12 g13 g14 g16 g17 lq HIA
    generalize (((WQ.setCell ⟨kR, 0, none⟩ (.int .i64 px)).setCell ⟨kR, 1, none⟩ (.int .i64 py)).setCell ⟨kR, 2, none⟩ (.float .f32 pt)).drew = WZ at *
    have z0 : WZ.cell? ⟨kR, 0, none⟩ = some (.int .i64 px) := KZ.cell 0
    have z1 : WZ.cell? ⟨kR, 1, none⟩ = some (.int .i64 py) := KZ.cell 1
    have z2 : WZ.cell? ⟨kR, 2, none⟩ = some (.float .f32 pt) := KZ.cell 2
    have lz := KZ.lt
    refine bodyPost_ret (v := .tuple #[.agg #[.int .i64 px, .int .i64 py, .float .f32 pt], .bool ss, .int .i64 (n' : Int), .int .i64 0]) (by simp [results, Try.results7, go_sem, *]) rfl ⟨?_, hB⟩
    obtain ⟨S2, n2, h1, h2, h3⟩ := HRES.out
    exact ⟨S2, n2, by rw [h1], h2, h3⟩
end Go.Proofs.Ytiiogjjjgoeghaa

namespace Go.Proofs.Ytiiogjjjgoeghaa
open Go.ChangeShapes Go.WideShapes Go.ChangeAt Go.RowKit
open Ieee.Format (fin finE htE allFin allHt all_true all_false mulF subF addF Ht Bd divF rootF floorF easeF mixF)
set_option linter.unusedVariables false
set_option linter.unusedSimpArgs false
open Ieee.Format (num fin_num Ry Bx stF upB Mn num_zero V_zero)

theorem landedtop_bel (w : World) : Calls Try.prog 4 #[] w fun e w' => e = .returned (.bool true) ∧ Below w.heap.size w w' := by
  go_enter Try.func4, Try.ntmps4
  go_wp2
  go_ret
  exact ⟨rfl, (by repeat (first | with_reducible exact Below.refl _ _ | with_reducible apply Below.drew | with_reducible refine below_drewN ?_ _ | (with_reducible refine Below.setCell ?_ ?_ _; rotate_left; focus (first | omega | (simp <;> omega))) | (with_reducible refine Below.alloc ?_ ?_ _; rotate_left; focus (first | omega | (simp <;> omega)))))⟩
theorem eqPt2 (a b : Int) (w : World) : (Op.equalIn 9999 36 (.agg #[.int .i64 a, .int .i64 b]) (.agg #[.int .i64 a, .int .i64 b])).run Try.prog w = .ok true w := by
  have u3 := Try.underlying3
  have a3 := Try.isAgg3
  have z3 := Try.sizeOf3
  have hS : Try.prog.underlying 36 = some (.struct (Try.prog.fieldsOf 36)) := by kernel_rfl
  have hp : Try.prog.stoodInHeld 36 = false := by kernel_rfl
  rw [show (9999 : Nat) = 9998 + 1 from rfl, run_equalIn_agg w 9998 36 _ _ hS hp]
  simp only [Program.fieldsOf, Try.underlying36]
  go_simp
theorem eqSk (a b : Int) (t : Nat) (h1 : (FloatKind.f32.format.order t t == some .eq) = true) (w : World) :
    (Op.equalIn 10000 38 (.agg #[.int .i64 a, .int .i64 b, .float .f32 t]) (.agg #[.int .i64 a, .int .i64 b, .float .f32 t])).run Try.prog w = .ok true w := by
  have u4 := Try.underlying27
  have a4 := Try.isAgg27
  have z4 := Try.sizeOf27
  have a5 := Try.isAgg36
  have z5 := Try.sizeOf36
  have hS : Try.prog.underlying 38 = some (.struct (Try.prog.fieldsOf 38)) := by kernel_rfl
  have hp : Try.prog.stoodInHeld 38 = false := by kernel_rfl
  rw [show (10000 : Nat) = 9999 + 1 from rfl, run_equalIn_agg w 9999 38 _ _ hS hp]
  have e1 := fun w => run_equalIn_float w 9998 27 .f32 .f32 t t u4
  rw [h1] at e1
  have e2 := fun w => eqPt2 a b w
  simp only [Program.fieldsOf, Try.underlying38]
  go_simp
theorem neqSk (a b : Int) (t : Nat) (h1 : (FloatKind.f32.format.order t t == some .eq) = true) (w : World) :
    (binOp .neq 38 (.agg #[.int .i64 a, .int .i64 b, .float .f32 t]) (.agg #[.int .i64 a, .int .i64 b, .float .f32 t])).run Try.prog w = .ok (.bool false) w := by
  rw [run_neq_struct, eqSk a b t h1]; rfl
set_option maxRecDepth 100000 in
set_option maxHeartbeats 4000000 in
theorem rays_bad (X Y W H : Int) (a : Option Addr) (c : Nat) (l : List Nat) (r : Ry) (w : World) (hl : Row63 w a l) (h : chkF X Y W H l ≠ 0) :
    Calls Try.prog 3 #[fldV X Y W H a l.length c, rayV r] w fun e w' => e = .returned (.bool true) ∧ Below w.heap.size w w' := by
  have K1 := Lib.hid (fun W' h' => bndtop_bad X Y W H a c l W' h' h)
  have HL := Lib.hid hl
  have hb : (chkF X Y W H l != 0) = true := by rw [bne_iff_ne]; exact h
  clear h hl
  generalize chkF X Y W H l = q at *
  go_enter Try.func3, Try.ntmps3
  go_upto_region 1 with fail
  have B0 : Below w.heap.size w ((w.alloc (.cells #[.int .i64 X, .int .i64 Y, .int .i64 W, .int .i64 H, .slice a l.length c] 26)).alloc (.cells (ryA r) 29)) := (by repeat (first | with_reducible exact Below.refl _ _ | with_reducible apply Below.drew | with_reducible refine below_drewN ?_ _ | (with_reducible refine Below.setCell ?_ ?_ _; rotate_left; focus (first | omega | (simp <;> omega))) | (with_reducible refine Below.alloc ?_ ?_ _; rotate_left; focus (first | omega | (simp <;> omega)))))
  have F0 := (Fld.new w X Y W H (.slice a l.length c)).alloc (.cells (ryA r) 29)
  generalize (w.alloc (.cells #[.int .i64 X, .int .i64 Y, .int .i64 W, .int .i64 H, .slice a l.length c] 26)).alloc (.cells (ryA r) 29) = W0 at *
  go_wp2_with fail
  refine (landedtop_bel _).mono ?_
  rintro e w1 ⟨rfl, b1⟩
  have F1 := F0.below b1 F0.lt
  have HB1 := Lib.hid (B0.trans (b1.mono B0.size))
  obtain ⟨c0, c1, c2, c3, c4⟩ := F1.cells
  have lf := F1.lt
  clear b1 F0 B0 F1
  go_wp2_with fail
  refine (K1.out _ (HL.out.below HB1.out)).mono ?_
  rintro e w2 ⟨rfl, b2⟩
  have HB2 := Lib.hid (HB1.out.trans (b2.mono HB1.out.size))
  clear c0 c1 c2 c3 c4 lf b2
  go_wp2_with fail
  go_ret
  exact ⟨rfl, HB2.out⟩
structure TrI (w wr : World) (X Y : Int) (Wn Hn : Nat) (fv : Value) (r : Ry) : Prop where
  fl : Fld wr w.heap.size X Y Wn Hn fv
  ry : Blk wr (w.heap.size + 1) (ryA r) 29
  below : Below w.heap.size w wr
theorem TrI.call {w wr w2 : World} {X Y : Int} {Wn Hn : Nat} {fv : Value} {r : Ry} (h : TrI w wr X Y Wn Hn fv r) (hb : Below wr.heap.size wr w2) : TrI w w2 X Y Wn Hn fv r :=
  ⟨h.fl.below hb h.fl.lt, h.ry.below hb h.ry.lt, h.below.trans (hb.mono h.below.size)⟩
theorem TrI.start (w : World) (X Y : Int) (Wn Hn : Nat) (fv : Value) (r : Ry) :
    TrI w ((w.alloc (.cells #[.int .i64 X, .int .i64 Y, .int .i64 (Wn : Int), .int .i64 (Hn : Int), fv] 26)).alloc (.cells (ryA r) 29)) X Y Wn Hn fv r := by
  have F0 := (Fld.new w X Y Wn Hn fv).alloc (.cells (ryA r) 29)
  have R0 := Blk.new (w.alloc (.cells #[.int .i64 X, .int .i64 Y, .int .i64 (Wn : Int), .int .i64 (Hn : Int), fv] 26)) (ryA r) 29
  exact ⟨F0, by simpa using R0, (by repeat (first | with_reducible exact Below.refl _ _ | with_reducible apply Below.drew | with_reducible refine below_drewN ?_ _ | (with_reducible refine Below.setCell ?_ ?_ _; rotate_left; focus (first | omega | (simp <;> omega))) | (with_reducible refine Below.alloc ?_ ?_ _; rotate_left; focus (first | omega | (simp <;> omega)))))⟩
set_option maxRecDepth 100000 in
set_option maxHeartbeats 4000000 in
theorem rays_ray (X Y : Int) (Wn Hn K : Nat) (b o c : Nat) (l : List Nat) (r : Ry) (w : World) (hl : SRow w (some ⟨b, o, none⟩) l) (hc : l.length ≤ c) (hr : Right X Y Wn Hn l) (hw : ∀ x ∈ ryL r, x < 4294967296) (he : ryE r ≠ 0) (hK : Top Wn Hn K) :
    Calls Try.prog 3 #[fldV X Y Wn Hn (some ⟨b, o, none⟩) l.length c, rayV r] w fun e w' => e = .returned (.bool true) ∧ Below w.heap.size w w' := by
  have K1 := Lib.hid (fun W h => bndtop_good X Y Wn Hn K b o c l W h hc hr hK)
  have K2 := Lib.hid (fun W h => hit_bad X Y Wn Hn b o c l r W h hr hw he)
  have K3 := Lib.hid (fun vb W h => hb_bad X Y Wn Hn b o c l r vb W h hr hw he)
  have HL := Lib.hid hl
  have hb : (ryE r != 0) = true := by rw [bne_iff_ne]; exact he
  clear hl hr hw he hc hK
  generalize ryE r = er at *
  generalize hN : offB Wn Hn (K + 1) = N at *
  have HNN := Lib.hid hN
  clear hN
  go_enter Try.func3, Try.ntmps3
  go_upto_region 1 with fail
  have I0 := TrI.start w X Y Wn Hn (.slice (some ⟨b, o, none⟩) l.length c) r
  generalize (w.alloc (.cells #[.int .i64 X, .int .i64 Y, .int .i64 (Wn : Int), .int .i64 (Hn : Int), .slice (some ⟨b, o, none⟩) l.length c] 26)).alloc (.cells (ryA r) 29) = W0 at *
  have HI0 := Lib.hid I0
  clear I0
  go_wp2_with fail
  refine (landedtop_bel _).mono ?_
  rintro e w1 ⟨rfl, b1⟩
  have I1 := HI0.out.call b1
  obtain ⟨d0, d1, d2, d3, d4⟩ := I1.fl.cells
  have l0 := I1.fl.lt
  have HI1 := Lib.hid I1
  clear I1 HI0 b1
  go_wp2_with fail
  refine (K1.out _ (HL.out.below HI1.out.below)).mono ?_
  rintro e w2 ⟨⟨g, cB, rfl, hR⟩, b2⟩
  rw [HNN.out]
  have HR2 := Lib.hid hR
  have I2 := HI1.out.call b2
  clear d0 d1 d2 d3 d4 l0 HI1 b2 hR
  obtain ⟨d0, d1, d2, d3, d4⟩ := I2.fl.cells
  have l0 := I2.fl.lt
  have lr := I2.ry.lt
  have p_0 : w2.cell? ⟨w.heap.size + 1, 0, none⟩ = some (.float .f32 r.X) := I2.ry.cell 0
  have p_1 : w2.cell? ⟨w.heap.size + 1, 1, none⟩ = some (.float .f32 r.Y) := I2.ry.cell 1
  have p_2 : w2.cell? ⟨w.heap.size + 1, 2, none⟩ = some (.float .f32 r.H) := I2.ry.cell 2
  have p_3 : w2.cell? ⟨w.heap.size + 1, 3, none⟩ = some (.float .f32 r.DX) := I2.ry.cell 3
  have p_4 : w2.cell? ⟨w.heap.size + 1, 4, none⟩ = some (.float .f32 r.DY) := I2.ry.cell 4
  have p_5 : w2.cell? ⟨w.heap.size + 1, 5, none⟩ = some (.float .f32 r.DH) := I2.ry.cell 5
  have p_6 : w2.cell? ⟨w.heap.size + 1, 6, none⟩ = some (.float .f32 r.Mo) := I2.ry.cell 6
  have HI2 := Lib.hid I2
  clear I2
  go_wp2_with fail
  refine (K2.out _ (HL.out.below HI2.out.below)).mono ?_
  rintro e w3 ⟨rfl, b3⟩
  have I3 := HI2.out.call (b3.trans ((Below.refl _ _).alloc b3.size (.cells #[.int .i64 0, .int .i64 0, .float .f32 0] 38)))
  clear p_0 p_1 p_2 p_3 p_4 p_5 p_6
  clear d0 d1 d2 d3 d4 l0 lr HI2 b3
  go_upto_region 7 with fail
  generalize w3.alloc (.cells #[.int .i64 0, .int .i64 0, .float .f32 0] 38) = W4 at *
  obtain ⟨d0, d1, d2, d3, d4⟩ := I3.fl.cells
  have l0 := I3.fl.lt
  have lr := I3.ry.lt
  have p_0 : W4.cell? ⟨w.heap.size + 1, 0, none⟩ = some (.float .f32 r.X) := I3.ry.cell 0
  have p_1 : W4.cell? ⟨w.heap.size + 1, 1, none⟩ = some (.float .f32 r.Y) := I3.ry.cell 1
  have p_2 : W4.cell? ⟨w.heap.size + 1, 2, none⟩ = some (.float .f32 r.H) := I3.ry.cell 2
  have p_3 : W4.cell? ⟨w.heap.size + 1, 3, none⟩ = some (.float .f32 r.DX) := I3.ry.cell 3
  have p_4 : W4.cell? ⟨w.heap.size + 1, 4, none⟩ = some (.float .f32 r.DY) := I3.ry.cell 4
  have p_5 : W4.cell? ⟨w.heap.size + 1, 5, none⟩ = some (.float .f32 r.DH) := I3.ry.cell 5
  have p_6 : W4.cell? ⟨w.heap.size + 1, 6, none⟩ = some (.float .f32 r.Mo) := I3.ry.cell 6
  have HI3 := Lib.hid I3
  clear I3
  go_wp2_with fail
  refine (K3.out _ _ (HL.out.below HI3.out.below)).mono ?_
  rintro e w5 ⟨rfl, b5⟩
  have HB5 := Lib.hid (HI3.out.below.trans (b5.mono HI3.out.below.size))
  clear p_0 p_1 p_2 p_3 p_4 p_5 p_6
  clear d0 d1 d2 d3 d4 l0 lr HI3 b5
  go_wp2_with fail
  go_ret
  have hB := HB5.out
  exact ⟨rfl, (by have hszz := hB.size; repeat (first | with_reducible exact hB | with_reducible apply Below.drew | with_reducible refine below_drewN ?_ _ | (with_reducible refine Below.setCell ?_ ?_ _; rotate_left; focus (first | omega | (simp <;> omega))) | (with_reducible refine Below.alloc ?_ ?_ _; rotate_left; focus (first | omega | (simp <;> omega)))))⟩
theorem tm_law {r : Ry} (hry : r.ok) {t : Nat} (h : Ieee.Format.Tm r t) : ((FloatKind.f32.format.order t 0 == some .gt) = true ∨ ((FloatKind.f32.format.order t 0 == some .gt) = false ∧ (FloatKind.f32.format.order t 0 == some .eq) = true)) ∧ ((FloatKind.f32.format.order t r.Mo == some .lt) = true ∨ ((FloatKind.f32.format.order t r.Mo == some .lt) = false ∧ (FloatKind.f32.format.order t r.Mo == some .eq) = true)) := by
  refine ⟨?_, (le_word h.n (fin_num hry.mo.fin)).1 h.hi⟩
  rw [oG h.n num_zero, oE h.n num_zero, V_zero]
  have := h.lo
  rcases Ieee.Format.rat_tri (Ieee.single.V t) 0 with q | q | q
  · grind
  · exact .inr ⟨decide_eq_false (by grind), decide_eq_true q⟩
  · exact .inl (decide_eq_true q)
set_option maxRecDepth 100000 in
set_option maxHeartbeats 4000000 in
theorem rays_good (X Y : Int) (Wn Hn K : Nat) (b o c : Nat) (l : List Nat) (r : Ry) (w : World) (hl : SRow w (some ⟨b, o, none⟩) l) (hc : l.length ≤ c) (hr : Right X Y Wn Hn l) (hw : ∀ x ∈ ryL r, x < 4294967296) (he : ryE r = 0) (hK : Top Wn Hn K) :
    Calls Try.prog 3 #[fldV X Y Wn Hn (some ⟨b, o, none⟩) l.length c, rayV r] w fun e w' => e = .returned (.bool true) ∧ Below w.heap.size w w' := by
  have hry := ryE_zero he
  have kb : b < w.heap.size := bl_blt0 hl (bl_pos0 hr)
  have hlt16 : l.length ≤ 65536 := by rw [hr.len, Nat.mul_comm]; exact hr.wh
  have K1 := Lib.hid (fun W h => bndtop_good X Y Wn Hn K b o c l W h hc hr hK)
  have K2 := Lib.hid (fun W h => hit_good X Y Wn Hn b o c l r W h hc hr hw he)
  have K3 := Lib.hid (fun g cB W h h' => hb_good X Y Wn Hn K b o c g cB l r W h hc hr hw he hK h')
  have HTM := Lib.hid (fun k t (hk : k < l.length) (hs : stO r X Y Wn l k = some t) => tm_law hry (stO_num hry hr hk hs))
  have HTN := Lib.hid (fun k t (hk : k < l.length) (hs : stO r X Y Wn l k = some t) => (stO_num hry hr hk hs).n)
  have HL := Lib.hid hl
  clear hl hr hw he hc hK hry
  generalize hN : offB Wn Hn (K + 1) = N at *
  have HNN := Lib.hid hN
  clear hN
  go_enter Try.func3, Try.ntmps3
  go_upto_region 1 with fail
  have I0 := TrI.start w X Y Wn Hn (.slice (some ⟨b, o, none⟩) l.length c) r
  generalize (w.alloc (.cells #[.int .i64 X, .int .i64 Y, .int .i64 (Wn : Int), .int .i64 (Hn : Int), .slice (some ⟨b, o, none⟩) l.length c] 26)).alloc (.cells (ryA r) 29) = W0 at *
  have HI0 := Lib.hid I0
  clear I0
  go_wp2_with fail
  refine (landedtop_bel _).mono ?_
  rintro e w1 ⟨rfl, b1⟩
  have I1 := HI0.out.call b1
  obtain ⟨d0, d1, d2, d3, d4⟩ := I1.fl.cells
  have l0 := I1.fl.lt
  have HI1 := Lib.hid I1
  clear I1 HI0 b1
  go_wp2_with fail
  refine (K1.out _ (HL.out.below HI1.out.below)).mono ?_
  rintro e w2 ⟨⟨g, cB, rfl, hR⟩, b2⟩
  rw [HNN.out]
  have HR2 := Lib.hid hR
  have I2 := HI1.out.call b2
  clear d0 d1 d2 d3 d4 l0 HI1 b2 hR
  obtain ⟨d0, d1, d2, d3, d4⟩ := I2.fl.cells
  have l0 := I2.fl.lt
  have lr := I2.ry.lt
  have p_0 : w2.cell? ⟨w.heap.size + 1, 0, none⟩ = some (.float .f32 r.X) := I2.ry.cell 0
  have p_1 : w2.cell? ⟨w.heap.size + 1, 1, none⟩ = some (.float .f32 r.Y) := I2.ry.cell 1
  have p_2 : w2.cell? ⟨w.heap.size + 1, 2, none⟩ = some (.float .f32 r.H) := I2.ry.cell 2
  have p_3 : w2.cell? ⟨w.heap.size + 1, 3, none⟩ = some (.float .f32 r.DX) := I2.ry.cell 3
  have p_4 : w2.cell? ⟨w.heap.size + 1, 4, none⟩ = some (.float .f32 r.DY) := I2.ry.cell 4
  have p_5 : w2.cell? ⟨w.heap.size + 1, 5, none⟩ = some (.float .f32 r.DH) := I2.ry.cell 5
  have p_6 : w2.cell? ⟨w.heap.size + 1, 6, none⟩ = some (.float .f32 r.Mo) := I2.ry.cell 6
  have HI2 := Lib.hid I2
  clear I2
  go_wp2_with fail
  refine (K2.out _ (HL.out.below HI2.out.below)).mono ?_
  rintro e w3 ⟨⟨S, rfl, hm⟩, b3⟩
  have HM := Lib.hid hm
  have I3 := HI2.out.call (b3.trans ((Below.refl _ _).alloc b3.size (.cells #[.int .i64 (bX X Wn S), .int .i64 (bY Y Wn S), .float .f32 (bT S)] 38)))
  have P3 : Blk (w3.alloc (.cells #[.int .i64 (bX X Wn S), .int .i64 (bY Y Wn S), .float .f32 (bT S)] 38)) w3.heap.size #[.int .i64 (bX X Wn S), .int .i64 (bY Y Wn S), .float .f32 (bT S)] 38 := Blk.new _ _ _
  have HR3 := Lib.hid ((HR2.out.below b3 HR2.out.1).below ((Below.refl w3.heap.size w3).alloc (Nat.le_refl _) (.cells #[.int .i64 (bX X Wn S), .int .i64 (bY Y Wn S), .float .f32 (bT S)] 38)) (Nat.lt_of_lt_of_le HR2.out.1 b3.size))
  have hs3 : w.heap.size ≤ w3.heap.size := Nat.le_trans HI2.out.below.size b3.size
  clear p_0 p_1 p_2 p_3 p_4 p_5 p_6
  clear d0 d1 d2 d3 d4 l0 lr HI2 b3 HR2 hm
  go_upto_region 7 with fail
  generalize w3.alloc (.cells #[.int .i64 (bX X Wn S), .int .i64 (bY Y Wn S), .float .f32 (bT S)] 38) = W4 at *
  generalize w3.heap.size = k7 at *
  obtain ⟨d0, d1, d2, d3, d4⟩ := I3.fl.cells
  have l0 := I3.fl.lt
  have lr := I3.ry.lt
  have p_0 : W4.cell? ⟨w.heap.size + 1, 0, none⟩ = some (.float .f32 r.X) := I3.ry.cell 0
  have p_1 : W4.cell? ⟨w.heap.size + 1, 1, none⟩ = some (.float .f32 r.Y) := I3.ry.cell 1
  have p_2 : W4.cell? ⟨w.heap.size + 1, 2, none⟩ = some (.float .f32 r.H) := I3.ry.cell 2
  have p_3 : W4.cell? ⟨w.heap.size + 1, 3, none⟩ = some (.float .f32 r.DX) := I3.ry.cell 3
  have p_4 : W4.cell? ⟨w.heap.size + 1, 4, none⟩ = some (.float .f32 r.DY) := I3.ry.cell 4
  have p_5 : W4.cell? ⟨w.heap.size + 1, 5, none⟩ = some (.float .f32 r.DH) := I3.ry.cell 5
  have p_6 : W4.cell? ⟨w.heap.size + 1, 6, none⟩ = some (.float .f32 r.Mo) := I3.ry.cell 6
  have HI3 := Lib.hid I3
  have HP3 := Lib.hid P3
  clear I3 P3
  have KH := Lib.hid (K3.out g cB W4 (HL.out.below HI3.out.below) HR3.out)
  clear K3 K2 K1
  go_wp2_with fail
  refine KH.out.mono ?_
  rintro e w5 ⟨⟨S2, n, rfl, hm2, hn⟩, b5⟩
  obtain rfl : S2 = S := hm2.unique HM.out
  have hn' : ¬ (l.length : Int) < (n : Int) := by omega
  have I5 := (HI3.out.call b5).call ((Below.refl w5.heap.size w5).alloc (Nat.le_refl _) (.cells #[.int .i64 (bX X Wn S2), .int .i64 (bY Y Wn S2), .float .f32 (bT S2)] 38))
  have P5 := (HP3.out.below b5 HP3.out.lt).alloc (.cells #[.int .i64 (bX X Wn S2), .int .i64 (bY Y Wn S2), .float .f32 (bT S2)] 38)
  have Q5 : Blk (w5.alloc (.cells #[.int .i64 (bX X Wn S2), .int .i64 (bY Y Wn S2), .float .f32 (bT S2)] 38)) w5.heap.size #[.int .i64 (bX X Wn S2), .int .i64 (bY Y Wn S2), .float .f32 (bT S2)] 38 := Blk.new _ _ _
  clear p_0 p_1 p_2 p_3 p_4 p_5 p_6
  clear d0 d1 d2 d3 d4 l0 lr HI3 HP3 KH hm2 b5
  go_upto_region 8 with fail
  generalize w5.alloc (.cells #[.int .i64 (bX X Wn S2), .int .i64 (bY Y Wn S2), .float .f32 (bT S2)] 38) = W6 at *
  generalize w5.heap.size = k9 at *
  have hB6 := I5.below
  have HB6 := Lib.hid hB6
  have d4 : W6.cell? ⟨w.heap.size, 4, none⟩ = some (.slice (some ⟨b, o, none⟩) l.length c) := I5.fl.cell 4
  have l0 := I5.fl.lt
  have lr := I5.ry.lt
  have p6 : W6.cell? ⟨w.heap.size + 1, 6, none⟩ = some (.float .f32 r.Mo) := I5.ry.cell 6
  have s0 : W6.cell? ⟨k7, 0, none⟩ = some (.int .i64 (bX X Wn S2)) := P5.cell 0
  have s1 : W6.cell? ⟨k7, 1, none⟩ = some (.int .i64 (bY Y Wn S2)) := P5.cell 1
  have s2 : W6.cell? ⟨k7, 2, none⟩ = some (.float .f32 (bT S2)) := P5.cell 2
  have t0 : W6.cell? ⟨k9, 0, none⟩ = some (.int .i64 (bX X Wn S2)) := Q5.cell 0
  have t1 : W6.cell? ⟨k9, 1, none⟩ = some (.int .i64 (bY Y Wn S2)) := Q5.cell 1
  have t2 : W6.cell? ⟨k9, 2, none⟩ = some (.float .f32 (bT S2)) := Q5.cell 2
  have lk7 := P5.lt
  have lk9 := Q5.lt
  clear I5 P5 Q5 hB6
  cases S2 with
  | none =>
    have o1 : (FloatKind.f32.format.order (bT none) (bT none) == some .eq) = true := (oE num_zero num_zero).trans (decide_eq_true rfl)
    have kn := fun w => neqSk (bX X Wn none) (bY Y Wn none) (bT none) o1 w
    clear o1
    generalize bX X Wn none = px at *
    generalize bY Y Wn none = py at *
    generalize bT none = pt at *
    go_wp2_with fail
    go_ret
    have hB := HB6.out
    exact ⟨rfl, (by have hszz := hB.size; repeat (first | with_reducible exact hB | with_reducible apply Below.drew | with_reducible refine below_drewN ?_ _ | (with_reducible refine Below.setCell ?_ ?_ _; rotate_left; focus (first | omega | (simp <;> omega))) | (with_reducible refine Below.alloc ?_ ?_ _; rotate_left; focus (first | omega | (simp <;> omega)))))⟩
  | some kt =>
    obtain ⟨k, t⟩ := kt
    have hM := HM.out
    have ht := HTM.out k t hM.1 hM.2.1
    have hn := HTN.out k t hM.1 hM.2.1
    have o1 : (FloatKind.f32.format.order (bT (some (k, t))) (bT (some (k, t))) == some .eq) = true := (oE hn hn).trans (decide_eq_true rfl)
    have kn := fun w => neqSk (bX X Wn (some (k, t))) (bY Y Wn (some (k, t))) (bT (some (k, t))) o1 w
    have ht2 : ((FloatKind.f32.format.order (bT (some (k, t))) 0 == some .gt) = true ∨ ((FloatKind.f32.format.order (bT (some (k, t))) 0 == some .gt) = false ∧ (FloatKind.f32.format.order (bT (some (k, t))) 0 == some .eq) = true)) ∧ ((FloatKind.f32.format.order (bT (some (k, t))) r.Mo == some .lt) = true ∨ ((FloatKind.f32.format.order (bT (some (k, t))) r.Mo == some .lt) = false ∧ (FloatKind.f32.format.order (bT (some (k, t))) r.Mo == some .eq) = true)) := ht
    clear o1 ht hn hM HM
    generalize bX X Wn (some (k, t)) = px at *
    generalize bY Y Wn (some (k, t)) = py at *
    generalize bT (some (k, t)) = pt at *
    obtain ⟨h1, h2⟩ := ht2
    rcases h1 with h1 | ⟨h1, h1'⟩ <;> rcases h2 with h2 | ⟨h2, h2'⟩
    all_goals
      go_wp2_with fail
      go_ret
      have hB := HB6.out
      exact ⟨rfl, (by have hszz := hB.size; repeat (first | with_reducible exact hB | with_reducible apply Below.drew | with_reducible refine below_drewN ?_ _ | (with_reducible refine Below.setCell ?_ ?_ _; rotate_left; focus (first | omega | (simp <;> omega))) | (with_reducible refine Below.alloc ?_ ?_ _; rotate_left; focus (first | omega | (simp <;> omega)))))⟩
theorem rays_law (X Y W H : Int) (a : Option Addr) (c : Nat) (l : List Nat) (r : Ry) (w : World) (hl : Row63 w a l) (hc : l.length ≤ c) (hw : ∀ x ∈ ryL r, x < 4294967296) :
    Calls Try.prog 3 #[fldV X Y W H a l.length c, rayV r] w fun e w' => e = .returned (.bool true) ∧ Below w.heap.size w w' := by
  by_cases h : chkF X Y W H l = 0
  · obtain ⟨Wn, Hn, rfl, rfl, hr⟩ := right_of h
    have hlt : l.length ≤ 65536 := by rw [hr.len, Nat.mul_comm]; exact hr.wh
    have hs := hl.srow hlt
    obtain ⟨K, hK⟩ := Top.ex hr.w2 hr.h2
    match a, hs with
    | none, hs =>
      have h0 := bl_pos0 hr
      rcases hs.2 with e | ⟨_, _, e, _⟩
      · exact absurd e (by intro e2; rw [e2] at h0; simp at h0)
      · cases e
    | some p, hs =>
      rcases hs.2 with e | ⟨b, o, e, _⟩
      · have h0 := bl_pos0 hr
        exact absurd e (by intro e2; rw [e2] at h0; simp at h0)
      · obtain rfl := Option.some.inj e
        by_cases he : ryE r = 0
        · exact rays_good X Y Wn Hn K b o c l r w hs hc hr hw he hK
        · exact rays_ray X Y Wn Hn K b o c l r w hs hc hr hw he hK
  · exact rays_bad X Y W H a c l r w hl h
end Go.Proofs.Ytiiogjjjgoeghaa
