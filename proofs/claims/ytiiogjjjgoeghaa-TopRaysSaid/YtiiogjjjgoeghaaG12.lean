import Derived.Test.YtiiogjjjgoeghaaG11
import Derived.IntWalk
import Derived.BigQuiet
import Derived.BigRegion
import Derived.StillTailTactics
import Derived.Test.YtiiogjjjgoeghaaG10
namespace Go.Proofs.Ytiiogjjjgoeghaa
open Go.ChangeShapes Go.WideShapes Go.ChangeAt Go.RowKit
open Ieee.Format (fin finE htE allFin allHt all_true all_false mulF subF addF Ht Bd divF rootF floorF easeF mixF)
set_option linter.unusedVariables false
set_option linter.unusedSimpArgs false
open Ieee.Format (num fin_num Ry Bx stF upB Mn)

/-- a strike's values -/
abbrev skV (X Y : Int) (Wn : Nat) (S : Option (Nat × Nat)) : Value := .agg #[.int .i64 (bX X Wn S), .int .i64 (bY Y Wn S), .float .f32 (bT S)]
/-- when each cell is struck -/
def stO (r : Ry) (X Y : Int) (Wn : Nat) (l : List Nat) (k : Nat) : Option Nat := stF r (clB X Y Wn k) (l.getD k 0)
theorem stO_num {r : Ry} (hr : r.ok) {X Y : Int} {Wn Hn : Nat} {l : List Nat} (h : Right X Y Wn Hn l) {k t : Nat} (hk : k < l.length) (hs : stO r X Y Wn l k = some t) : Ieee.Format.Tm r t := by
  have hwl := h.len
  have h1 := h.w1
  refine stF_tm hr (clB_ok h.w2 h.h2 h.x1 h.x2 h.y1 h.y2 (Nat.mod_lt _ (by omega)) (Nat.div_lt_of_lt_mul (by rw [Nat.mul_comm]; omega))) ?_ hs
  rw [List.getD_eq_getElem?_getD, List.getElem?_eq_getElem hk]; exact h.ht _ (List.getElem_mem hk)
/-- what was found lies in the field -/
theorem mn_in {r : Ry} (hr : r.ok) {X Y : Int} {Wn Hn : Nat} {l : List Nat} (h : Right X Y Wn Hn l) {P : Nat → Prop} {S : Option (Nat × Nat)} (hP : ∀ k, P k → k < l.length) (hm : Mn (stO r X Y Wn l) P S) : ∀ k0 t0, S = some (k0, t0) → num t0 ∧ k0 < l.length := by
  rintro k0 t0 rfl
  exact ⟨(stO_num hr h (hP _ hm.1) hm.2.1).n, hP _ hm.1⟩
structure HtI (w wr : World) (kR q : Nat) (X Y : Int) (Wn Hn : Nat) (fv : Value) (r : Ry) (S : Option (Nat × Nat)) (n : Nat) : Prop where
  kr : Blk wr kR #[.int .i64 0, .int .i64 0, .float .f32 0] 38
  sh : Sh wr q X Y Wn Hn fv r S n
  below : Below w.heap.size w wr
  gq : w.heap.size ≤ q
  gr : w.heap.size ≤ kR
theorem HtI.but {w wr w2 : World} {kR q : Nat} {X Y : Int} {Wn Hn : Nat} {fv : Value} {r : Ry} {S T : Option (Nat × Nat)} {n m : Nat} (h : HtI w wr kR q X Y Wn Hn fv r S n) (hb : But wr.heap.size (fun k => k = q) wr w2) (hs : Sh w2 q X Y Wn Hn fv r T m) : HtI w w2 kR q X Y Wn Hn fv r T m := by
  have hne : kR ≠ q := blk_ne h.kr h.sh (by decide)
  have gq := h.gq
  exact ⟨h.kr.but hb h.kr.lt hne, hs, h.below.trans (hb.belowOf h.below.size (fun k hk => by omega)), h.gq, h.gr⟩
/-- a ray's cells -/
abbrev ryA (r : Ry) : Array Value := #[.float .f32 r.X, .float .f32 r.Y, .float .f32 r.H, .float .f32 r.DX, .float .f32 r.DY, .float .f32 r.DH, .float .f32 r.Mo]
structure HbI (w wr : World) (X Y : Int) (Wn Hn : Nat) (fv : Value) (r : Ry) (kR : Nat) : Prop where
  fl : Fld wr w.heap.size X Y Wn Hn fv
  ry : Blk wr (w.heap.size + 1) (ryA r) 29
  kr : Blk wr kR #[.int .i64 0, .int .i64 0, .float .f32 0] 38
  below : Below w.heap.size w wr
  gr : w.heap.size ≤ kR
theorem HbI.call {w wr w2 : World} {X Y : Int} {Wn Hn : Nat} {fv : Value} {r : Ry} {kR : Nat} (h : HbI w wr X Y Wn Hn fv r kR) (hb : Below wr.heap.size wr w2) : HbI w w2 X Y Wn Hn fv r kR :=
  ⟨h.fl.below hb h.fl.lt, h.ry.below hb h.ry.lt, h.kr.below hb h.kr.lt, h.below.trans (hb.mono h.below.size), h.gr⟩
theorem HbI.start (w : World) (X Y : Int) (Wn Hn : Nat) (fv : Value) (r : Ry) :
    HbI w (((w.alloc (.cells #[.int .i64 X, .int .i64 Y, .int .i64 (Wn : Int), .int .i64 (Hn : Int), fv] 26)).alloc (.cells (ryA r) 29)).alloc (.cells #[.int .i64 0, .int .i64 0, .float .f32 0] 38)) X Y Wn Hn fv r (w.heap.size + 1 + 1) := by
  have F0 := ((Fld.new w X Y Wn Hn fv).alloc (.cells (ryA r) 29)).alloc (.cells #[.int .i64 0, .int .i64 0, .float .f32 0] 38)
  have R0 := (Blk.new (w.alloc (.cells #[.int .i64 X, .int .i64 Y, .int .i64 (Wn : Int), .int .i64 (Hn : Int), fv] 26)) (ryA r) 29).alloc (.cells #[.int .i64 0, .int .i64 0, .float .f32 0] 38)
  have K0 := Blk.new ((w.alloc (.cells #[.int .i64 X, .int .i64 Y, .int .i64 (Wn : Int), .int .i64 (Hn : Int), fv] 26)).alloc (.cells (ryA r) 29)) #[.int .i64 0, .int .i64 0, .float .f32 0] 38
  refine ⟨F0, by simpa using R0, by simpa using K0, (by repeat (first | with_reducible exact Below.refl _ _ | with_reducible apply Below.drew | with_reducible refine below_drewN ?_ _ | (with_reducible refine Below.setCell ?_ ?_ _; rotate_left; focus (first | omega | (simp <;> omega))) | (with_reducible refine Below.alloc ?_ ?_ _; rotate_left; focus (first | omega | (simp <;> omega))))), by omega⟩
def HtP (r : Ry) (X Y : Int) (Wn : Nat) (l : List Nat) (w : World) (e : Ending) (w' : World) : Prop :=
  (∃ S, e = .returned (.tuple #[skV X Y Wn S, .bool S.isSome, .int .i64 0]) ∧ Mn (stO r X Y Wn l) (fun k => k < l.length) S) ∧ Below w.heap.size w w'
set_option maxRecDepth 100000 in
set_option maxHeartbeats 4000000 in
theorem hit_good (X Y : Int) (Wn Hn : Nat) (b o c : Nat) (l : List Nat) (r : Ry) (w : World) (hl : SRow w (some ⟨b, o, none⟩) l) (hc : l.length ≤ c) (hr : Right X Y Wn Hn l) (hw : ∀ x ∈ ryL r, x < 4294967296) (he : ryE r = 0) :
    Calls Try.prog 6 #[fldV X Y Wn Hn (some ⟨b, o, none⟩) l.length c, rayV r] w fun e w' => HtP r X Y Wn l w e w' := by
  have hry := ryE_zero he
  have K1 := Lib.hid (fun W h => checkhit_any X Y Wn Hn b o c l r W h hr hw)
  rw [he] at K1
  have K2 := Lib.hid (fun q S n k W hl' hs hbq hk hS => try_any X Y Wn Hn q b o c l r S n k W hl' hc hr hry hs hbq hk hS)
  have hlt16 : l.length ≤ 65536 := by rw [hr.len, Nat.mul_comm]; exact hr.wh
  have HL := Lib.hid hl
  have kb : b < w.heap.size := bl_blt0 hl (bl_pos0 hr)
  have HM := Lib.hid (fun (P : Nat → Prop) S hP hm => mn_in (P := P) (S := S) hry hr hP hm)
  clear hl hr hw he hry hc
  go_enter Try.func6, Try.ntmps6
  go_upto_region 1 with fail
  have I0 := HbI.start w X Y Wn Hn (.slice (some ⟨b, o, none⟩) l.length c) r
  generalize hkR : w.heap.size + 1 + 1 = kR at *
  generalize ((w.alloc (.cells #[.int .i64 X, .int .i64 Y, .int .i64 (Wn : Int), .int .i64 (Hn : Int), .slice (some ⟨b, o, none⟩) l.length c] 26)).alloc (.cells (ryA r) 29)).alloc (.cells #[.int .i64 0, .int .i64 0, .float .f32 0] 38) = W0 at *
  clear hkR
  obtain ⟨d0, d1, d2, d3, d4⟩ := I0.fl.cells
  have l0 := I0.fl.lt
  have lr := I0.ry.lt
  have p_0 : W0.cell? ⟨w.heap.size + 1, 0, none⟩ = some (.float .f32 r.X) := I0.ry.cell 0
  have p_1 : W0.cell? ⟨w.heap.size + 1, 1, none⟩ = some (.float .f32 r.Y) := I0.ry.cell 1
  have p_2 : W0.cell? ⟨w.heap.size + 1, 2, none⟩ = some (.float .f32 r.H) := I0.ry.cell 2
  have p_3 : W0.cell? ⟨w.heap.size + 1, 3, none⟩ = some (.float .f32 r.DX) := I0.ry.cell 3
  have p_4 : W0.cell? ⟨w.heap.size + 1, 4, none⟩ = some (.float .f32 r.DY) := I0.ry.cell 4
  have p_5 : W0.cell? ⟨w.heap.size + 1, 5, none⟩ = some (.float .f32 r.DH) := I0.ry.cell 5
  have p_6 : W0.cell? ⟨w.heap.size + 1, 6, none⟩ = some (.float .f32 r.Mo) := I0.ry.cell 6
  have HI0 := Lib.hid I0
  clear I0
  go_wp2_with fail
  refine (K1.out _ (HL.out.below HI0.out.below)).mono ?_
  rintro e w1 ⟨rfl, b1⟩
  have I1 := HI0.out.call b1
  clear p_0 p_1 p_2 p_3 p_4 p_5 p_6
  clear d0 d1 d2 d3 d4 l0 lr HI0 b1 K1
  obtain ⟨d0, d1, d2, d3, d4⟩ := I1.fl.cells
  have l0 := I1.fl.lt
  have lr := I1.ry.lt
  have p_0 : w1.cell? ⟨w.heap.size + 1, 0, none⟩ = some (.float .f32 r.X) := I1.ry.cell 0
  have p_1 : w1.cell? ⟨w.heap.size + 1, 1, none⟩ = some (.float .f32 r.Y) := I1.ry.cell 1
  have p_2 : w1.cell? ⟨w.heap.size + 1, 2, none⟩ = some (.float .f32 r.H) := I1.ry.cell 2
  have p_3 : w1.cell? ⟨w.heap.size + 1, 3, none⟩ = some (.float .f32 r.DX) := I1.ry.cell 3
  have p_4 : w1.cell? ⟨w.heap.size + 1, 4, none⟩ = some (.float .f32 r.DY) := I1.ry.cell 4
  have p_5 : w1.cell? ⟨w.heap.size + 1, 5, none⟩ = some (.float .f32 r.DH) := I1.ry.cell 5
  have p_6 : w1.cell? ⟨w.heap.size + 1, 6, none⟩ = some (.float .f32 r.Mo) := I1.ry.cell 6
  have HI1 := Lib.hid I1
  clear I1
  go_upto_region 5 with fail
  have S5 : HtI w (w1.alloc (.cells (shC X Y Wn Hn (.slice (some ⟨b, o, none⟩) l.length c) r 0 0 0 0 false 0) 49)) kR w1.heap.size X Y Wn Hn (.slice (some ⟨b, o, none⟩) l.length c) r none 0 :=
    ⟨Blk.alloc HI1.out.kr _, Blk.new _ _ _, HI1.out.below.alloc HI1.out.below.size _, HI1.out.below.size, HI1.out.gr⟩
  have F5 := HI1.out.fl.alloc (.cells (shC X Y Wn Hn (.slice (some ⟨b, o, none⟩) l.length c) r 0 0 0 0 false 0) 49)
  clear p_0 p_1 p_2 p_3 p_4 p_5 p_6
  clear d0 d1 d2 d3 d4 l0 lr HI1
  generalize w1.alloc (.cells (shC X Y Wn Hn (.slice (some ⟨b, o, none⟩) l.length c) r 0 0 0 0 false 0) 49) = W5 at *
  generalize w1.heap.size = q at *
  have d4 : W5.cell? ⟨w.heap.size, 4, none⟩ = some (.slice (some ⟨b, o, none⟩) l.length c) := F5.cell 4
  have l0 := F5.lt
  have HS5 := Lib.hid S5
  have HST : Hid (Mn (stO r X Y Wn l) (fun j => j < 0) none) := fun j hj => absurd hj (by omega)
  clear S5 F5
  go_wp2_with fail
  go_loopw [23] (fun iv wr => ∃ k S, k ≤ l.length ∧ iv = .int .i64 ((k : Nat) : Int) ∧ Hid (Mn (stO r X Y Wn l) (fun j => j < k) S) ∧ Hid (HtI w wr kR q X Y Wn Hn (.slice (some ⟨b, o, none⟩) l.length c) r S 0)) (fun iv _ => l.length - (intOf iv).toNat)
  case atStart => exact ⟨0, none, by omega, rfl, HST, HS5⟩
  case round =>
    clear HS5 HST d4 l0
    obtain ⟨k, S, hk, rfl, HMn, HI⟩ := hrel
    by_cases hlt : k < l.length
    · have hlt' : (k : Int) < (l.length : Int) := by omega
      have hbq : b ≠ q := by have := HI.out.gq; omega
      have KT := Lib.hid (K2.out q S 0 k wr (HL.out.below HI.out.below) HI.out.sh hbq hlt (HM.out (fun j => j < k) S (fun j hj => by omega) HMn.out))
      go_wp2_with fail
      refine KT.out.mono ?_
      rintro e w3 ⟨rfl, hs, hb⟩
      have HI3 := Lib.hid (HI.out.but hb hs)
      have HM3 := Lib.hid (HMn.out.up k)
      clear KT HI HMn hs hb
      go_wp2_with fail
      go_roundw
      case rel => exact ⟨k + 1, _, by omega, by go_num, Lib.hid (HM3.out.iff (fun j => by omega)), HI3⟩
      case measure => simp [intOf]; omega
    · obtain rfl : k = l.length := by omega
      have g12 : wr.cell? ⟨q, 12, none⟩ = some (.int .i64 (bX X Wn S)) := HI.out.sh.cell 12
      have g13 : wr.cell? ⟨q, 13, none⟩ = some (.int .i64 (bY Y Wn S)) := HI.out.sh.cell 13
      have g14 : wr.cell? ⟨q, 14, none⟩ = some (.float .f32 (bT S)) := HI.out.sh.cell 14
      have g16 : wr.cell? ⟨q, 16, none⟩ = some (.bool S.isSome) := HI.out.sh.cell 16
      have s0 : wr.cell? ⟨kR, 0, none⟩ = some (.int .i64 0) := HI.out.kr.cell 0
      have s1 : wr.cell? ⟨kR, 1, none⟩ = some (.int .i64 0) := HI.out.kr.cell 1
      have s2 : wr.cell? ⟨kR, 2, none⟩ = some (.float .f32 0) := HI.out.kr.cell 2
      have f0 := HI.out.kr.frozen 0
      have f1 := HI.out.kr.frozen 1
      have f2 := HI.out.kr.frozen 2
      have lq := HI.out.sh.lt
      have lk := HI.out.kr.lt
      have hne : kR ≠ q := blk_ne HI.out.kr HI.out.sh (by decide)
      have HSS : Hid (Mn (stO r X Y Wn l) (fun j => j < l.length) S ∧ HtI w wr kR q X Y Wn Hn (.slice (some ⟨b, o, none⟩) l.length c) r S 0) := ⟨HMn.out, HI.out⟩
      clear HMn HI K2 HM HL hk
      have HVX : Hid (skV X Y Wn S = .agg #[.int .i64 (bX X Wn S), .int .i64 (bY Y Wn S), .float .f32 (bT S)]) := Lib.hid rfl
      generalize bX X Wn S = px at *
      generalize bY Y Wn S = py at *
      generalize bT S = pt at *
      generalize hss : S.isSome = ss at *
      have HSI := Lib.hid hss
      clear hss
      go_wp2_with fail
      go_region
      all_goals
        go_wp2_with fail
        obtain ⟨hMn, hI⟩ := HSS.out
        have KZ : Blk (((wr.setCell ⟨kR, 0, none⟩ (.int .i64 px)).setCell ⟨kR, 1, none⟩ (.int .i64 py)).setCell ⟨kR, 2, none⟩ (.float .f32 pt)).drew kR #[.int .i64 px, .int .i64 py, .float .f32 pt] 38 := heap_setCell_same _ kR 2 _ _ _ (heap_setCell_same _ kR 1 _ _ _ (heap_setCell_same _ kR 0 _ _ _ hI.kr))
        have gr := hI.gr
        have hB : Below w.heap.size w (((wr.setCell ⟨kR, 0, none⟩ (.int .i64 px)).setCell ⟨kR, 1, none⟩ (.int .i64 py)).setCell ⟨kR, 2, none⟩ (.float .f32 pt)).drew := (((hI.below.setCell (p := ⟨kR, 0, none⟩) gr _).setCell (p := ⟨kR, 1, none⟩) gr _).setCell (p := ⟨kR, 2, none⟩) gr _).drew
        clear s0 s1 s2 f0 f1 f2 lk hI g12 g13 g14 g16 lq
        generalize (((wr.setCell ⟨kR, 0, none⟩ (.int .i64 px)).setCell ⟨kR, 1, none⟩ (.int .i64 py)).setCell ⟨kR, 2, none⟩ (.float .f32 pt)).drew = WZ at *
        have z0 : WZ.cell? ⟨kR, 0, none⟩ = some (.int .i64 px) := KZ.cell 0
        have z1 : WZ.cell? ⟨kR, 1, none⟩ = some (.int .i64 py) := KZ.cell 1
        have z2 : WZ.cell? ⟨kR, 2, none⟩ = some (.float .f32 pt) := KZ.cell 2
        have lz := KZ.lt
        exact bodyPost_ret (v := .tuple #[.agg #[.int .i64 px, .int .i64 py, .float .f32 pt], .bool ss, .int .i64 0]) (by simp [results, Try.results6, go_sem, *]) rfl ⟨⟨S, by rw [HVX.out, HSI.out], hMn⟩, hB⟩
def HtB (er : Int) (w : World) (e : Ending) (w' : World) : Prop := e = .returned (.tuple #[.agg #[.int .i64 0, .int .i64 0, .float .f32 0], .bool false, .int .i64 er]) ∧ Below w.heap.size w w'
set_option maxRecDepth 100000 in
set_option maxHeartbeats 4000000 in
theorem hit_bad (X Y : Int) (Wn Hn : Nat) (b o c : Nat) (l : List Nat) (r : Ry) (w : World) (hl : SRow w (some ⟨b, o, none⟩) l) (hr : Right X Y Wn Hn l) (hw : ∀ x ∈ ryL r, x < 4294967296) (he : ryE r ≠ 0) :
    Calls Try.prog 6 #[fldV X Y Wn Hn (some ⟨b, o, none⟩) l.length c, rayV r] w fun e w' => HtB (ryE r) w e w' := by
  have K1 := Lib.hid (fun W h => checkhit_any X Y Wn Hn b o c l r W h hr hw)
  have hb : (ryE r != 0) = true := by rw [bne_iff_ne]; exact he
  have HL := Lib.hid hl
  clear hl hr hw he
  generalize ryE r = er at *
  go_enter Try.func6, Try.ntmps6
  go_upto_region 1 with fail
  have I0 := HbI.start w X Y Wn Hn (.slice (some ⟨b, o, none⟩) l.length c) r
  generalize hkR : w.heap.size + 1 + 1 = kR at *
  generalize ((w.alloc (.cells #[.int .i64 X, .int .i64 Y, .int .i64 (Wn : Int), .int .i64 (Hn : Int), .slice (some ⟨b, o, none⟩) l.length c] 26)).alloc (.cells (ryA r) 29)).alloc (.cells #[.int .i64 0, .int .i64 0, .float .f32 0] 38) = W0 at *
  clear hkR
  obtain ⟨d0, d1, d2, d3, d4⟩ := I0.fl.cells
  have l0 := I0.fl.lt
  have lr := I0.ry.lt
  have p_0 : W0.cell? ⟨w.heap.size + 1, 0, none⟩ = some (.float .f32 r.X) := I0.ry.cell 0
  have p_1 : W0.cell? ⟨w.heap.size + 1, 1, none⟩ = some (.float .f32 r.Y) := I0.ry.cell 1
  have p_2 : W0.cell? ⟨w.heap.size + 1, 2, none⟩ = some (.float .f32 r.H) := I0.ry.cell 2
  have p_3 : W0.cell? ⟨w.heap.size + 1, 3, none⟩ = some (.float .f32 r.DX) := I0.ry.cell 3
  have p_4 : W0.cell? ⟨w.heap.size + 1, 4, none⟩ = some (.float .f32 r.DY) := I0.ry.cell 4
  have p_5 : W0.cell? ⟨w.heap.size + 1, 5, none⟩ = some (.float .f32 r.DH) := I0.ry.cell 5
  have p_6 : W0.cell? ⟨w.heap.size + 1, 6, none⟩ = some (.float .f32 r.Mo) := I0.ry.cell 6
  have HI0 := Lib.hid I0
  clear I0
  go_wp2_with fail
  refine (K1.out _ (HL.out.below HI0.out.below)).mono ?_
  rintro e w1 ⟨rfl, b1⟩
  have I1 := HI0.out.call b1
  clear p_0 p_1 p_2 p_3 p_4 p_5 p_6
  clear d0 d1 d2 d3 d4 l0 lr HI0 b1 K1
  have s0 : w1.cell? ⟨kR, 0, none⟩ = some (.int .i64 0) := I1.kr.cell 0
  have s1 : w1.cell? ⟨kR, 1, none⟩ = some (.int .i64 0) := I1.kr.cell 1
  have s2 : w1.cell? ⟨kR, 2, none⟩ = some (.float .f32 0) := I1.kr.cell 2
  have f0 := I1.kr.frozen 0
  have f1 := I1.kr.frozen 1
  have f2 := I1.kr.frozen 2
  have lk := I1.kr.lt
  have HI1 := Lib.hid I1
  clear I1
  go_wp2_with fail
  have hI := HI1.out
  have KZ : Blk (((w1.setCell ⟨kR, 0, none⟩ (.int .i64 0)).setCell ⟨kR, 1, none⟩ (.int .i64 0)).setCell ⟨kR, 2, none⟩ (.float .f32 0)) kR #[.int .i64 0, .int .i64 0, .float .f32 0] 38 := heap_setCell_same _ kR 2 _ _ _ (heap_setCell_same _ kR 1 _ _ _ (heap_setCell_same _ kR 0 _ _ _ hI.kr))
  have gr := hI.gr
  have hB : Below w.heap.size w (((w1.setCell ⟨kR, 0, none⟩ (.int .i64 0)).setCell ⟨kR, 1, none⟩ (.int .i64 0)).setCell ⟨kR, 2, none⟩ (.float .f32 0)) := (((hI.below.setCell (p := ⟨kR, 0, none⟩) gr _).setCell (p := ⟨kR, 1, none⟩) gr _).setCell (p := ⟨kR, 2, none⟩) gr _)
  clear s0 s1 s2 f0 f1 f2 lk hI HI1
  generalize (((w1.setCell ⟨kR, 0, none⟩ (.int .i64 0)).setCell ⟨kR, 1, none⟩ (.int .i64 0)).setCell ⟨kR, 2, none⟩ (.float .f32 0)) = WZ at *
  have z0 : WZ.cell? ⟨kR, 0, none⟩ = some (.int .i64 0) := KZ.cell 0
  have z1 : WZ.cell? ⟨kR, 1, none⟩ = some (.int .i64 0) := KZ.cell 1
  have z2 : WZ.cell? ⟨kR, 2, none⟩ = some (.float .f32 0) := KZ.cell 2
  have lz := KZ.lt
  exact bodyPost_ret (v := .tuple #[.agg #[.int .i64 0, .int .i64 0, .float .f32 0], .bool false, .int .i64 er]) (by simp [results, Try.results6, go_sem, *]) rfl ⟨rfl, hB⟩
end Go.Proofs.Ytiiogjjjgoeghaa

namespace Go.Proofs.Ytiiogjjjgoeghaa
open Go.ChangeShapes Go.WideShapes Go.ChangeAt Go.RowKit
open Ieee.Format (fin finE htE allFin allHt all_true all_false mulF subF addF Ht Bd divF rootF floorF easeF mixF)
set_option linter.unusedVariables false
set_option linter.unusedSimpArgs false
open Ieee.Format (num fin_num lvN)

theorem run_equalIn_float (w : World) (d : Nat) (t : TypeId) (k k' : FloatKind) (a b : Nat) (h : Try.prog.underlying t = some (.float k')) : (Op.equalIn (d + 1) t (.float k a) (.float k b)).run Try.prog w = .ok (k.format.order a b == some .eq) w := by
  simp [Op.equalIn, run_underlying h]
  rfl
theorem eqBx (v x y : Int) (lo hi : Nat) (h1 : (FloatKind.f32.format.order lo lo == some .eq) = true) (h2 : (FloatKind.f32.format.order hi hi == some .eq) = true) (w : World) :
    (Op.equalIn 10000 53 (.agg #[.int .i64 v, .int .i64 x, .int .i64 y, .float .f32 lo, .float .f32 hi]) (.agg #[.int .i64 v, .int .i64 x, .int .i64 y, .float .f32 lo, .float .f32 hi])).run Try.prog w = .ok true w := by
  have u3 := Try.underlying3
  have a3 := Try.isAgg3
  have z3 := Try.sizeOf3
  have u4 := Try.underlying27
  have a4 := Try.isAgg27
  have z4 := Try.sizeOf27
  have hS : Try.prog.underlying 53 = some (.struct (Try.prog.fieldsOf 53)) := by kernel_rfl
  have hp : Try.prog.stoodInHeld 53 = false := by kernel_rfl
  rw [show (10000 : Nat) = 9999 + 1 from rfl, run_equalIn_agg w 9999 53 _ _ hS hp]
  have e1 := fun w => run_equalIn_float w 9998 27 .f32 .f32 lo lo u4
  have e2 := fun w => run_equalIn_float w 9998 27 .f32 .f32 hi hi u4
  rw [h1] at e1
  rw [h2] at e2
  simp only [Program.fieldsOf, Try.underlying53]
  go_simp
theorem guardBx : Try.prog.eqGuardType Try.prog.depth 53 = false := by kernel_rfl
theorem eqlBx (v x y : Int) (lo hi : Nat) (h1 : (FloatKind.f32.format.order lo lo == some .eq) = true) (h2 : (FloatKind.f32.format.order hi hi == some .eq) = true) (w : World) :
    (binOp .neq 53 (.agg #[.int .i64 v, .int .i64 x, .int .i64 y, .float .f32 lo, .float .f32 hi]) (.agg #[.int .i64 v, .int .i64 x, .int .i64 y, .float .f32 lo, .float .f32 hi])).run Try.prog w = .ok (.bool false) w := by
  rw [run_neq_struct, eqBx v x y lo hi h1 h2]; rfl
/-- each box of a list is what some box holds, with no NaN -/
def Bxs (L : List Value) (N : Nat) : Prop := ∀ k, k < N → ∃ (v x y lo hi : Nat), num lo ∧ num hi ∧ L[k * 5]? = some (.int .i64 (v : Int)) ∧ L[k * 5 + 1]? = some (.int .i64 (x : Int)) ∧ L[k * 5 + 2]? = some (.int .i64 (y : Int)) ∧ L[k * 5 + 3]? = some (.float .f32 lo) ∧ L[k * 5 + 4]? = some (.float .f32 hi)
set_option maxRecDepth 100000 in
set_option maxHeartbeats 4000000 in
theorem boxes_equal (g g' N k k' : Nat) (L : List Value) (w : World) (h : Rw w g L) (h' : Rw w g' L) (hB : Bxs L N) (hN : N ≤ 1048576) :
    Calls Try.prog 13 #[.slice (some ⟨g, 0, none⟩) N k, .slice (some ⟨g', 0, none⟩) N k'] w fun e w' => e = .returned (.bool true) ∧ Below w.heap.size w w' := by
  have H1 := Lib.hid h
  have H2 := Lib.hid h'
  have HX := Lib.hid hB
  have hg := h.1
  have hg' := h'.1
  clear h h' hB
  go_enter Try.func13, Try.ntmps13
  go_wp2
  go_loopw [5, 13, 25] (fun _ i _ wr => ∃ j : Nat, j ≤ N ∧ i = .int .i64 j ∧ Below w.heap.size w wr) (fun _ i _ _ => N - (intOf i).toNat)
  case atStart => exact ⟨0, by omega, rfl, by have h := Below.refl w.heap.size w; exact (by have hszz := h.size; repeat (first | with_reducible exact h | with_reducible apply Below.drew | with_reducible refine below_drewN ?_ _ | (with_reducible refine Below.setCell ?_ ?_ _; rotate_left; focus (first | omega | (simp <;> omega))) | (with_reducible refine Below.alloc ?_ ?_ _; rotate_left; focus (first | omega | (simp <;> omega)))))⟩
  case round =>
    obtain ⟨j, hj, rfl, hb⟩ := hrel
    have HB := Lib.hid hb
    by_cases hlt : j < N
    · obtain ⟨v, x, y, lo, hi, nlo, nhi, q0, q1, q2, q3, q4⟩ := HX.out j hlt
      have c0 := (hb.cell (p := ⟨g, j * 5, none⟩) hg).trans (H1.out.2 _ _ q0)
      have c1 := (hb.cell (p := ⟨g, j * 5 + 1, none⟩) hg).trans (H1.out.2 _ _ q1)
      have c2 := (hb.cell (p := ⟨g, j * 5 + 2, none⟩) hg).trans (H1.out.2 _ _ q2)
      have c3 := (hb.cell (p := ⟨g, j * 5 + 3, none⟩) hg).trans (H1.out.2 _ _ q3)
      have c4 := (hb.cell (p := ⟨g, j * 5 + 4, none⟩) hg).trans (H1.out.2 _ _ q4)
      have d0 := (hb.cell (p := ⟨g', j * 5, none⟩) hg').trans (H2.out.2 _ _ q0)
      have d1 := (hb.cell (p := ⟨g', j * 5 + 1, none⟩) hg').trans (H2.out.2 _ _ q1)
      have d2 := (hb.cell (p := ⟨g', j * 5 + 2, none⟩) hg').trans (H2.out.2 _ _ q2)
      have d3 := (hb.cell (p := ⟨g', j * 5 + 3, none⟩) hg').trans (H2.out.2 _ _ q3)
      have d4 := (hb.cell (p := ⟨g', j * 5 + 4, none⟩) hg').trans (H2.out.2 _ _ q4)
      have o1 : (FloatKind.f32.format.order lo lo == some .eq) = true := (oE nlo nlo).trans (decide_eq_true rfl)
      have o2 : (FloatKind.f32.format.order hi hi == some .eq) = true := (oE nhi nhi).trans (decide_eq_true rfl)
      have o3 : FloatKind.f32.format.order lo lo = some .eq := by simpa using o1
      have o4 : FloatKind.f32.format.order hi hi = some .eq := by simpa using o2
      clear hb q0 q1 q2 q3 q4 nlo nhi o3 o4
      have kn := fun w => eqlBx v x y lo hi o1 o2 w
      go_wp2_with fail
      go_quiet (fail)
      go_wp2
      go_roundw
      case rel => exact ⟨j + 1, by omega, by go_num, by have h := HB.out; exact (by have hszz := h.size; repeat (first | with_reducible exact h | with_reducible apply Below.drew | with_reducible refine below_drewN ?_ _ | (with_reducible refine Below.setCell ?_ ?_ _; rotate_left; focus (first | omega | (simp <;> omega))) | (with_reducible refine Below.alloc ?_ ?_ _; rotate_left; focus (first | omega | (simp <;> omega)))))⟩
      case measure => simp [intOf]; omega
    · clear hb
      go_wp2
      go_ret
      exact ⟨rfl, by have h := HB.out; exact (by have hszz := h.size; repeat (first | with_reducible exact h | with_reducible apply Below.drew | with_reducible refine below_drewN ?_ _ | (with_reducible refine Below.setCell ?_ ?_ _; rotate_left; focus (first | omega | (simp <;> omega))) | (with_reducible refine Below.alloc ?_ ?_ _; rotate_left; focus (first | omega | (simp <;> omega)))))⟩
end Go.Proofs.Ytiiogjjjgoeghaa

namespace Go.Proofs.Ytiiogjjjgoeghaa
open Go.ChangeShapes Go.WideShapes Go.ChangeAt Go.RowKit
open Ieee.Format (fin finE htE allFin allHt all_true all_false mulF subF addF Ht Bd divF rootF floorF easeF mixF)
set_option linter.unusedVariables false
set_option linter.unusedSimpArgs false
open Ieee.Format (num fin_num Ry Bx stF upB Mn crB crI crO cr_tm cr_num hgF hg_bd miss_none lvN ed ed_prog ed_two ed_last ed_mono ed_le Rc Tm)

/-! ### the least of two singles -/
def minF (x y : Nat) : Nat := match Ieee.single.order x y with
  | some .lt => x
  | some .gt => y
  | _ => if (FloatKind.f32.decode x).neg then x else y
theorem run_min_singles (w : World) (ts : Array TypeId) (t : TypeId) {x y : Nat} (fx : fin Ieee.single x) (fy : fin Ieee.single y) :
    (Builtin.min_ ts t #[.float .f32 x, .float .f32 y]).run Try.prog w = .ok (.float .f32 (minF x y)) w := by
  have h := Ieee.single.order_fin fx fy
  have e : FloatKind.f32.format.order x y = Ieee.single.order x y := rfl
  have hm : ∀ o, Ieee.single.order x y = some o → (Builtin.min2 (.float .f32 x) (.float .f32 y)).run Try.prog w = .ok (.float .f32 (minF x y)) w := by
    intro o ho
    unfold minF
    rw [ho]
    unfold Builtin.min2
    simp only [e, ho]
    cases o <;> rfl
  have h2 : (Builtin.min_ ts t #[.float .f32 x, .float .f32 y]) = ((Builtin.min2 (.float .f32 x) (.float .f32 y)) >>= fun s => pure s) := rfl
  rw [h2, Sem.run_bind, hm _ h]
  rfl
theorem minF_spec {x y : Nat} (fx : fin Ieee.single x) (fy : fin Ieee.single y) : (minF x y = x ∨ minF x y = y) ∧ Ieee.single.V (minF x y) ≤ Ieee.single.V x ∧ Ieee.single.V (minF x y) ≤ Ieee.single.V y := by
  unfold minF
  rw [Ieee.single.order_fin fx fy]
  by_cases h1 : Ieee.single.V x < Ieee.single.V y
  · rw [if_pos h1]; exact ⟨.inl rfl, by simp only; grind, by simp only; grind⟩
  · rw [if_neg h1]
    by_cases h2 : Ieee.single.V x = Ieee.single.V y
    · rw [if_pos h2]
      simp only
      split
      · exact ⟨.inl rfl, Rat.le_refl, by grind⟩
      · exact ⟨.inr rfl, by grind, Rat.le_refl⟩
    · rw [if_neg h2]; exact ⟨.inr rfl, by simp only; grind, by simp only; grind⟩

/-! ### what a box that is missed may hide -/
theorem bx_mem {l : List Nat} {Wn Hn L x y k : Nat} (hk : Rc Wn (x * 2 ^ L) (x * 2 ^ L + min (2 ^ L) (Wn - x * 2 ^ L)) (y * 2 ^ L) (y * 2 ^ L + min (2 ^ L) (Hn - y * 2 ^ L)) k) : l.getD k 0 ∈ bxC l Wn Hn L x y := by
  unfold bxC
  generalize x * 2 ^ L = sx at *
  generalize y * 2 ^ L = sy at *
  generalize min (2 ^ L) (Wn - sx) = A at *
  generalize min (2 ^ L) (Hn - sy) = A2 at *
  obtain ⟨i, j, rfl, hi, hj⟩ := hk
  obtain ⟨i', rfl⟩ : ∃ i', i = sx + i' := ⟨i - sx, by omega⟩
  obtain ⟨j', rfl⟩ : ∃ j', j = sy + j' := ⟨j - sy, by omega⟩
  unfold cutL madeL
  refine List.mem_map.2 ⟨j' * A + i', ?_, ?_⟩
  · rw [List.mem_range]
    have := Nat.mul_le_mul_right A (show j' + 1 ≤ A2 by omega)
    rw [Nat.add_mul, Nat.one_mul] at this
    omega
  · have h1 : (j' * A + i') % A = i' := by rw [Nat.mul_comm, Nat.mul_add_mod, Nat.mod_eq_of_lt (by omega)]
    have h2 : (j' * A + i') / A = j' := by rw [Nat.mul_comm, Nat.mul_add_div (by omega), Nat.div_eq_of_lt (by omega)]; rfl
    rw [h1, h2]
    unfold cutV cellNo
    have e : (((sy : Int) + (j' : Int) - 0) * (Wn : Int) + ((sx : Int) + (i' : Int)) - 0).toNat = (sy + j') * Wn + (sx + i') := by
      have e1 : ((sy : Int) + (j' : Int) - 0) * (Wn : Int) + ((sx : Int) + (i' : Int)) - 0 = (((sy + j') * Wn + (sx + i') : Nat) : Int) := by
        rw [Int.natCast_add, Int.natCast_mul, Int.natCast_add, Int.natCast_add, Int.sub_zero, Int.sub_zero]
      rw [e1, Int.toNat_natCast]
    rw [e]
/-- the region of a box -/
def bxR (X Y : Int) (sx sy A A2 : Nat) : Bx := ⟨(sx : Int) + X, (sy : Int) + Y, (sx : Int) + X + A, (sy : Int) + Y + A2⟩
theorem bxR_ok {X Y : Int} {Wn Hn : Nat} {l : List Nat} (h : Right X Y Wn Hn l) {sx sy A A2 : Nat} (h1 : sx + A ≤ Wn) (h2 : sy + A2 ≤ Hn) : (bxR X Y sx sy A A2).ok := by
  have x1 := h.x1; have x2 := h.x2; have y1 := h.y1; have y2 := h.y2; have w2 := h.w2; have hh2 := h.h2
  unfold bxR
  constructor <;> dsimp only <;> omega
theorem bxV_bxR (X Y : Int) (sx sy A A2 : Nat) : bxV (bxR X Y sx sy A A2) = reg ((sx : Int) + X) ((sy : Int) + Y) (A : Int) (A2 : Int) := by
  unfold bxV bxR
  dsimp only
  rw [show (sx : Int) + X + (A : Int) - ((sx : Int) + X) = (A : Int) by omega, show (sy : Int) + Y + (A2 : Int) - ((sy : Int) + Y) = (A2 : Int) by omega]
theorem rc_lt {Wn Hn a b c d k : Nat} (h : Rc Wn a b c d k) (hb : b ≤ Wn) (hd : d ≤ Hn) : k < Hn * Wn ∧ (a ≤ k % Wn ∧ k % Wn < b) ∧ (c ≤ k / Wn ∧ k / Wn < d) := by
  obtain ⟨i, j, rfl, hi, hj⟩ := h
  have h1 : (j * Wn + i) % Wn = i := by rw [Nat.mul_comm, Nat.mul_add_mod, Nat.mod_eq_of_lt (by omega)]
  have h2 : (j * Wn + i) / Wn = j := by rw [Nat.mul_comm, Nat.mul_add_div (by omega), Nat.div_eq_of_lt (by omega)]; rfl
  have := Nat.mul_le_mul_right Wn (show j + 1 ≤ Hn by omega)
  rw [Nat.add_mul, Nat.one_mul] at this
  rw [h1, h2]
  exact ⟨by omega, hi, hj⟩
/-- a cell of a box is struck only when the box is -/
theorem box_miss {r : Ry} (hr : r.ok) {X Y : Int} {Wn Hn : Nat} {l : List Nat} (h : Right X Y Wn Hn l) {sx sy A A2 k t : Nat} (h1 : sx + A ≤ Wn) (h2 : sy + A2 ≤ Hn)
    (hk : Rc Wn sx (sx + A) sy (sy + A2) k) {hi : Nat} (hv : Ieee.single.V (l.getD k 0) ≤ Ieee.single.V hi) (hs : stO r X Y Wn l k = some t) :
    crB r (bxR X Y sx sy A A2) ∧ Ieee.single.V (crI r (bxR X Y sx sy A A2)) ≤ Ieee.single.V t ∧ (Ieee.single.V (hgF r (crI r (bxR X Y sx sy A A2))) ≤ Ieee.single.V hi ∨ Ieee.single.V (hgF r (crO r (bxR X Y sx sy A A2))) ≤ Ieee.single.V hi) := by
  obtain ⟨hkl, hx, hy⟩ := rc_lt hk h1 h2
  obtain ⟨m1, m2, m3⟩ := miss_none hr (clB_ok h.w2 h.h2 h.x1 h.x2 h.y1 h.y2 (by omega) (by omega)) (bxR_ok h h1 h2) (by
    unfold Bx.sub clB bxR
    dsimp only
    omega) hs
  exact ⟨m1, m2, m3.imp (fun q => by grind) (fun q => by grind)⟩
/-- which boxes are passed over -/
def bad (r : Ry) (d : Bx) (hi : Nat) (S : Option (Nat × Nat)) : Prop :=
  ¬ crB r d ∨ Ieee.single.V hi < Ieee.single.V (minF (hgF r (crI r d)) (hgF r (crO r d))) ∨ ∃ k0 t0, S = some (k0, t0) ∧ Ieee.single.V t0 < Ieee.single.V (crI r d)
theorem bad_skip {r : Ry} (hr : r.ok) {X Y : Int} {Wn Hn : Nat} {l : List Nat} (h : Right X Y Wn Hn l) {L x y : Nat} (hx : x * 2 ^ L < Wn) (hy : y * 2 ^ L < Hn) {P : Nat → Prop} {S : Option (Nat × Nat)} (hm : Mn (stO r X Y Wn l) P S)
    (hb : bad r (bxR X Y (x * 2 ^ L) (y * 2 ^ L) (min (2 ^ L) (Wn - x * 2 ^ L)) (min (2 ^ L) (Hn - y * 2 ^ L))) (hiP (bxC l Wn Hn L x y)) S) :
    Mn (stO r X Y Wn l) (fun k => P k ∨ Rc Wn (x * 2 ^ L) (x * 2 ^ L + min (2 ^ L) (Wn - x * 2 ^ L)) (y * 2 ^ L) (y * 2 ^ L + min (2 ^ L) (Hn - y * 2 ^ L)) k) S := by
  refine hm.skip fun k t hk ht => ?_
  have hv := hiP_ge (bx_mem (l := l) hk)
  have h1 : x * 2 ^ L + min (2 ^ L) (Wn - x * 2 ^ L) ≤ Wn := by omega
  have h2 : y * 2 ^ L + min (2 ^ L) (Hn - y * 2 ^ L) ≤ Hn := by omega
  obtain ⟨m1, m2, m3⟩ := box_miss hr h h1 h2 hk hv ht
  rcases hb with hb | hb | ⟨k0, t0, rfl, hb⟩
  · exact absurd m1 hb
  · obtain ⟨t1, t2⟩ := cr_tm hr (bxR_ok h h1 h2) m1
    obtain ⟨_, s1, s2⟩ := minF_spec (hg_bd hr t1).2.1 (hg_bd hr t2).2.1
    rcases m3 with m3 | m3 <;> grind
  · exact ⟨k0, t0, rfl, by grind⟩
end Go.Proofs.Ytiiogjjjgoeghaa

namespace Go.Proofs.Ytiiogjjjgoeghaa
open Go.ChangeShapes Go.WideShapes Go.ChangeAt Go.RowKit
open Ieee.Format (fin finE htE allFin allHt all_true all_false mulF subF addF Ht Bd divF rootF floorF easeF mixF)
set_option linter.unusedVariables false
set_option linter.unusedSimpArgs false
open Ieee.Format (num fin_num Ry Bx stF upB Mn crB crI crO cr_tm cr_num hgF hg_bd lvN lvN_lt ed ed_prog ed_two ed_last ed_mono ed_le Rc Tm)

/-- where each level begins -/
def stL (Wn Hn n : Nat) : List Value := (List.range n).map fun i => .int .i64 (offB Wn Hn i : Int)
theorem stL_get {Wn Hn n i : Nat} (h : i < n) : (stL Wn Hn n)[i]? = some (.int .i64 (offB Wn Hn i : Int)) := by
  unfold stL
  rw [List.getElem?_map, List.getElem?_range h]; rfl
theorem Rw.but {w w' : World} {B g : Nat} {q : Nat → Prop} {L : List Value} (h : Rw w g L) (hb : But B q w w') (hg : g < B) (hq : ¬ q g) : Rw w' g L :=
  ⟨Nat.lt_of_lt_of_le h.1 hb.size, fun i u hi => (hb.cell (p := ⟨g, i, none⟩) hg hq).trans (h.2 i u hi)⟩
/-- what a look reads -/
structure LkW (W : World) (q b o g gst gS : Nat) (l : List Nat) (Wn Hn K : Nat) : Prop where
  row : SRow W (some ⟨b, o, none⟩) l
  bx : Rw W g (alB l Wn Hn (K + 1))
  st : Rw W gst (stL Wn Hn (K + 1))
  sz : Rw W gS (szs Wn Hn (K + 1))
  bl : b < W.heap.size
  nb : b ≠ q
  ng : g ≠ q
  nt : gst ≠ q
  ns : gS ≠ q
theorem SRow.but {w w' : World} {B b o : Nat} {q : Nat → Prop} {l : List Nat} (h : SRow w (some ⟨b, o, none⟩) l) (hb : But B q w w') (hg : b < B) (hq : ¬ q b) : SRow w' (some ⟨b, o, none⟩) l := by
  refine ⟨h.1, ?_⟩
  rcases h.2 with h2 | ⟨g', o', e, h2⟩
  · exact .inl h2
  · refine .inr ⟨g', o', e, fun i hi => ?_⟩
    obtain ⟨rfl, rfl⟩ : b = g' ∧ o = o' := by simpa using e
    exact (hb.cell (p := ⟨b, o + i, none⟩) hg hq).trans (h2 i hi)
theorem LkW.but {W W' : World} {q b o g gst gS : Nat} {l : List Nat} {Wn Hn K : Nat} (h : LkW W q b o g gst gS l Wn Hn K) (hb : But W.heap.size (fun k => k = q) W W') : LkW W' q b o g gst gS l Wn Hn K :=
  ⟨h.row.but hb h.bl h.nb, h.bx.but hb h.bx.1 h.ng, h.st.but hb h.st.1 h.nt, h.sz.but hb h.sz.1 h.ns, Nat.lt_of_lt_of_le h.bl hb.size, h.nb, h.ng, h.nt, h.ns⟩
theorem LkW.call {W W' : World} {q b o g gst gS : Nat} {l : List Nat} {Wn Hn K : Nat} (h : LkW W q b o g gst gS l Wn Hn K) (hb : Below W.heap.size W W') : LkW W' q b o g gst gS l Wn Hn K := h.but (But.of hb)
/-- the cells of a box -/
def Rb (Wn Hn L x y k : Nat) : Prop := Rc Wn (ed Wn L x) (ed Wn L (x + 1)) (ed Hn L y) (ed Hn L (y + 1)) k
def nB (Wn Hn L x y : Nat) : Nat := (ed Wn L (x + 1) - ed Wn L x) * (ed Hn L (y + 1) - ed Hn L y)
def LkP (q : Nat) (X Y : Int) (Wn Hn L x y : Nat) (fv : Value) (r : Ry) (l : List Nat) (P : Nat → Prop) (n : Nat) (w : World) (e : Ending) (w' : World) : Prop :=
  e = .returned (.tuple #[]) ∧ ∃ S' n', Sh w' q X Y Wn Hn fv r S' n' ∧ Mn (stO r X Y Wn l) (fun k => P k ∨ Rb Wn Hn L x y k) S' ∧ n' ≤ n + nB Wn Hn L x y ∧ But w.heap.size (fun k => k = q) w w'
theorem zreg {w : World} {k : Nat} (h : Reg w k 0 0 0 0) : w.cell? ⟨k, 0, none⟩ = some (.int .i64 0) ∧ w.cell? ⟨k, 1, none⟩ = some (.int .i64 0) ∧ w.cell? ⟨k, 2, none⟩ = some (.int .i64 0) ∧ w.cell? ⟨k, 3, none⟩ = some (.int .i64 0) ∧
    w.frozen? ⟨k, 0, none⟩ = false ∧ w.frozen? ⟨k, 1, none⟩ = false ∧ w.frozen? ⟨k, 2, none⟩ = false ∧ w.frozen? ⟨k, 3, none⟩ = false ∧ k < w.heap.size :=
  ⟨h.cells.1, h.cells.2.1, h.cells.2.2.1, h.cells.2.2.2, frozen_of_row w k 0 _ _ h, frozen_of_row w k 1 _ _ h, frozen_of_row w k 2 _ _ h, frozen_of_row w k 3 _ _ h, h.lt⟩
theorem reg_stored4 {w : World} {k : Nat} {a b c d A B C D : Int} (h : Reg w k a b c d) : Reg ((((w.setCell ⟨k, 0, none⟩ (.int .i64 A)).setCell ⟨k, 1, none⟩ (.int .i64 B)).setCell ⟨k, 2, none⟩ (.int .i64 C)).setCell ⟨k, 3, none⟩ (.int .i64 D)) k A B C D :=
  heap_setCell_same _ k 3 _ _ _ (heap_setCell_same _ k 2 _ _ _ (heap_setCell_same _ k 1 _ _ _ (heap_setCell_same _ k 0 _ _ _ h)))
theorem lk_first {W1 w5 : World} {o : Obj} (hb : Below ((W1.alloc o).drew).heap.size (W1.alloc o).drew w5) (A B C D : Value) : Below W1.heap.size W1 ((((w5.setCell ⟨W1.heap.size, 0, none⟩ A).setCell ⟨W1.heap.size, 1, none⟩ B).setCell ⟨W1.heap.size, 2, none⟩ C).setCell ⟨W1.heap.size, 3, none⟩ D) := by
  have h0 : Below W1.heap.size W1 (W1.alloc o).drew := ((Below.refl _ _).alloc (Nat.le_refl _) _).drew
  have h1 := h0.trans (hb.mono h0.size)
  exact (((h1.setCell (p := ⟨W1.heap.size, 0, none⟩) (Nat.le_refl _) A).setCell (p := ⟨W1.heap.size, 1, none⟩) (Nat.le_refl _) B).setCell (p := ⟨W1.heap.size, 2, none⟩) (Nat.le_refl _) C).setCell (p := ⟨W1.heap.size, 3, none⟩) (Nat.le_refl _) D
theorem lk_late {W1 w5 : World} (hb : Below W1.drew.heap.size W1.drew w5) (o : Obj) : W1.heap.size ≤ w5.heap.size ∧ Below W1.heap.size W1 (w5.alloc o) := by
  have h1 : Below W1.heap.size W1 w5 := ((Below.refl W1.heap.size W1).drew).trans hb
  exact ⟨h1.size, h1.alloc h1.size _⟩

/-! ### the parts of a box -/
theorem cnt_right {a b b2 c d : Nat} (h1 : a ≤ b) (h2 : b ≤ b2) : (b2 - a) * (d - c) = (b - a) * (d - c) + (b2 - b) * (d - c) := by
  rw [← Nat.add_mul, show b2 - a = b - a + (b2 - b) by omega]
theorem cnt_under {a b c d d2 : Nat} (h1 : c ≤ d) (h2 : d ≤ d2) : (b - a) * (d2 - c) = (b - a) * (d - c) + (b - a) * (d2 - d) := by
  rw [← Nat.mul_add, show d2 - c = d - c + (d2 - d) by omega]
/-- the cells that were looked at when the walk through a box's parts has come to a place -/
def Pj (P : Nat → Prop) (Wn a b c d : Nat) (k : Nat) : Prop := P k ∨ Rc Wn a b c d k
structure LkI (w wr : World) (q b o g gst gS : Nat) (l : List Nat) (Wn Hn K : Nat) (X Y : Int) (fv : Value) (r : Ry) (k9 nW nH : Nat) (P : Nat → Prop) (m : Nat) (S : Option (Nat × Nat)) (n : Nat) : Prop where
  lk : LkW wr q b o g gst gS l Wn Hn K
  sh : Sh wr q X Y Wn Hn fv r S n
  mn : Mn (stO r X Y Wn l) P S
  le : n ≤ m
  but : But w.heap.size (fun k => k = q) w wr
  pr : Pr wr k9 nW nH
theorem LkI.next {w wr w2 : World} {q b o g gst gS : Nat} {l : List Nat} {Wn Hn K L x y : Nat} {X Y : Int} {fv : Value} {r : Ry} {k9 nW nH : Nat} {P : Nat → Prop} {m : Nat} {S : Option (Nat × Nat)} {n : Nat} {e : Ending}
    (h : LkI w wr q b o g gst gS l Wn Hn K X Y fv r k9 nW nH P m S n) (hk : LkP q X Y Wn Hn L x y fv r l P n wr e w2) :
    ∃ S' n', LkI w w2 q b o g gst gS l Wn Hn K X Y fv r k9 nW nH (fun k => P k ∨ Rb Wn Hn L x y k) (m + nB Wn Hn L x y) S' n' := by
  obtain ⟨_, S', n', h1, h2, h3, h4⟩ := hk
  have hne : k9 ≠ q := blk_ne h.pr h.sh (by decide)
  have := h.le
  exact ⟨S', n', h.lk.but h4, h1, h2, by omega, h.but.trans (h4.mono h.but.size), Blk.but h.pr h4 h.pr.lt hne⟩
theorem LkI.as {w wr : World} {q b o g gst gS : Nat} {l : List Nat} {Wn Hn K : Nat} {X Y : Int} {fv : Value} {r : Ry} {k9 nW nH : Nat} {P P' : Nat → Prop} {m m' : Nat} {S : Option (Nat × Nat)} {n : Nat}
    (h : LkI w wr q b o g gst gS l Wn Hn K X Y fv r k9 nW nH P m S n) (hP : ∀ k, P k ↔ P' k) (hm : m = m') : LkI w wr q b o g gst gS l Wn Hn K X Y fv r k9 nW nH P' m' S n := by
  subst hm
  exact ⟨h.lk, h.sh, h.mn.iff hP, h.le, h.but, h.pr⟩
/-- the box's corners, and the parts' -/
structure Cor (Wn Hn L x y : Nat) : Prop where
  w1 : 1 ≤ Wn
  h1 : 1 ≤ Hn
theorem inner_next {P : Nat → Prop} {Wn Hn L' a b c i j : Nat} (ha : a ≤ ed Wn L' i) (k : Nat) :
    ((Pj P Wn a b c (ed Hn L' j) k ∨ Rc Wn a (ed Wn L' i) (ed Hn L' j) (ed Hn L' (j + 1)) k) ∨ Rb Wn Hn L' i j k) ↔ (Pj P Wn a b c (ed Hn L' j) k ∨ Rc Wn a (ed Wn L' (i + 1)) (ed Hn L' j) (ed Hn L' (j + 1)) k) := by
  rw [Rc.right (b := ed Wn L' i) ha (ed_mono (Nat.le_add_right i 1))]
  unfold Rb
  exact or_assoc
theorem inner_cnt {Wn Hn L' a i j m : Nat} (ha : a ≤ ed Wn L' i) :
    m + (ed Wn L' i - a) * (ed Hn L' (j + 1) - ed Hn L' j) + nB Wn Hn L' i j = m + (ed Wn L' (i + 1) - a) * (ed Hn L' (j + 1) - ed Hn L' j) := by
  rw [cnt_right (b := ed Wn L' i) ha (ed_mono (Nat.le_add_right i 1))]
  unfold nB
  omega
theorem outer_next {P : Nat → Prop} {Wn Hn L' a b c j : Nat} (hc : c ≤ ed Hn L' j) (k : Nat) :
    (Pj P Wn a b c (ed Hn L' j) k ∨ Rc Wn a b (ed Hn L' j) (ed Hn L' (j + 1)) k) ↔ Pj P Wn a b c (ed Hn L' (j + 1)) k := by
  unfold Pj
  rw [Rc.under (d := ed Hn L' j) hc (ed_mono (Nat.le_add_right j 1))]
  exact or_assoc
theorem outer_cnt {n Hn L' a b c j : Nat} (hc : c ≤ ed Hn L' j) :
    n + (b - a) * (ed Hn L' j - c) + (b - a) * (ed Hn L' (j + 1) - ed Hn L' j) = n + (b - a) * (ed Hn L' (j + 1) - c) := by
  rw [cnt_under (d := ed Hn L' j) hc (ed_mono (Nat.le_add_right j 1))]
  omega
/-- the count never passes the box's -/
theorem cnt_fit {Wn Hn L' a b c d i j n M : Nat} (ha : a ≤ ed Wn L' i) (hb : ed Wn L' (i + 1) ≤ b) (hc : c ≤ ed Hn L' j) (hd : ed Hn L' (j + 1) ≤ d) (h : n + (b - a) * (d - c) ≤ M) :
    n + (b - a) * (ed Hn L' j - c) + (ed Wn L' i - a) * (ed Hn L' (j + 1) - ed Hn L' j) + nB Wn Hn L' i j ≤ M := by
  rw [inner_cnt ha]
  have h1 : (ed Wn L' (i + 1) - a) * (ed Hn L' (j + 1) - ed Hn L' j) ≤ (b - a) * (ed Hn L' (j + 1) - ed Hn L' j) := Nat.mul_le_mul_right _ (by omega)
  have h2 := outer_cnt (n := n) (a := a) (b := b) hc
  have h3 : (b - a) * (ed Hn L' (j + 1) - c) ≤ (b - a) * (d - c) := Nat.mul_le_mul_left _ (by omega)
  omega
end Go.Proofs.Ytiiogjjjgoeghaa
