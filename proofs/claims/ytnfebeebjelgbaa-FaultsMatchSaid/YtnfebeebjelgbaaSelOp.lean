import Derived.Test.YtnfebeebjelgbaaSelClos
import Derived.Test.YtnfebeebjelgbaaRefShadeOp
import Derived.Deep.RegionHeld3
namespace Go.Proofs.Ytnfebeebjelgbaa
open Go.ChangeShapes Go.WideShapes Go.ChangeAt Go.RowKit
open Ieee.Format (fin finE htE allFin allHt all_true all_false mulF subF addF Ht Bd divF rootF floorF easeF mixF)
set_option linter.unusedVariables false

theorem row_three_at (W : World) (g x y z : Nat) (hx : x < 4294967296) (hy : y < 4294967296) (hz : z < 4294967296) (h0 : W.cell? ⟨g, 0, none⟩ = some (.float .f32 x)) (h1 : W.cell? ⟨g, 1, none⟩ = some (.float .f32 y)) (h2 : W.cell? ⟨g, 2, none⟩ = some (.float .f32 z)) : SRow W (some ⟨g, 0, none⟩) [x, y, z] := by
  refine ⟨⟨by simp, by simp; exact ⟨hx, hy, hz⟩⟩, .inr ⟨g, 0, rfl, ?_⟩⟩
  intro i hi
  match i, hi with
  | 0, _ => exact h0
  | 1, _ => exact h1
  | 2, _ => exact h2
theorem heights_three (W : World) (g x y z : Nat) (hx : x < 4294967296) (hy : y < 4294967296) (hz : z < 4294967296) (h0 : W.cell? ⟨g, 0, none⟩ = some (.float .f32 x)) (h1 : W.cell? ⟨g, 1, none⟩ = some (.float .f32 y)) (h2 : W.cell? ⟨g, 2, none⟩ = some (.float .f32 z)) :
    Calls Try.prog 93 #[.slice (some ⟨g, 0, none⟩) 3 3] W fun e w' => e = .returned (.int .i64 (htE [x, y, z])) ∧ W = w' := heights_any (some ⟨g, 0, none⟩) 3 [x, y, z] W (row_three_at W g x y z hx hy hz h0 h1 h2)
theorem refheight_three (W : World) (g x y z : Nat) (hx : x < 4294967296) (hy : y < 4294967296) (hz : z < 4294967296) (h0 : W.cell? ⟨g, 0, none⟩ = some (.float .f32 x)) (h1 : W.cell? ⟨g, 1, none⟩ = some (.float .f32 y)) (h2 : W.cell? ⟨g, 2, none⟩ = some (.float .f32 z)) :
    Calls Try.prog 24 #[.slice (some ⟨g, 0, none⟩) 3 3] W fun e w' => e = .returned (.int .i64 (htE [x, y, z])) ∧ W = w' := refheight_any (some ⟨g, 0, none⟩) 3 [x, y, z] W (row_three_at W g x y z hx hy hz h0 h1 h2)

theorem box_f3c (w : World) (X Y W H : Int) (v : Value) (c1 c2 c3 : Array Value) (t : TypeId) : ∀ W0, W0 = ((((w.alloc (.cells #[.int .i64 X, .int .i64 Y, .int .i64 W, .int .i64 H, v] 36)).alloc (.cells c1 t)).alloc (.cells c2 t)).alloc (.cells c3 t)).alloc (.cells #[.int .i64 0, .int .i64 0, .int .i64 0, .int .i64 0, .slice none 0 0] 36) →
    Fld W0 w.heap.size X Y W H v ∧ Blk W0 (w.heap.size + 1) c1 t ∧ Blk W0 (w.heap.size + 1 + 1) c2 t ∧ Blk W0 (w.heap.size + 1 + 1 + 1) c3 t ∧ Fld W0 (w.heap.size + 1 + 1 + 1 + 1) 0 0 0 0 (.slice none 0 0) ∧ Below w.heap.size w W0 := by
  rintro _ rfl
  refine ⟨((((Fld.new w X Y W H v).alloc _).alloc _).alloc _).alloc _, ?_, ?_, ?_, ?_, (by repeat (first | with_reducible exact Below.refl _ _ | with_reducible apply Below.drew | with_reducible refine below_drewN ?_ _ | (with_reducible refine Below.setCell ?_ ?_ _; rotate_left; focus (first | omega | (simp <;> omega))) | (with_reducible refine Below.alloc ?_ ?_ _; rotate_left; focus (first | omega | (simp <;> omega)))))⟩
  · have := (((Blk.new (w.alloc (.cells #[.int .i64 X, .int .i64 Y, .int .i64 W, .int .i64 H, v] 36)) c1 t).alloc (.cells c2 t)).alloc (.cells c3 t)).alloc (.cells #[.int .i64 0, .int .i64 0, .int .i64 0, .int .i64 0, .slice none 0 0] 36)
    simpa using this
  · have := ((Blk.new ((w.alloc (.cells #[.int .i64 X, .int .i64 Y, .int .i64 W, .int .i64 H, v] 36)).alloc (.cells c1 t)) c2 t).alloc (.cells c3 t)).alloc (.cells #[.int .i64 0, .int .i64 0, .int .i64 0, .int .i64 0, .slice none 0 0] 36)
    simpa using this
  · have := (Blk.new (((w.alloc (.cells #[.int .i64 X, .int .i64 Y, .int .i64 W, .int .i64 H, v] 36)).alloc (.cells c1 t)).alloc (.cells c2 t)) c3 t).alloc (.cells #[.int .i64 0, .int .i64 0, .int .i64 0, .int .i64 0, .slice none 0 0] 36)
    simpa using this
  · have := Fld.new ((((w.alloc (.cells #[.int .i64 X, .int .i64 Y, .int .i64 W, .int .i64 H, v] 36)).alloc (.cells c1 t)).alloc (.cells c2 t)).alloc (.cells c3 t)) 0 0 0 0 (.slice none 0 0)
    simpa using this

/-- the field's values, each given to a function: by a function that counts -/
theorem make_map (gn : Nat) (caps : Array Value) (p : Nat) (φ : Nat → Nat) (X Y : Int) (Wn Hn : Nat) (l : List Nat) (w : World) (hr : Right X Y Wn Hn l)
    (eg : ∀ args w, (callFunc gn args).run Try.prog w = .ok (.enter gn args) w) (hp : CntAt w p (-1)) (hφ : ∀ v, φ v < 4294967296)
    (hf : ∀ x y (k : Nat), k < l.length → ∀ W', But w.heap.size (fun k => k = p) w W' → CntAt W' p ((k : Int) - 1) → Calls Try.prog gn (#[.int .i64 x, .int .i64 y] ++ caps) W' fun e w' => e = .returned (.float .f32 (φ (l.getD k 0))) ∧ But W'.heap.size (fun k => k = p) W' w' ∧ CntAt w' p (k : Int)) :
    Calls Try.prog 94 #[reg X Y Wn Hn, .func (.func gn) #[] caps] w fun e w' => MakeCP p X Y Wn Hn (l.map φ) w e w' := by
  have g1 := hr.w1; have g2 := hr.w2; have g3 := hr.h1; have g4 := hr.h2; have g5 := hr.x1; have g6 := hr.x2; have g7 := hr.y1; have g8 := hr.y2
  have := make_cnt gn caps p (fun x y => φ (l.getD (cellNo X Y Wn x y).toNat 0)) X Y Wn Hn w (by omega) (by omega) (by omega) (by omega) (by omega) (by omega) (by omega) (by omega) eg hp (fun x y => hφ _) ?_
  · rw [madeL_map φ X Y Wn Hn l (by omega) hr.len] at this
    exact this
  · intro i j k hi hj hk W' hb hc
    rw [cell_ij hk]
    exact hf _ _ k (by rw [hr.len]; exact cell_lt hi hj hk) W' hb hc

def selC (lo hi soft : Nat) : Int := if htE [lo, hi, soft] ≠ 0 then htE [lo, hi, soft] else if gtr lo hi = true then 8 else if lss soft 0 = true then 3 else 0

set_option maxRecDepth 100000 in
theorem select_bad (X Y : Int) (Wn Hn : Nat) (b o c : Nat) (l : List Nat) (lo hi soft : Nat) (w : World) (hl : SRow w (some ⟨b, o, none⟩) l) (hr : Right X Y Wn Hn l) (h1 : lo < 4294967296) (h2 : hi < 4294967296) (h3 : soft < 4294967296) (h : selC lo hi soft ≠ 0) :
    Calls Try.prog 69 #[fldV X Y Wn Hn (some ⟨b, o, none⟩) l.length c, .float .f32 lo, .float .f32 hi, .float .f32 soft] w fun e w' => e = .returned (.tuple #[fldV 0 0 0 0 none 0 0, .int .i64 (selC lo hi soft)]) ∧ Below w.heap.size w w' := by
  have K := Lib.hid (fun w h => check_field X Y Wn Hn (some ⟨b, o, none⟩) c l w h)
  rw [hr.chk] at K
  have HL := Lib.hid hl
  have KH := Lib.hid (fun W g c0 c1 c2 => heights_three W g lo hi soft h1 h2 h3 c0 c1 c2)
  clear hl hr h1 h2 h3
  unfold selC at *
  generalize htE [lo, hi, soft] = a at *
  by_cases ha : a = 0
  · rw [ha] at KH
    rw [if_neg (by omega)] at h ⊢
    clear ha
    cases hg : gtr lo hi with
    | true =>
      rw [if_pos rfl]
      change (FloatKind.f32.format.order lo hi == some .gt) = true at hg
      clear h
      go_enter Try.func69, Try.ntmps69
      go_wp2_with fail
      generalize hW0 : ((((w.alloc (.cells #[.int .i64 X, .int .i64 Y, .int .i64 Wn, .int .i64 Hn, .slice (some ⟨b, o, none⟩) l.length c] 36)).alloc (.cells #[.float .f32 lo] 37)).alloc (.cells #[.float .f32 hi] 37)).alloc (.cells #[.float .f32 soft] 37)).alloc (.cells #[.int .i64 0, .int .i64 0, .int .i64 0, .int .i64 0, .slice none 0 0] 36) = W0 at *
      obtain ⟨E0, P0, Q0, R0, F0, B0⟩ := box_f3c w X Y Wn Hn (.slice (some ⟨b, o, none⟩) l.length c) #[.float .f32 lo] #[.float .f32 hi] #[.float .f32 soft] 37 W0 hW0.symm
      clear hW0
      refine (K.out _ (HL.out.below B0)).mono ?_
      rintro e w1 ⟨rfl, b1⟩
      have HE1 := Lib.hid (E0.below b1 E0.lt)
      have HP1 := Lib.hid (P0.below b1 P0.lt)
      have HQ1 := Lib.hid (Q0.below b1 Q0.lt)
      have HC1 := Lib.hid (R0.below b1 R0.lt)
      have HF1 := Lib.hid (F0.below b1 F0.lt)
      have HL1 := Lib.hid ((HL.out.below B0).below b1)
      have HB1 := Lib.hid (B0.trans (b1.mono B0.size))
      clear b1 B0 F0 E0 P0 Q0 R0 K HL
      have p0 : w1.cell? ⟨w.heap.size + 1, 0, none⟩ = some (.float .f32 lo) := HP1.out.cell 0
      have p1 : w1.cell? ⟨w.heap.size + 1 + 1, 0, none⟩ = some (.float .f32 hi) := HQ1.out.cell 0
      have p2 : w1.cell? ⟨w.heap.size + 1 + 1 + 1, 0, none⟩ = some (.float .f32 soft) := HC1.out.cell 0
      have l4 : w.heap.size + 1 + 1 + 1 + 1 < w1.heap.size := HF1.out.lt
      have l3 : w.heap.size + 1 + 1 + 1 < w1.heap.size := by omega
      have l2 : w.heap.size + 1 + 1 < w1.heap.size := by omega
      have l1 : w.heap.size + 1 < w1.heap.size := by omega
      have l0 : w.heap.size < w1.heap.size := by omega
      go_wp2_with fail
      refine (KH.out _ _ (by simp [go_sem]) (by simp [go_sem]) (by simp [go_sem])).mono ?_
      rintro e w2 ⟨rfl, rfl⟩
      obtain ⟨d0, d1, d2, d3, d4⟩ := HF1.out.cells
      have qf0 := HF1.out.frozen 0
      have qf1 := HF1.out.frozen 1
      have qf2 := HF1.out.frozen 2
      have qf3 := HF1.out.frozen 3
      have qf4 := HF1.out.frozen 4
      go_wp2_with fail
      have B3 := HB1.out
      exact bodyPost_ret (v := .tuple #[fldV 0 0 0 0 none 0 0, .int .i64 8]) (by simp [results, Try.results69, go_sem, *]) rfl ⟨rfl, (by have hszz := B3.size; repeat (first | with_reducible exact B3 | with_reducible apply Below.drew | with_reducible refine below_drewN ?_ _ | (with_reducible refine Below.setCell ?_ ?_ _; rotate_left; focus (first | omega | (simp <;> omega))) | (with_reducible refine Below.alloc ?_ ?_ _; rotate_left; focus (first | omega | (simp <;> omega)))))⟩
    | false =>
      rw [hg, if_neg (by decide)] at h
      rw [if_neg (by decide)]
      change (FloatKind.f32.format.order lo hi == some .gt) = false at hg
      cases hs : lss soft 0 with
      | true =>
        rw [if_pos rfl]
        change (FloatKind.f32.format.order soft 0 == some .lt) = true at hs
        clear h
        go_enter Try.func69, Try.ntmps69
        go_wp2_with fail
        generalize hW0 : ((((w.alloc (.cells #[.int .i64 X, .int .i64 Y, .int .i64 Wn, .int .i64 Hn, .slice (some ⟨b, o, none⟩) l.length c] 36)).alloc (.cells #[.float .f32 lo] 37)).alloc (.cells #[.float .f32 hi] 37)).alloc (.cells #[.float .f32 soft] 37)).alloc (.cells #[.int .i64 0, .int .i64 0, .int .i64 0, .int .i64 0, .slice none 0 0] 36) = W0 at *
        obtain ⟨E0, P0, Q0, R0, F0, B0⟩ := box_f3c w X Y Wn Hn (.slice (some ⟨b, o, none⟩) l.length c) #[.float .f32 lo] #[.float .f32 hi] #[.float .f32 soft] 37 W0 hW0.symm
        clear hW0
        refine (K.out _ (HL.out.below B0)).mono ?_
        rintro e w1 ⟨rfl, b1⟩
        have HE1 := Lib.hid (E0.below b1 E0.lt)
        have HP1 := Lib.hid (P0.below b1 P0.lt)
        have HQ1 := Lib.hid (Q0.below b1 Q0.lt)
        have HC1 := Lib.hid (R0.below b1 R0.lt)
        have HF1 := Lib.hid (F0.below b1 F0.lt)
        have HL1 := Lib.hid ((HL.out.below B0).below b1)
        have HB1 := Lib.hid (B0.trans (b1.mono B0.size))
        clear b1 B0 F0 E0 P0 Q0 R0 K HL
        have p0 : w1.cell? ⟨w.heap.size + 1, 0, none⟩ = some (.float .f32 lo) := HP1.out.cell 0
        have p1 : w1.cell? ⟨w.heap.size + 1 + 1, 0, none⟩ = some (.float .f32 hi) := HQ1.out.cell 0
        have p2 : w1.cell? ⟨w.heap.size + 1 + 1 + 1, 0, none⟩ = some (.float .f32 soft) := HC1.out.cell 0
        have l4 : w.heap.size + 1 + 1 + 1 + 1 < w1.heap.size := HF1.out.lt
        have l3 : w.heap.size + 1 + 1 + 1 < w1.heap.size := by omega
        have l2 : w.heap.size + 1 + 1 < w1.heap.size := by omega
        have l1 : w.heap.size + 1 < w1.heap.size := by omega
        have l0 : w.heap.size < w1.heap.size := by omega
        go_wp2_with fail
        refine (KH.out _ _ (by simp [go_sem]) (by simp [go_sem]) (by simp [go_sem])).mono ?_
        rintro e w2 ⟨rfl, rfl⟩
        obtain ⟨d0, d1, d2, d3, d4⟩ := HF1.out.cells
        have qf0 := HF1.out.frozen 0
        have qf1 := HF1.out.frozen 1
        have qf2 := HF1.out.frozen 2
        have qf3 := HF1.out.frozen 3
        have qf4 := HF1.out.frozen 4
        go_wp2_with fail
        have B3 := HB1.out
        exact bodyPost_ret (v := .tuple #[fldV 0 0 0 0 none 0 0, .int .i64 3]) (by simp [results, Try.results69, go_sem, *]) rfl ⟨rfl, (by have hszz := B3.size; repeat (first | with_reducible exact B3 | with_reducible apply Below.drew | with_reducible refine below_drewN ?_ _ | (with_reducible refine Below.setCell ?_ ?_ _; rotate_left; focus (first | omega | (simp <;> omega))) | (with_reducible refine Below.alloc ?_ ?_ _; rotate_left; focus (first | omega | (simp <;> omega)))))⟩
      | false => rw [hs, if_neg (by decide)] at h; exact absurd rfl h
  · rw [if_pos ha]
    have hb' : (a != 0) = true := by rw [bne_iff_ne]; exact ha
    clear h ha
    go_enter Try.func69, Try.ntmps69
    go_wp2_with fail
    generalize hW0 : ((((w.alloc (.cells #[.int .i64 X, .int .i64 Y, .int .i64 Wn, .int .i64 Hn, .slice (some ⟨b, o, none⟩) l.length c] 36)).alloc (.cells #[.float .f32 lo] 37)).alloc (.cells #[.float .f32 hi] 37)).alloc (.cells #[.float .f32 soft] 37)).alloc (.cells #[.int .i64 0, .int .i64 0, .int .i64 0, .int .i64 0, .slice none 0 0] 36) = W0 at *
    obtain ⟨E0, P0, Q0, R0, F0, B0⟩ := box_f3c w X Y Wn Hn (.slice (some ⟨b, o, none⟩) l.length c) #[.float .f32 lo] #[.float .f32 hi] #[.float .f32 soft] 37 W0 hW0.symm
    clear hW0
    refine (K.out _ (HL.out.below B0)).mono ?_
    rintro e w1 ⟨rfl, b1⟩
    have HE1 := Lib.hid (E0.below b1 E0.lt)
    have HP1 := Lib.hid (P0.below b1 P0.lt)
    have HQ1 := Lib.hid (Q0.below b1 Q0.lt)
    have HC1 := Lib.hid (R0.below b1 R0.lt)
    have HF1 := Lib.hid (F0.below b1 F0.lt)
    have HL1 := Lib.hid ((HL.out.below B0).below b1)
    have HB1 := Lib.hid (B0.trans (b1.mono B0.size))
    clear b1 B0 F0 E0 P0 Q0 R0 K HL
    have p0 : w1.cell? ⟨w.heap.size + 1, 0, none⟩ = some (.float .f32 lo) := HP1.out.cell 0
    have p1 : w1.cell? ⟨w.heap.size + 1 + 1, 0, none⟩ = some (.float .f32 hi) := HQ1.out.cell 0
    have p2 : w1.cell? ⟨w.heap.size + 1 + 1 + 1, 0, none⟩ = some (.float .f32 soft) := HC1.out.cell 0
    have l4 : w.heap.size + 1 + 1 + 1 + 1 < w1.heap.size := HF1.out.lt
    have l3 : w.heap.size + 1 + 1 + 1 < w1.heap.size := by omega
    have l2 : w.heap.size + 1 + 1 < w1.heap.size := by omega
    have l1 : w.heap.size + 1 < w1.heap.size := by omega
    have l0 : w.heap.size < w1.heap.size := by omega
    go_wp2_with fail
    refine (KH.out _ _ (by simp [go_sem]) (by simp [go_sem]) (by simp [go_sem])).mono ?_
    rintro e w2 ⟨rfl, rfl⟩
    obtain ⟨d0, d1, d2, d3, d4⟩ := HF1.out.cells
    have qf0 := HF1.out.frozen 0
    have qf1 := HF1.out.frozen 1
    have qf2 := HF1.out.frozen 2
    have qf3 := HF1.out.frozen 3
    have qf4 := HF1.out.frozen 4
    go_wp2_with fail
    have B3 := HB1.out
    exact bodyPost_ret (v := .tuple #[fldV 0 0 0 0 none 0 0, .int .i64 a]) (by simp [results, Try.results69, go_sem, *]) rfl ⟨rfl, (by have hszz := B3.size; repeat (first | with_reducible exact B3 | with_reducible apply Below.drew | with_reducible refine below_drewN ?_ _ | (with_reducible refine Below.setCell ?_ ?_ _; rotate_left; focus (first | omega | (simp <;> omega))) | (with_reducible refine Below.alloc ?_ ?_ _; rotate_left; focus (first | omega | (simp <;> omega)))))⟩
end Go.Proofs.Ytnfebeebjelgbaa
