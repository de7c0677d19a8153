import Derived.Test.YtimhpmccmafnpaaGreatG12
import Derived.BigQuiet
import Derived.Test.YtimhpmccmafnpaaGreatG11
import Derived.Deep.RegionHeld3
import Derived.Test.YtimhpmccmafnpaaGreatG07
import Derived.Test.YtimhpmccmafnpaaGreatG08
import Derived.Test.YtimhpmccmafnpaaGreatG01
import Derived.Test.YtimhpmccmafnpaaGreatG04
import Derived.Test.YtimhpmccmafnpaaGreatG02
import Derived.Test.YtimhpmccmafnpaaGreatG09

namespace Go.Proofs.YtimhpmccmafnpaaGreat
open Go.ChangeShapes Go.WideShapes Go.ChangeAt Go.RowKit
open Ieee.Format (fin finE htE allFin allHt all_true all_false mulF subF addF Ht Bd divF rootF floorF easeF mixF)
set_option linter.unusedVariables false
open Ieee.Format (const_1)

abbrev brushV (k X Y R : Int) (H : Nat) : Value := .agg #[.int .i64 k, .int .i64 X, .int .i64 Y, .int .i64 R, .float .f32 H]
def placeE (X Y : Int) : Int := if X < -4194304 then 5 else if 4194304 < X then 5 else if Y < -4194304 then 5 else if 4194304 < Y then 5 else 0
def brushE (k X Y R : Int) (H : Nat) : Int := if k < 1 then 1 else if 3 < k then 1 else if placeE X Y ≠ 0 then 5 else if R < 1 then 3 else if 256 < R then 3 else htE [H]
theorem checkplace_any (X Y : Int) (w : World) : Calls Tryz.prog 41 #[.int .i64 X, .int .i64 Y] w fun e w' => e = .returned (.int .i64 (placeE X Y)) ∧ w = w' := by
  unfold placeE
  by_cases h1 : X < -4194304
  · rw [if_pos h1]
    go_enter Tryz.func41, Tryz.ntmps41
    go_wp2
    go_ret
    exact ⟨rfl, rfl⟩
  · rw [if_neg h1]
    by_cases h2 : 4194304 < X
    · rw [if_pos h2]
      go_enter Tryz.func41, Tryz.ntmps41
      go_wp2
      go_ret
      exact ⟨rfl, rfl⟩
    · rw [if_neg h2]
      by_cases h3 : Y < -4194304
      · rw [if_pos h3]
        go_enter Tryz.func41, Tryz.ntmps41
        go_wp2
        go_ret
        exact ⟨rfl, rfl⟩
      · rw [if_neg h3]
        by_cases h4 : 4194304 < Y
        · rw [if_pos h4]
          go_enter Tryz.func41, Tryz.ntmps41
          go_wp2
          go_ret
          exact ⟨rfl, rfl⟩
        · rw [if_neg h4]
          go_enter Tryz.func41, Tryz.ntmps41
          go_wp2
          go_ret
          exact ⟨rfl, rfl⟩

theorem check_brush (k X Y R : Int) (H : Nat) (w : World) (hH : H < 4294967296) :
    Calls Tryz.prog 23 #[brushV k X Y R H] w fun e w' => e = .returned (.int .i64 (brushE k X Y R H)) ∧ Below w.heap.size w w' := by
  have K1 := Lib.hid (fun W g h => heights_one W g H hH h)
  have KP := Lib.hid (fun W => checkplace_any X Y W)
  clear hH
  unfold brushE
  generalize htE [H] = a at *
  generalize placeE X Y = b at *
  by_cases h1 : k < 1
  · rw [if_pos h1]
    go_enter Tryz.func23, Tryz.ntmps23
    go_wp2_with (first | (go_at_call 41; refine (KP.out _).mono ?_; rintro e w' ⟨rfl, rfl⟩) | (go_at_call 16; refine (K1.out _ _ (by simp [go_sem])).mono ?_; rintro e w' ⟨rfl, rfl⟩))
    go_ret
    exact ⟨rfl, (by repeat (first | with_reducible exact Below.refl _ _ | with_reducible apply Below.drew | with_reducible refine below_drewN ?_ _ | (with_reducible refine Below.setCell ?_ ?_ _; rotate_left; focus (first | omega | (simp <;> omega))) | (with_reducible refine Below.alloc ?_ ?_ _; rotate_left; focus (first | omega | (simp <;> omega)))))⟩
  · rw [if_neg h1]
    by_cases h2 : 3 < k
    · rw [if_pos h2]
      go_enter Tryz.func23, Tryz.ntmps23
      go_wp2_with (first | (go_at_call 41; refine (KP.out _).mono ?_; rintro e w' ⟨rfl, rfl⟩) | (go_at_call 16; refine (K1.out _ _ (by simp [go_sem])).mono ?_; rintro e w' ⟨rfl, rfl⟩))
      go_ret
      exact ⟨rfl, (by repeat (first | with_reducible exact Below.refl _ _ | with_reducible apply Below.drew | with_reducible refine below_drewN ?_ _ | (with_reducible refine Below.setCell ?_ ?_ _; rotate_left; focus (first | omega | (simp <;> omega))) | (with_reducible refine Below.alloc ?_ ?_ _; rotate_left; focus (first | omega | (simp <;> omega)))))⟩
    · rw [if_neg h2]
      by_cases h3 : b = 0
      · rw [h3] at KP
        rw [if_neg (by omega)]
        clear h3
        by_cases h4 : R < 1
        · rw [if_pos h4]
          go_enter Tryz.func23, Tryz.ntmps23
          go_wp2_with (first | (go_at_call 41; refine (KP.out _).mono ?_; rintro e w' ⟨rfl, rfl⟩) | (go_at_call 16; refine (K1.out _ _ (by simp [go_sem])).mono ?_; rintro e w' ⟨rfl, rfl⟩))
          go_ret
          exact ⟨rfl, (by repeat (first | with_reducible exact Below.refl _ _ | with_reducible apply Below.drew | with_reducible refine below_drewN ?_ _ | (with_reducible refine Below.setCell ?_ ?_ _; rotate_left; focus (first | omega | (simp <;> omega))) | (with_reducible refine Below.alloc ?_ ?_ _; rotate_left; focus (first | omega | (simp <;> omega)))))⟩
        · rw [if_neg h4]
          by_cases h5 : 256 < R
          · rw [if_pos h5]
            go_enter Tryz.func23, Tryz.ntmps23
            go_wp2_with (first | (go_at_call 41; refine (KP.out _).mono ?_; rintro e w' ⟨rfl, rfl⟩) | (go_at_call 16; refine (K1.out _ _ (by simp [go_sem])).mono ?_; rintro e w' ⟨rfl, rfl⟩))
            go_ret
            exact ⟨rfl, (by repeat (first | with_reducible exact Below.refl _ _ | with_reducible apply Below.drew | with_reducible refine below_drewN ?_ _ | (with_reducible refine Below.setCell ?_ ?_ _; rotate_left; focus (first | omega | (simp <;> omega))) | (with_reducible refine Below.alloc ?_ ?_ _; rotate_left; focus (first | omega | (simp <;> omega)))))⟩
          · rw [if_neg h5]
            go_enter Tryz.func23, Tryz.ntmps23
            go_wp2_with (first | (go_at_call 41; refine (KP.out _).mono ?_; rintro e w' ⟨rfl, rfl⟩) | (go_at_call 16; refine (K1.out _ _ (by simp [go_sem])).mono ?_; rintro e w' ⟨rfl, rfl⟩))
            go_ret
            exact ⟨rfl, (by repeat (first | with_reducible exact Below.refl _ _ | with_reducible apply Below.drew | with_reducible refine below_drewN ?_ _ | (with_reducible refine Below.setCell ?_ ?_ _; rotate_left; focus (first | omega | (simp <;> omega))) | (with_reducible refine Below.alloc ?_ ?_ _; rotate_left; focus (first | omega | (simp <;> omega)))))⟩
      · rw [if_pos h3]
        have hb' : (b != 0) = true := by rw [bne_iff_ne]; exact h3
        clear h3
        go_enter Tryz.func23, Tryz.ntmps23
        go_wp2_with (first | (go_at_call 41; refine (KP.out _).mono ?_; rintro e w' ⟨rfl, rfl⟩) | (go_at_call 16; refine (K1.out _ _ (by simp [go_sem])).mono ?_; rintro e w' ⟨rfl, rfl⟩))
        go_ret
        exact ⟨rfl, (by repeat (first | with_reducible exact Below.refl _ _ | with_reducible apply Below.drew | with_reducible refine below_drewN ?_ _ | (with_reducible refine Below.setCell ?_ ?_ _; rotate_left; focus (first | omega | (simp <;> omega))) | (with_reducible refine Below.alloc ?_ ?_ _; rotate_left; focus (first | omega | (simp <;> omega)))))⟩

set_option maxHeartbeats 1000000 in
theorem refcheck_brush (k X Y R : Int) (H : Nat) (w : World) (hH : H < 4294967296) :
    Calls Tryz.prog 57 #[brushV k X Y R H] w fun e w' => e = .returned (.int .i64 (brushE k X Y R H)) ∧ Below w.heap.size w w' := by
  have K1 := Lib.hid (fun W g h => refheight_one W g H hH h)
  clear hH
  unfold brushE placeE
  generalize htE [H] = a at *
  by_cases h1 : k < 1
  · rw [if_pos h1]
    go_enter Tryz.func57, Tryz.ntmps57
    go_wp2_with (go_at_call 49; refine (K1.out _ _ (by simp [go_sem])).mono ?_; rintro e w' ⟨rfl, rfl⟩)
    go_ret
    exact ⟨rfl, (by repeat (first | with_reducible exact Below.refl _ _ | with_reducible apply Below.drew | with_reducible refine below_drewN ?_ _ | (with_reducible refine Below.setCell ?_ ?_ _; rotate_left; focus (first | omega | (simp <;> omega))) | (with_reducible refine Below.alloc ?_ ?_ _; rotate_left; focus (first | omega | (simp <;> omega)))))⟩
  · rw [if_neg h1]
    by_cases h2 : 3 < k
    · rw [if_pos h2]
      go_enter Tryz.func57, Tryz.ntmps57
      go_wp2_with (go_at_call 49; refine (K1.out _ _ (by simp [go_sem])).mono ?_; rintro e w' ⟨rfl, rfl⟩)
      go_ret
      exact ⟨rfl, (by repeat (first | with_reducible exact Below.refl _ _ | with_reducible apply Below.drew | with_reducible refine below_drewN ?_ _ | (with_reducible refine Below.setCell ?_ ?_ _; rotate_left; focus (first | omega | (simp <;> omega))) | (with_reducible refine Below.alloc ?_ ?_ _; rotate_left; focus (first | omega | (simp <;> omega)))))⟩
    · rw [if_neg h2]
      by_cases p1 : X < -4194304
      · rw [if_pos p1, if_pos (by decide)]
        go_enter Tryz.func57, Tryz.ntmps57
        go_wp2_with (go_at_call 49; refine (K1.out _ _ (by simp [go_sem])).mono ?_; rintro e w' ⟨rfl, rfl⟩)
        go_ret
        exact ⟨rfl, (by repeat (first | with_reducible exact Below.refl _ _ | with_reducible apply Below.drew | with_reducible refine below_drewN ?_ _ | (with_reducible refine Below.setCell ?_ ?_ _; rotate_left; focus (first | omega | (simp <;> omega))) | (with_reducible refine Below.alloc ?_ ?_ _; rotate_left; focus (first | omega | (simp <;> omega)))))⟩
      · rw [if_neg p1]
        by_cases p2 : 4194304 < X
        · rw [if_pos p2, if_pos (by decide)]
          go_enter Tryz.func57, Tryz.ntmps57
          go_wp2_with (go_at_call 49; refine (K1.out _ _ (by simp [go_sem])).mono ?_; rintro e w' ⟨rfl, rfl⟩)
          go_ret
          exact ⟨rfl, (by repeat (first | with_reducible exact Below.refl _ _ | with_reducible apply Below.drew | with_reducible refine below_drewN ?_ _ | (with_reducible refine Below.setCell ?_ ?_ _; rotate_left; focus (first | omega | (simp <;> omega))) | (with_reducible refine Below.alloc ?_ ?_ _; rotate_left; focus (first | omega | (simp <;> omega)))))⟩
        · rw [if_neg p2]
          by_cases p3 : Y < -4194304
          · rw [if_pos p3, if_pos (by decide)]
            go_enter Tryz.func57, Tryz.ntmps57
            go_wp2_with (go_at_call 49; refine (K1.out _ _ (by simp [go_sem])).mono ?_; rintro e w' ⟨rfl, rfl⟩)
            go_ret
            exact ⟨rfl, (by repeat (first | with_reducible exact Below.refl _ _ | with_reducible apply Below.drew | with_reducible refine below_drewN ?_ _ | (with_reducible refine Below.setCell ?_ ?_ _; rotate_left; focus (first | omega | (simp <;> omega))) | (with_reducible refine Below.alloc ?_ ?_ _; rotate_left; focus (first | omega | (simp <;> omega)))))⟩
          · rw [if_neg p3]
            by_cases p4 : 4194304 < Y
            · rw [if_pos p4, if_pos (by decide)]
              go_enter Tryz.func57, Tryz.ntmps57
              go_wp2_with (go_at_call 49; refine (K1.out _ _ (by simp [go_sem])).mono ?_; rintro e w' ⟨rfl, rfl⟩)
              go_ret
              exact ⟨rfl, (by repeat (first | with_reducible exact Below.refl _ _ | with_reducible apply Below.drew | with_reducible refine below_drewN ?_ _ | (with_reducible refine Below.setCell ?_ ?_ _; rotate_left; focus (first | omega | (simp <;> omega))) | (with_reducible refine Below.alloc ?_ ?_ _; rotate_left; focus (first | omega | (simp <;> omega)))))⟩
            · rw [if_neg p4, if_neg (by decide)]
              by_cases h4 : R < 1
              · rw [if_pos h4]
                go_enter Tryz.func57, Tryz.ntmps57
                go_wp2_with (go_at_call 49; refine (K1.out _ _ (by simp [go_sem])).mono ?_; rintro e w' ⟨rfl, rfl⟩)
                go_ret
                exact ⟨rfl, (by repeat (first | with_reducible exact Below.refl _ _ | with_reducible apply Below.drew | with_reducible refine below_drewN ?_ _ | (with_reducible refine Below.setCell ?_ ?_ _; rotate_left; focus (first | omega | (simp <;> omega))) | (with_reducible refine Below.alloc ?_ ?_ _; rotate_left; focus (first | omega | (simp <;> omega)))))⟩
              · rw [if_neg h4]
                by_cases h5 : 256 < R
                · rw [if_pos h5]
                  go_enter Tryz.func57, Tryz.ntmps57
                  go_wp2_with (go_at_call 49; refine (K1.out _ _ (by simp [go_sem])).mono ?_; rintro e w' ⟨rfl, rfl⟩)
                  go_ret
                  exact ⟨rfl, (by repeat (first | with_reducible exact Below.refl _ _ | with_reducible apply Below.drew | with_reducible refine below_drewN ?_ _ | (with_reducible refine Below.setCell ?_ ?_ _; rotate_left; focus (first | omega | (simp <;> omega))) | (with_reducible refine Below.alloc ?_ ?_ _; rotate_left; focus (first | omega | (simp <;> omega)))))⟩
                · rw [if_neg h5]
                  go_enter Tryz.func57, Tryz.ntmps57
                  go_wp2_with (go_at_call 49; refine (K1.out _ _ (by simp [go_sem])).mono ?_; rintro e w' ⟨rfl, rfl⟩)
                  go_ret
                  exact ⟨rfl, (by repeat (first | with_reducible exact Below.refl _ _ | with_reducible apply Below.drew | with_reducible refine below_drewN ?_ _ | (with_reducible refine Below.setCell ?_ ?_ _; rotate_left; focus (first | omega | (simp <;> omega))) | (with_reducible refine Below.alloc ?_ ?_ _; rotate_left; focus (first | omega | (simp <;> omega)))))⟩
end Go.Proofs.YtimhpmccmafnpaaGreat



namespace Go.Proofs.YtimhpmccmafnpaaGreat
open Go.ChangeShapes Go.WideShapes Go.ChangeAt Go.RowKit
open Ieee.Format (fin finE htE allFin allHt all_true all_false mulF subF addF Ht Bd divF rootF floorF easeF mixF)
set_option linter.unusedVariables false

/-- what Dither gives of each cell -/
def ditA (seed : Int) (s : Nat) (x y : Int) (v : Nat) : Nat := ditF s v (hsF seed x y 8)
theorem box_fd (w : World) (X Y W H : Int) (v : Value) (c1 : Array Value) (t1 : TypeId) (c2 : Array Value) (t2 : TypeId) : ∀ W0, W0 = (((w.alloc (.cells #[.int .i64 X, .int .i64 Y, .int .i64 W, .int .i64 H, v] 78)).alloc (.cells c1 t1)).alloc (.cells c2 t2)).alloc (.cells #[.int .i64 0, .int .i64 0, .int .i64 0, .int .i64 0, .slice none 0 0] 78) →
    Fld W0 w.heap.size X Y W H v ∧ Blk W0 (w.heap.size + 1) c1 t1 ∧ Blk W0 (w.heap.size + 1 + 1) c2 t2 ∧ Fld W0 (w.heap.size + 1 + 1 + 1) 0 0 0 0 (.slice none 0 0) ∧ Below w.heap.size w W0 := by
  rintro _ rfl
  refine ⟨(((Fld.new w X Y W H v).alloc _).alloc _).alloc _, ?_, ?_, ?_, (by repeat (first | with_reducible exact Below.refl _ _ | with_reducible apply Below.drew | with_reducible refine below_drewN ?_ _ | (with_reducible refine Below.setCell ?_ ?_ _; rotate_left; focus (first | omega | (simp <;> omega))) | (with_reducible refine Below.alloc ?_ ?_ _; rotate_left; focus (first | omega | (simp <;> omega)))))⟩
  · have := ((Blk.new (w.alloc (.cells #[.int .i64 X, .int .i64 Y, .int .i64 W, .int .i64 H, v] 78)) c1 t1).alloc (.cells c2 t2)).alloc (.cells #[.int .i64 0, .int .i64 0, .int .i64 0, .int .i64 0, .slice none 0 0] 78)
    simpa using this
  · have := (Blk.new ((w.alloc (.cells #[.int .i64 X, .int .i64 Y, .int .i64 W, .int .i64 H, v] 78)).alloc (.cells c1 t1)) c2 t2).alloc (.cells #[.int .i64 0, .int .i64 0, .int .i64 0, .int .i64 0, .slice none 0 0] 78)
    simpa using this
  · have := Fld.new (((w.alloc (.cells #[.int .i64 X, .int .i64 Y, .int .i64 W, .int .i64 H, v] 78)).alloc (.cells c1 t1)).alloc (.cells c2 t2)) 0 0 0 0 (.slice none 0 0)
    simpa using this

set_option maxRecDepth 100000 in
theorem dither_bad (X Y : Int) (Wn Hn : Nat) (b o c : Nat) (l : List Nat) (seed : Int) (s : Nat) (w : World) (hl : SRow w (some ⟨b, o, none⟩) l) (hr : Right X Y Wn Hn l) (hs : s < 4294967296) (hz : dithE s ≠ 0) :
    Calls Tryz.prog 78 #[fldV X Y Wn Hn (some ⟨b, o, none⟩) l.length c, .int .u32 seed, .float .f32 s] w fun e w' => e = .returned (.tuple #[fldV 0 0 0 0 none 0 0, .int .i64 (dithE s)]) ∧ Below w.heap.size w w' := by
  have K := Lib.hid (fun w h => check_field X Y Wn Hn (some ⟨b, o, none⟩) c l w h)
  rw [hr.chk] at K
  have HL := Lib.hid hl
  have KC := Lib.hid (fun w => checkstep_all s w hs)
  clear hl hr hs
  generalize dithE s = a at *
  have hb' : (a != 0) = true := by rw [bne_iff_ne]; exact hz
  clear hz
  go_enter Tryz.func78, Tryz.ntmps78
  go_wp2_with fail
  generalize hW0 : (((w.alloc (.cells #[.int .i64 X, .int .i64 Y, .int .i64 Wn, .int .i64 Hn, .slice (some ⟨b, o, none⟩) l.length c] 78)).alloc (.cells #[.int .u32 seed] 45)).alloc (.cells #[.float .f32 s] 46)).alloc (.cells #[.int .i64 0, .int .i64 0, .int .i64 0, .int .i64 0, .slice none 0 0] 78) = W0 at *
  obtain ⟨E0, P0, Q0, F0, B0⟩ := box_fd w X Y Wn Hn (.slice (some ⟨b, o, none⟩) l.length c) #[.int .u32 seed] 45 #[.float .f32 s] 46 W0 hW0.symm
  clear hW0
  refine (K.out _ (HL.out.below B0)).mono ?_
  rintro e w1 ⟨rfl, b1⟩
  have HE1 := Lib.hid (E0.below b1 E0.lt)
  have HP1 := Lib.hid (P0.below b1 P0.lt)
  have HQ1 := Lib.hid (Q0.below b1 Q0.lt)
  have HF1 := Lib.hid (F0.below b1 F0.lt)
  have HL1 := Lib.hid ((HL.out.below B0).below b1)
  have HB1 := Lib.hid (B0.trans (b1.mono B0.size))
  clear b1 B0 F0 E0 P0 Q0 K HL
  have p1 : w1.cell? ⟨w.heap.size + 1 + 1, 0, none⟩ = some (.float .f32 s) := HQ1.out.cell 0
  have l3 : w.heap.size + 1 + 1 + 1 < w1.heap.size := HF1.out.lt
  have l2 : w.heap.size + 1 + 1 < w1.heap.size := by omega
  go_wp2_with fail
  refine (KC.out _).mono ?_
  rintro e w2 ⟨rfl, b2⟩
  have HE2 := Lib.hid (HE1.out.below b2 HE1.out.lt)
  have HP2 := Lib.hid (HP1.out.below b2 HP1.out.lt)
  have HQ2 := Lib.hid (HQ1.out.below b2 HQ1.out.lt)
  have HF2 := Lib.hid (HF1.out.below b2 HF1.out.lt)
  have HL2 := Lib.hid (HL1.out.below b2)
  have HB2 := Lib.hid (HB1.out.trans (b2.mono HB1.out.size))
  clear b2 p1 l3 l2 HE1 HP1 HQ1 HF1 HL1 HB1
  obtain ⟨d0, d1, d2, d3, d4⟩ := HF2.out.cells
  have qf0 := HF2.out.frozen 0
  have qf1 := HF2.out.frozen 1
  have qf2 := HF2.out.frozen 2
  have qf3 := HF2.out.frozen 3
  have qf4 := HF2.out.frozen 4
  have lz := HF2.out.lt
  go_wp2_with fail
  have B3 := HB2.out
  exact bodyPost_ret (v := .tuple #[fldV 0 0 0 0 none 0 0, .int .i64 a]) (by simp [results, Tryz.results78, go_sem, *]) rfl ⟨rfl, (by have hszz := B3.size; repeat (first | with_reducible exact B3 | with_reducible apply Below.drew | with_reducible refine below_drewN ?_ _ | (with_reducible refine Below.setCell ?_ ?_ _; rotate_left; focus (first | omega | (simp <;> omega))) | (with_reducible refine Below.alloc ?_ ?_ _; rotate_left; focus (first | omega | (simp <;> omega)))))⟩

set_option maxRecDepth 100000 in
set_option maxHeartbeats 1000000 in
theorem dither_ok (X Y : Int) (Wn Hn : Nat) (b o c : Nat) (l : List Nat) (seed : Int) (s : Nat) (w : World) (hl : SRow w (some ⟨b, o, none⟩) l) (hr : Right X Y Wn Hn l) (hs : s < 4294967296) (hz : dithE s = 0) :
    Calls Tryz.prog 78 #[fldV X Y Wn Hn (some ⟨b, o, none⟩) l.length c, .int .u32 seed, .float .f32 s] w fun e w' => OpP (resC (addL (ditA seed s) X Y Wn Hn l)) X Y Wn Hn (addL (ditA seed s) X Y Wn Hn l) w e w' := by
  have K := Lib.hid (fun w h => check_field X Y Wn Hn (some ⟨b, o, none⟩) c l w h)
  rw [hr.chk] at K
  have HL := Lib.hid hl
  have KC := Lib.hid (fun w => checkstep_all s w hs)
  rw [hz] at KC
  have hT := dith_zero hz
  have HBL : Hid (b < w.heap.size) := SRow.blt hl hr.pos
  have g1 := hr.w1; have g2 := hr.w2; have g3 := hr.h1; have g4 := hr.h2; have g5 := hr.x1; have g6 := hr.x2; have g7 := hr.y1; have g8 := hr.y2
  have KM := Lib.hid (fun p q pa pb w1 (hl1 : SRow w1 (some ⟨b, o, none⟩) l) (hq : Fld w1 q X Y Wn Hn (.slice (some ⟨b, o, none⟩) l.length c)) (ha : Blk w1 pa #[.float .f32 s] 46) (hb : Blk w1 pb #[.int .u32 seed] 45) (hp : CntAt w1 p (-1)) (qp : q ≠ p) (bp : b ≠ p) (pap : pa ≠ p) (pbp : pb ≠ p) =>
    make_cnt 114 #[.pointer (some ⟨p, 0, none⟩), .pointer (some ⟨q, 0, none⟩), .pointer (some ⟨pa, 0, none⟩), .pointer (some ⟨pb, 0, none⟩)] p (fun x y => ditA seed s x y (l.getD (cellNo X Y Wn x y).toNat 0)) X Y Wn Hn w1 (by omega) (by omega) (by omega) (by omega) (by omega) (by omega) (by omega) (by omega)
      (enters_of Tryz.func114 (by kernel_rfl) rfl) hp (fun x y => ditF_lt _ _ _)
      (fun i j k hi hj hk W' hb' hcnt => by
        have hpl := hp.lt
        have hpl' := hcnt.lt
        have e := cell_ij (X := X) (Y := Y) hk
        have hkl : k < l.length := by rw [hr.len]; exact cell_lt hi hj hk
        show Calls Tryz.prog _ _ W' fun e w' => e = .returned (.float .f32 (ditA seed s (X + (i : Int)) (Y + (j : Int)) (l.getD (cellNo X Y Wn (X + (i : Int)) (Y + (j : Int))).toNat 0))) ∧ _
        rw [e]
        exact dithfn_any seed s (X + (i : Int)) (Y + (j : Int)) p q b o c pa pb k X Y Wn Hn l W' ⟨hcnt, hq.but hb' hq.lt qp, SRow.but hl1 hb' (SRow.blt hl1 hr.pos) bp, qp, bp, hkl, by have := hb'.size; have := SRow.blt hl1 hr.pos; omega⟩ (hr.bd k) hT (ha.but hb' ha.lt pap) (hb.but hb' hb.lt pbp) pap pbp))
  have KR := Lib.hid (fun X1 Y1 W1 H1 g cap B w ho => result_any X1 Y1 W1 H1 g cap B (addL (ditA seed s) X Y Wn Hn l) w ho (addL_small (ditA seed s) hr))
  change Hid (∀ p q pa pb w1 (hl1 : SRow w1 (some ⟨b, o, none⟩) l) (hq : Fld w1 q X Y Wn Hn (.slice (some ⟨b, o, none⟩) l.length c)) (ha : Blk w1 pa #[.float .f32 s] 46) (hb : Blk w1 pb #[.int .u32 seed] 45) (hp : CntAt w1 p (-1)) (qp : q ≠ p) (bp : b ≠ p) (pap : pa ≠ p) (pbp : pb ≠ p),
    Calls Tryz.prog 69 #[reg X Y Wn Hn, .func (.func 114) #[] #[.pointer (some ⟨p, 0, none⟩), .pointer (some ⟨q, 0, none⟩), .pointer (some ⟨pa, 0, none⟩), .pointer (some ⟨pb, 0, none⟩)]] w1 fun e w' => MakeCP p X Y Wn Hn (addL (ditA seed s) X Y Wn Hn l) w1 e w') at KM
  clear hl hr hs hz hT g1 g2 g3 g4 g5 g6 g7 g8
  generalize addL (ditA seed s) X Y Wn Hn l = S at *
  generalize resC S = C at *
  go_enter Tryz.func78, Tryz.ntmps78
  go_wp2_with fail
  generalize hW0 : (((w.alloc (.cells #[.int .i64 X, .int .i64 Y, .int .i64 Wn, .int .i64 Hn, .slice (some ⟨b, o, none⟩) l.length c] 78)).alloc (.cells #[.int .u32 seed] 45)).alloc (.cells #[.float .f32 s] 46)).alloc (.cells #[.int .i64 0, .int .i64 0, .int .i64 0, .int .i64 0, .slice none 0 0] 78) = W0 at *
  obtain ⟨E0, P0, Q0, F0, B0⟩ := box_fd w X Y Wn Hn (.slice (some ⟨b, o, none⟩) l.length c) #[.int .u32 seed] 45 #[.float .f32 s] 46 W0 hW0.symm
  clear hW0
  refine (K.out _ (HL.out.below B0)).mono ?_
  rintro e w1 ⟨rfl, b1⟩
  have HE1 := Lib.hid (E0.below b1 E0.lt)
  have HP1 := Lib.hid (P0.below b1 P0.lt)
  have HQ1 := Lib.hid (Q0.below b1 Q0.lt)
  have HF1 := Lib.hid (F0.below b1 F0.lt)
  have HL1 := Lib.hid ((HL.out.below B0).below b1)
  have HB1 := Lib.hid (B0.trans (b1.mono B0.size))
  clear b1 B0 F0 E0 P0 Q0 K HL
  have p1 : w1.cell? ⟨w.heap.size + 1 + 1, 0, none⟩ = some (.float .f32 s) := HQ1.out.cell 0
  have l3 : w.heap.size + 1 + 1 + 1 < w1.heap.size := HF1.out.lt
  have l2 : w.heap.size + 1 + 1 < w1.heap.size := by omega
  go_wp2_with fail
  refine (KC.out _).mono ?_
  rintro e w2 ⟨rfl, b2⟩
  have HE2 := Lib.hid (HE1.out.below b2 HE1.out.lt)
  have HP2 := Lib.hid (HP1.out.below b2 HP1.out.lt)
  have HQ2 := Lib.hid (HQ1.out.below b2 HQ1.out.lt)
  have HF2 := Lib.hid (HF1.out.below b2 HF1.out.lt)
  have HL2 := Lib.hid (HL1.out.below b2)
  have HB2 := Lib.hid (HB1.out.trans (b2.mono HB1.out.size))
  clear b2 p1 l3 l2 HE1 HP1 HQ1 HF1 HL1 HB1
  have l3 : w.heap.size + 1 + 1 + 1 < w2.heap.size := HF2.out.lt
  obtain ⟨c0, c1, c2, c3, c4⟩ := HE2.out.cells
  have l0 := HE2.out.lt
  go_wp2_with fail
  generalize hW3 : w2.alloc (.cells #[.int .i64 (-1)] 3) = W3 at *
  obtain ⟨n3, B3, z3⟩ := cnt_world1 w2 W3 hW3.symm
  clear hW3
  have HE3 := Lib.hid (HE2.out.below B3 HE2.out.lt)
  have HP3 := Lib.hid (HP2.out.below B3 HP2.out.lt)
  have HQ3 := Lib.hid (HQ2.out.below B3 HQ2.out.lt)
  have HF3 := Lib.hid (HF2.out.below B3 HF2.out.lt)
  have HL3 := Lib.hid (HL2.out.below B3)
  have HB3 := Lib.hid (HB2.out.trans (B3.mono HB2.out.size))
  refine (KM.out _ _ _ _ _ HL3.out HE3.out HQ3.out HP3.out n3 (by omega) (by have := HBL.out; omega) (by omega) (by omega)).mono ?_
  rintro e w4 ⟨⟨g, cap, rfl, ho⟩, b4⟩
  have HF4 := Lib.hid (HF3.out.below b4 (by omega))
  have HB4 := Lib.hid (HB3.out.trans (b4.mono (by omega)))
  have HO4 := Lib.hid ho
  have HZ3 : Hid (w.heap.size + 1 + 1 + 1 < W3.heap.size) := HF3.out.lt
  clear ho b4 KM HE3 HP3 HQ3 HL3 HB3 B3 n3 z3 HF3 HE2 HP2 HQ2 HF2 HL2 HB2 c0 c1 c2 c3 c4 l0 l3
  go_wp2_with fail
  refine (KR.out _ _ _ _ _ _ _ _ HO4.out).mono ?_
  rintro e w7 ⟨⟨x, y, p, q, a, m, k, rfl, o7⟩, b7⟩
  have HOZ := Lib.hid o7
  have HFZ := Lib.hid (HF4.out.below b7 HF4.out.lt)
  have HBZ := Lib.hid (HB4.out.trans (b7.mono HB4.out.size))
  have HZB : Hid (w.heap.size + 1 + 1 + 1 < W3.heap.size) := HZ3.out
  have HBB : Hid (w.heap.size ≤ W3.heap.size) := by have := HZB.out; unfold Hid; omega
  clear o7 b7 KR HO4 HF4 HB4
  obtain ⟨d0, d1, d2, d3, d4⟩ := HFZ.out.cells
  have qf0 := HFZ.out.frozen 0
  have qf1 := HFZ.out.frozen 1
  have qf2 := HFZ.out.frozen 2
  have qf3 := HFZ.out.frozen 3
  have qf4 := HFZ.out.frozen 4
  have lz := HFZ.out.lt
  go_wp2_with fail
  generalize hW5 : ((((w7.setCell ⟨w.heap.size + 1 + 1 + 1, 0, none⟩ (.int .i64 x)).setCell ⟨w.heap.size + 1 + 1 + 1, 1, none⟩ (.int .i64 y)).setCell ⟨w.heap.size + 1 + 1 + 1, 2, none⟩ (.int .i64 p)).setCell ⟨w.heap.size + 1 + 1 + 1, 3, none⟩ (.int .i64 q)).setCell ⟨w.heap.size + 1 + 1 + 1, 4, none⟩ (.slice a m k) = W5 at *
  obtain ⟨f5, bb5, oo5, _, z5⟩ := fld_store w7 (w.heap.size + 1 + 1 + 1) 0 0 0 0 _ x y p q (.slice a m k) HFZ.out W5 hW5.symm
  have hO5 := (HOZ.out.set oo5 HZB.out).base HBB.out
  have hB5 := HBZ.out.trans (bb5.mono (by omega))
  clear d0 d1 d2 d3 d4 qf0 qf1 qf2 qf3 qf4 hW5 oo5
  obtain ⟨d0, d1, d2, d3, d4⟩ := f5.cells
  exact bodyPost_ret (v := .tuple #[fldV x y p q a m k, .int .i64 C]) (by simp [results, Tryz.results78, go_sem, *]) rfl ⟨⟨x, y, p, q, a, m, k, rfl, hO5⟩, hB5⟩
end Go.Proofs.YtimhpmccmafnpaaGreat


namespace Ieee
namespace Format
open Go

/-- 'float32(n)' of any integer -/
theorem conv_rounds (n : Int) : single.Rounds (n : Rat) (decide (n < 0)) (floatOfInt .f32 n) := by
  have e : sg (decide (n < 0)) * (((n.natAbs : Nat) : Rat) * P2 0) = (n : Rat) := by
    rw [P2_zero, Rat.mul_one]
    by_cases c : n < 0
    · have e : ((n.natAbs : Nat) : Rat) = -((n : Int) : Rat) := by
        rw [← Rat.intCast_natCast, show (n.natAbs : Int) = -n from by omega, Rat.intCast_neg]
      rw [e]; simp [c, sg]; grind
    · have e : ((n.natAbs : Nat) : Rat) = ((n : Int) : Rat) := by
        rw [← Rat.intCast_natCast, show (n.natAbs : Int) = n from by omega]
      rw [e]; simp [c, sg]
  exact single.write_rounds single_fb (decide (n < 0)) n.natAbs 0 e
theorem conv_big {n : Int} {k : Nat} (hk : k ≤ 100) (h1 : -((2 ^ k : Nat) : Int) ≤ n) (h2 : n ≤ ((2 ^ k : Nat) : Int)) : Bd k (floatOfInt .f32 n) := by
  have r := conv_rounds n
  have e : P2 k = (((2 ^ k : Nat) : Int) : Rat) := by rw [P2_nat, Rat.intCast_natCast]
  refine r.bd hk ?_ ?_
  · rw [e]; exact Rat.intCast_le_intCast.2 h2
  · rw [e, ← Rat.intCast_neg]; exact Rat.intCast_le_intCast.2 h1
theorem conv_nonneg {n : Int} {k : Nat} (hk : k ≤ 100) (h1 : 0 ≤ n) (h2 : n ≤ ((2 ^ k : Nat) : Int)) : 0 ≤ single.V (floatOfInt .f32 n) := by
  have h0 : (0 : Int) ≤ ((2 ^ k : Nat) : Int) := by omega
  exact (conv_rounds n).nonneg (conv_big hk (by omega) h2).1 (Rat.intCast_nonneg.2 h1)
/-- exact up to 2^24 itself -/
theorem conv_24 {n : Int} (h1 : 1 ≤ n) (h2 : n ≤ 16777216) : single.fin (floatOfInt .f32 n) ∧ single.V (floatOfInt .f32 n) = (n : Rat) ∧ single.sgn (floatOfInt .f32 n) = false := by
  have d : decide (n < 0) = false := decide_eq_false (by omega)
  have r := conv_rounds n
  rw [d] at r
  by_cases c : n = 16777216
  · subst c
    exact r.exact 1 24 (by decide) (by decide) (by decide) (by decide) (by rw [show P2 24 = ((2 ^ 24 : Nat) : Rat) from P2_nat 24]; decide +kernel)
  · exact r.exact n 0 (by omega) (by omega) (by decide) (by decide) (by rw [P2_zero, Rat.mul_one])
end Format
end Ieee




namespace Go.Proofs.YtimhpmccmafnpaaGreat
open Go.ChangeShapes Go.WideShapes Go.ChangeAt Go.RowKit
open Ieee.Format (fin finE htE allFin allHt all_true all_false mulF subF addF Ht Bd divF rootF floorF easeF mixF)
set_option linter.unusedVariables false

/-! ### Fill -/
theorem MakeP.outw {X Y W H : Int} {m : List Nat} {w : World} {e : Ending} {w' : World} (h : MakeP X Y W H m w e w') : (∃ x y p q a n k, e = .returned (fldV x y p q a n k) ∧ OutV 0 X Y W H m w' w.heap.size x y p q a n k) ∧ Below w.heap.size w w' := by
  obtain ⟨⟨g, cap, he, ho⟩, hb⟩ := h
  exact ⟨⟨X, Y, W, H, _, _, cap, he, .inr ⟨rfl, rfl, rfl, rfl, rfl, g, rfl, rfl, ho⟩⟩, hb⟩
theorem fillfn_any (h : Nat) (x y : Int) (p : Nat) (w : World) (hp : Blk w p #[.float .f32 h] 46) :
    Calls Tryz.prog 70 #[.int .i64 x, .int .i64 y, .pointer (some ⟨p, 0, none⟩)] w fun e w' => e = .returned (.float .f32 h) ∧ Below w.heap.size w w' := by
  have c0 : w.cell? ⟨p, 0, none⟩ = some (.float .f32 h) := hp.cell 0
  have l0 := hp.lt
  clear hp
  go_enter Tryz.func70, Tryz.ntmps70
  go_wp2_with fail
  go_ret
  exact ⟨rfl, (by repeat (first | with_reducible exact Below.refl _ _ | with_reducible apply Below.drew | with_reducible refine below_drewN ?_ _ | (with_reducible refine Below.setCell ?_ ?_ _; rotate_left; focus (first | omega | (simp <;> omega))) | (with_reducible refine Below.alloc ?_ ?_ _; rotate_left; focus (first | omega | (simp <;> omega)))))⟩
/-- the error of Fill -/
def fillE (X Y W H : Int) (h : Nat) : Int := if chk X Y W H ≠ 0 then chk X Y W H else htE [h]

theorem box_rg (w : World) (X Y W H : Int) (c1 : Array Value) (t1 : TypeId) : ∀ W0, W0 = ((w.alloc (.cells #[.int .i64 X, .int .i64 Y, .int .i64 W, .int .i64 H] 33)).alloc (.cells c1 t1)).alloc (.cells #[.int .i64 0, .int .i64 0, .int .i64 0, .int .i64 0, .slice none 0 0] 78) →
    Reg W0 w.heap.size X Y W H ∧ Blk W0 (w.heap.size + 1) c1 t1 ∧ Fld W0 (w.heap.size + 1 + 1) 0 0 0 0 (.slice none 0 0) ∧ Below w.heap.size w W0 := by
  rintro _ rfl
  refine ⟨((Reg.new w X Y W H).alloc _).alloc _, ?_, ?_, (by repeat (first | with_reducible exact Below.refl _ _ | with_reducible apply Below.drew | with_reducible refine below_drewN ?_ _ | (with_reducible refine Below.setCell ?_ ?_ _; rotate_left; focus (first | omega | (simp <;> omega))) | (with_reducible refine Below.alloc ?_ ?_ _; rotate_left; focus (first | omega | (simp <;> omega)))))⟩
  · have := (Blk.new (w.alloc (.cells #[.int .i64 X, .int .i64 Y, .int .i64 W, .int .i64 H] 33)) c1 t1).alloc (.cells #[.int .i64 0, .int .i64 0, .int .i64 0, .int .i64 0, .slice none 0 0] 78)
    simpa using this
  · have := Fld.new ((w.alloc (.cells #[.int .i64 X, .int .i64 Y, .int .i64 W, .int .i64 H] 33)).alloc (.cells c1 t1)) 0 0 0 0 (.slice none 0 0)
    simpa using this

/-- a field of one value -/
def fillL (h : Nat) (X Y : Int) (A B : Nat) : List Nat := madeL (fun _ _ => h) X Y A (B * A)
set_option maxRecDepth 100000 in
set_option maxHeartbeats 1000000 in
theorem fill_ok (X Y : Int) (A B h : Nat) (w : World) (hh : h < 4294967296) (hz : fillE X Y A B h = 0) :
    Calls Tryz.prog 43 #[reg X Y A B, .float .f32 h] w fun e w' => OpP 0 X Y A B (fillL h X Y A B) w e w' := by
  have K := Lib.hid (fun w => check1 X Y A B w)
  have KC := Lib.hid (fun W g h0 => heights_one W g h hh h0)
  have hc : chk X Y A B = 0 := by
    unfold fillE at hz
    split at hz
    · exact hz
    · omega
  have h1 : htE [h] = 0 := by
    unfold fillE at hz
    rwa [if_neg (by omega)] at hz
  rw [hc] at K
  rw [h1] at KC
  obtain ⟨g1, g2, g3, g4, g5, g6, g7, g8, _⟩ := chk_zero hc
  have KM := Lib.hid (fun pa w1 (ha : Blk w1 pa #[.float .f32 h] 46) => (make_any 70 #[.pointer (some ⟨pa, 0, none⟩)] (fun _ _ => h) X Y A B w1 (by omega) (by omega) (by omega) (by omega) (by omega) (by omega) (by omega) (by omega)
    (enters_of Tryz.func70 (by kernel_rfl) rfl) (fun x y _ _ _ _ => hh) (fun x y _ _ _ _ W' hb' => fillfn_any h x y pa W' (ha.below hb' ha.lt))).mono fun e w' h => MakeP.outw h)
  change Hid (∀ pa w1 (ha : Blk w1 pa #[.float .f32 h] 46), Calls Tryz.prog 69 #[reg X Y A B, .func (.func 70) #[] #[.pointer (some ⟨pa, 0, none⟩)]] w1 fun e w' => (∃ x y pp q a n k, e = .returned (fldV x y pp q a n k) ∧ OutV 0 X Y A B (fillL h X Y A B) w' w1.heap.size x y pp q a n k) ∧ Below w1.heap.size w1 w') at KM
  clear hz hc h1 hh g1 g2 g3 g4 g5 g6 g7 g8
  generalize fillL h X Y A B = S at *
  go_enter Tryz.func43, Tryz.ntmps43
  go_wp2_with fail
  generalize hW0 : ((w.alloc (.cells #[.int .i64 X, .int .i64 Y, .int .i64 (A : Int), .int .i64 (B : Int)] 33)).alloc (.cells #[.float .f32 h] 46)).alloc (.cells #[.int .i64 0, .int .i64 0, .int .i64 0, .int .i64 0, .slice none 0 0] 78) = W0 at *
  obtain ⟨E0, P0, F0, B0⟩ := box_rg w X Y (A : Int) (B : Int) #[.float .f32 h] 46 W0 hW0.symm
  clear hW0
  refine (K.out _).mono ?_
  rintro e w1 ⟨rfl, b1⟩
  have HE1 := Lib.hid (E0.below b1 E0.lt)
  have HP1 := Lib.hid (P0.below b1 P0.lt)
  have HF1 := Lib.hid (F0.below b1 F0.lt)
  have HB1 := Lib.hid (B0.trans (b1.mono B0.size))
  clear b1 B0 F0 E0 P0 K
  have p1 : w1.cell? ⟨w.heap.size + 1, 0, none⟩ = some (.float .f32 h) := HP1.out.cell 0
  have l2 : w.heap.size + 1 + 1 < w1.heap.size := HF1.out.lt
  have l1 : w.heap.size + 1 < w1.heap.size := by omega
  go_wp2_with fail
  have HS := Lib.hid ((Below.refl w1.heap.size w1).alloc (Nat.le_refl _) (.cells #[.float .f32 h] 46))
  refine (KC.out _ _ (by simp [go_sem])).mono ?_
  rintro e w2 ⟨rfl, rfl⟩
  have HE2 := Lib.hid (HE1.out.below HS.out HE1.out.lt)
  have HP2 := Lib.hid (HP1.out.below HS.out HP1.out.lt)
  have HF2 := Lib.hid (HF1.out.below HS.out HF1.out.lt)
  have HB2 := Lib.hid (HB1.out.trans (HS.out.mono HB1.out.size))
  generalize w1.alloc (.cells #[.float .f32 h] 46) = w2 at *
  clear p1 l2 l1 HE1 HP1 HF1 HB1 HS
  have l3 : w.heap.size + 1 + 1 < w2.heap.size := HF2.out.lt
  obtain ⟨c0, c1, c2, c3⟩ := HE2.out.cells
  have l0 := HE2.out.lt
  go_wp2_with fail
  generalize h = hv at *
  refine (KM.out _ _ HP2.out).mono ?_
  rintro e w7 ⟨⟨x, y, p, q, a, m, k, rfl, o7⟩, b7⟩
  have HOZ := Lib.hid o7
  have HFZ := Lib.hid (HF2.out.below b7 HF2.out.lt)
  have HBZ := Lib.hid (HB2.out.trans (b7.mono HB2.out.size))
  have HZB : Hid (w.heap.size + 1 + 1 < w2.heap.size) := HF2.out.lt
  have HBB : Hid (w.heap.size ≤ w2.heap.size) := HB2.out.size
  clear o7 b7 KM HE2 HP2 HF2 HB2 c0 c1 c2 c3 l0 l3
  obtain ⟨d0, d1, d2, d3, d4⟩ := HFZ.out.cells
  have qf0 := HFZ.out.frozen 0
  have qf1 := HFZ.out.frozen 1
  have qf2 := HFZ.out.frozen 2
  have qf3 := HFZ.out.frozen 3
  have qf4 := HFZ.out.frozen 4
  have lz := HFZ.out.lt
  go_wp2_with fail
  generalize hW5 : ((((w7.setCell ⟨w.heap.size + 1 + 1, 0, none⟩ (.int .i64 x)).setCell ⟨w.heap.size + 1 + 1, 1, none⟩ (.int .i64 y)).setCell ⟨w.heap.size + 1 + 1, 2, none⟩ (.int .i64 p)).setCell ⟨w.heap.size + 1 + 1, 3, none⟩ (.int .i64 q)).setCell ⟨w.heap.size + 1 + 1, 4, none⟩ (.slice a m k) = W5 at *
  obtain ⟨f5, bb5, oo5, _, z5⟩ := fld_store w7 (w.heap.size + 1 + 1) 0 0 0 0 _ x y p q (.slice a m k) HFZ.out W5 hW5.symm
  have hO5 := (HOZ.out.set oo5 HZB.out).base HBB.out
  have hB5 := HBZ.out.trans (bb5.mono (by omega))
  clear d0 d1 d2 d3 d4 qf0 qf1 qf2 qf3 qf4 hW5 oo5
  obtain ⟨d0, d1, d2, d3, d4⟩ := f5.cells
  exact bodyPost_ret (v := .tuple #[fldV x y p q a m k, .int .i64 0]) (by simp [results, Tryz.results43, go_sem, *]) rfl ⟨⟨x, y, p, q, a, m, k, rfl, hO5⟩, hB5⟩
end Go.Proofs.YtimhpmccmafnpaaGreat

namespace Go.Proofs.YtimhpmccmafnpaaGreat
open Go.ChangeShapes Go.WideShapes Go.ChangeAt Go.RowKit
open Ieee.Format (fin finE htE allFin allHt all_true all_false mulF subF addF Ht Bd divF rootF floorF easeF mixF)
set_option linter.unusedVariables false
open Ieee.Format (const_0 const_1 mulF_spec addF_spec subF_spec divF_spec)

/-! ### what a small flat field becomes -/
abbrev l9 : List Nat := [0, 0, 0, 0, 0, 0, 0, 0, 0]
theorem fill9 : fillL 0 0 0 3 3 = l9 := by rfl
theorem right9 : Right 0 0 3 3 l9 := by
  refine ⟨by decide, by decide, by decide, by decide, by decide, by decide, by decide, by decide, by decide, ?_, ?_⟩
  · rfl
  · decide
theorem V_zero {x : Rat} {s : Bool} {w : Nat} (h : Ieee.single.Rounds x s w) (hx : x = 0) : fin Ieee.single w ∧ Ieee.single.V w = 0 := by
  obtain ⟨a, b, _⟩ := Ieee.Format.Rounds.exact h 0 0 (by decide) (by decide) (by decide) (by decide) (by rw [hx]; simp)
  exact ⟨a, by rw [b, hx]⟩
theorem ht_zero {w : Nat} (h : Ieee.single.V w = 0) : Ht w := by
  have p := Ieee.P2_pos 20
  exact Ieee.Format.Ht.of ⟨by rw [h]; grind, by rw [h]; grind⟩
theorem res_of {m : List Nat} (h : ∀ x ∈ m, Ht x) : resC m = 0 := by
  unfold resC
  rw [if_pos (Ieee.Format.allHt_iff.2 h)]
theorem ter1_zero {s h : Nat} (hT : TerOk s h) : fin Ieee.single (ter1 s 0) ∧ Ieee.single.V (ter1 s 0) = 0 := by
  have p := Ieee.P2_pos (-10)
  have h1 := hT.st1
  have r := (divF_spec const_0.1 hT.st.1 (by grind)).2
  exact V_zero r (by rw [const_0.2.1]; grind)
theorem ter_flat {s h : Nat} (hT : TerOk s h) : Ht (terF s h 0) := by
  obtain ⟨f1, v1⟩ := ter1_zero hT
  have l1 : ter1 s 0 < 4294967296 := Ieee.Format.divF_lt _ _
  obtain ⟨v2, v3⟩ := Ieee.Format.frac_zero (n := 0) f1 l1 (by rw [v1]; rfl)
  have hv : Bd 20 0 := Ieee.Format.Ht.bd (ht_zero const_0.2.1)
  obtain ⟨_, b2, b3, _, b5, f6, n6, b8, b9, _, _⟩ := ter_bd hT hv
  have v2 : Ieee.single.V (ter2 s 0) = 0 := by unfold ter2; rw [v2]; rfl
  unfold terF
  cases hc : lss (ter3 s 0) h with
  | true =>
    rw [if_pos rfl]
    exact ht_zero (V_zero (mulF_spec b2.1 hT.st.1).2 (by rw [v2]; grind)).2
  | false =>
    rw [if_neg (by decide)]
    rw [lss_V b3.1 hT.sh] at hc
    have hc := of_decide_eq_false hc
    have s0 := hT.sh0
    have vs : Ieee.single.V h = 0 := by
      have e : Ieee.single.V (ter3 s 0) = 0 := v3
      grind
    have w5 := (V_zero (subF_spec b3.1 hT.sh).2 (by rw [show Ieee.single.V (ter3 s 0) = 0 from v3, vs]; grind)).2
    have w8 : Ieee.single.V (ter4 s h 0) = 0 := (V_zero (divF_spec b5.1 f6 n6).2 (by rw [w5]; grind)).2
    have w9 := (V_zero (addF_spec b2.1 b8.1).2 (by rw [v2, w8]; grind)).2
    exact ht_zero (V_zero (mulF_spec b9.1 hT.st.1).2 (by rw [w9]; grind)).2
theorem ter_res {s h : Nat} (hz : terC s h = 0) : resC (l9.map (terF s h)) = 0 := by
  refine res_of fun x hx => ?_
  have := ter_flat (ter_zero hz).2.2.2.2
  simp at hx
  rw [hx]; exact this
theorem dit_flat {s u : Nat} (hT : TerOk s 0) : Ht (ditF s 0 u) := by
  obtain ⟨f1, v1⟩ := ter1_zero hT
  have l1 : ter1 s 0 < 4294967296 := Ieee.Format.divF_lt _ _
  obtain ⟨v2, v3⟩ := Ieee.Format.frac_zero (n := 0) f1 l1 (by rw [v1]; rfl)
  have hv : Bd 20 0 := Ieee.Format.Ht.bd (ht_zero const_0.2.1)
  have hd := dit_ok hT hv
  have v2 : Ieee.single.V (ter2 s 0) = 0 := by unfold ter2; rw [v2]; rfl
  unfold ditF
  split
  · have p0 : Bd 0 (ter2 s 0) := ⟨hd.a2, by rw [v2]; have := Ieee.P2_pos 0; constructor <;> grind⟩
    have b := (p0.add (Ieee.Format.one_Bd 0) (by omega)).mul hT.st (by omega)
    have p := Ieee.P2_mono (show ((0 + 1 + 10 : Nat) : Int) ≤ 20 by omega)
    exact Ieee.Format.Ht.of ⟨by have := b.2.1; grind, by have := b.2.2; grind⟩
  · exact ht_zero (V_zero (mulF_spec hd.a2 hT.st.1).2 (by rw [v2]; grind)).2
theorem l9_getD (k : Nat) : l9.getD k 0 = 0 := by
  match k with
  | 0 | 1 | 2 | 3 | 4 | 5 | 6 | 7 | 8 => rfl
  | n + 9 => rfl
theorem dit_res {s : Nat} (seed : Int) (hz : dithE s = 0) : resC (addL (ditA seed s) 0 0 3 3 l9) = 0 := by
  refine res_of fun x hx => ?_
  unfold addL madeL at hx
  obtain ⟨k, _, rfl⟩ := List.mem_map.1 hx
  show Ht (ditA _ _ _ _ (l9.getD _ 0))
  rw [l9_getD]
  exact dit_flat (dith_zero hz)
theorem shade_flat {a b c m : Nat} (hL : LightOk a b c m) : Ht (shadeF a b c m 0 0 0 0 0) := by
  have hv : Bd 20 0 := Ieee.Format.Ht.bd (ht_zero const_0.2.1)
  have e1 : Bd 0 (Ieee.Format.nxF 0 0 0 0) := by
    obtain ⟨_, _, _, _, _, h1, h2⟩ := Ieee.Format.slope_bd hv hv hv hv
    have g1 := V_zero (subF_spec const_0.1 const_0.1).2 (by rw [const_0.2.1]; grind)
    have g2 := V_zero (mulF_spec g1.1 Ieee.Format.const_half.1).2 (by rw [g1.2]; grind)
    have l2 := Ieee.Format.gradF_lt 0 0
    have g3 : Ieee.single.V (Ieee.Format.negF (Ieee.Format.gradF 0 0)) = 0 := by
      rw [Ieee.Format.negF_V l2]
      have : Ieee.single.V (Ieee.Format.gradF 0 0) = 0 := g2.2
      rw [this]; rfl
    have g4 := V_zero (divF_spec (Ieee.Format.negF_fin l2 g2.1) h1.1 (by grind)).2 (by rw [g3]; grind)
    have p := Ieee.P2_pos 0
    exact ⟨g4.1, by
      have : Ieee.single.V (Ieee.Format.nxF 0 0 0 0) = 0 := g4.2
      rw [this]; constructor <;> grind⟩
  have e2 : Bd 0 (Ieee.Format.nyF 0 0 0 0) := e1
  obtain ⟨_, _, _, _, e3⟩ := Ieee.Format.normal_bd hv hv hv hv
  have x := e1.mul hL.a (by omega)
  have y := e2.mul hL.b (by omega)
  have z := e3.mul hL.c (by omega)
  have xy := x.add y (by omega)
  have xyz := xy.add (z.mono (show 0 + 10 ≤ 0 + 10 + 1 by omega)) (by omega)
  have q := Ieee.Format.div_one xyz hL.m hL.m1 (by omega)
  have p := Ieee.P2_mono (show ((0 + 10 + 1 + 1 : Nat) : Int) ≤ 20 by omega)
  unfold shadeF
  split
  · exact Ieee.Format.Ht.of ⟨by have := q.2.1; unfold Ieee.Format.shade2 Ieee.Format.shade1; grind, by have := q.2.2; unfold Ieee.Format.shade2 Ieee.Format.shade1; grind⟩
  · exact ht_zero const_0.2.1
theorem shade_res {x y z : Int} (hz : lightE x y z = 0) : resC (innerL (shadeF (cv x) (cv y) (cv z) (rootF (cv (x * x + y * y + z * z)))) 0 0 3 3 l9) = 0 := by
  refine res_of fun v hv => ?_
  unfold innerL madeL nbr at hv
  obtain ⟨k, _, rfl⟩ := List.mem_map.1 hv
  simp only [l9_getD]
  exact shade_flat (light_ok hz).1
end Go.Proofs.YtimhpmccmafnpaaGreat

namespace Go
/-! ### a region whose last operations store into what it loads: S is asked behind the operations ahead of them alone -/
section
variable {P : Program} {ops : Array Oper} {Q : Exit → Act → World → Prop} {md : Region.Mode} {S : World → Prop} {n : Nat}
/-- whatever comes up; S holds behind each operation ahead of number n -/
def wpAnyT (P : Program) (md : Region.Mode) (ops : Array Oper) (Q : Exit → Act → World → Prop) (S : World → Prop) (n : Nat) : Nat → Array Bool → Act → World → Prop
  | 0, listed, a, w => Region.ready md ops listed = [] ∧ Q .normal a w
  | fuel + 1, listed, a, w =>
    (Region.ready md ops listed = [] → Q .normal a w) ∧
    ∀ i ∈ Region.ready md ops listed, wpOp P ops Q i (fun a' w' => (i < n → S w') ∧ wpAnyT P md ops Q S n fuel (listed.setIfInBounds i true) a' w') a w
theorem wpAny_ofT : ∀ (fuel : Nat) (listed : Array Bool) (a : Act) (w : World), wpAnyT P md ops Q S n fuel listed a w → wpAny P md ops Q fuel listed a w
  | 0, _, _, _, h => h
  | fuel + 1, _, _, _, h => ⟨h.1, fun i hi => wpOp_mono (fun a' w' h' => wpAny_ofT fuel _ a' w' h'.2) (h.2 i hi)⟩
/-- no number from n on comes up ahead of number i: each of D waits for i or for one of D, none of them has come up -/
def sinkAt (md : Region.Mode) (ops : Array Oper) (n i : Nat) (D : List Nat) (listed : Array Bool) : Bool :=
  ((List.range ops.size).all fun j => if n ≤ j then D.contains j else true) && (D.all fun j => match ops[j]? with | some o => o.after.any fun e => Region.binds md e && (i :: D).contains e.on | none => true) && ((i :: D).all fun k => listed.getD k true == false)
theorem sinkAt_spec {i : Nat} {D : List Nat} {listed : Array Bool} (h : sinkAt md ops n i D listed = true) :
    (∀ j, j < ops.size → n ≤ j → j ∈ D) ∧ (∀ j ∈ D, ∀ oj, ops[j]? = some oj → ∃ e ∈ oj.after, Region.binds md e = true ∧ e.on ∈ i :: D) ∧ (∀ k ∈ i :: D, listed.getD k true = false) := by
  unfold sinkAt at h
  rw [Bool.and_eq_true, Bool.and_eq_true] at h
  obtain ⟨⟨h1, h2⟩, h3⟩ := h
  refine ⟨fun j hj hn => ?_, fun j hj oj hoj => ?_, fun k hk => ?_⟩
  · have := List.all_eq_true.1 h1 j (List.mem_range.2 hj)
    rw [if_pos hn] at this
    simpa using this
  · have := List.all_eq_true.1 h2 j hj
    rw [hoj] at this
    simp only at this
    obtain ⟨k, hk, h4⟩ := Array.any_eq_true.1 this
    rw [Bool.and_eq_true] at h4
    exact ⟨_, Array.getElem_mem hk, h4.1, by simpa using h4.2⟩
  · have := List.all_eq_true.1 h3 k hk
    simpa using this
theorem not_ready {i : Nat} {D : List Nat} {listed : Array Bool} (h1 : ∀ j ∈ D, ∀ oj, ops[j]? = some oj → ∃ e ∈ oj.after, Region.binds md e = true ∧ e.on ∈ i :: D) (h2 : ∀ k ∈ i :: D, listed.getD k true = false)
    {j : Nat} (hj : j ∈ Region.ready md ops listed) : j ∉ D := fun hD => by
  obtain ⟨_, oj, hoj, hall⟩ := mem_ready.1 hj
  obtain ⟨e, he, hb, hon⟩ := h1 j hD oj hoj
  have a := hall e he hb
  have b := h2 _ hon
  rcases Nat.lt_or_ge e.on listed.size with h' | h'
  · simp [h'] at a b; rw [b] at a; cases a
  · simp [Array.getElem?_eq_none h'] at a
theorem wpAnyT_first {i : Nat} {oi : Oper} {v : Value} (hi : ops[i]? = some oi) (hsel : ∀ (j : Nat) (o : Oper) cs b, ops[j]? = some o → o.op ≠ .select cs b)
    (hQ : ∀ c a w, Q (.panic c) (a.put oi.dst v) w → Q (.panic c) a w) {D : List Nat} (hn1 : ∀ j, j < ops.size → n ≤ j → j ∈ D) (hn2 : ∀ j ∈ D, ∀ oj, ops[j]? = some oj → ∃ e ∈ oj.after, Region.binds md e = true ∧ e.on ∈ i :: D) :
    ∀ (fuel : Nat) (listed : Array Bool) (a : Act) (w : World), (∀ k ∈ i :: D, listed.getD k true = false) →
      (∀ j oj, ops[j]? = some oj → j ≠ i → listed.getD j true = false → (∀ e ∈ oj.after, Region.binds md e = true → e.on ≠ i) → oi.apart ops oj = true) →
      i ∈ Region.ready md ops listed → YieldsIf P ops S oi v a → S w →
      wpAnyT P md ops Q S n fuel (listed.setIfInBounds i true) (a.put oi.dst v) w → wpAnyT P md ops Q S n (fuel + 1) listed a w := by
  intro fuel
  induction fuel with
  | zero =>
    intro listed a w _ _ hr hy hS H
    refine ⟨fun h => (by rw [h] at hr; cases hr), fun j hj => ?_⟩
    by_cases hji : j = i
    · subst hji; exact hy.wpOp hi hS ⟨fun _ => hS, H⟩
    · have := ready_mono hj hji
      rw [H.1] at this
      cases this
  | succ fuel ih =>
    intro listed a w hun hfree hr hy hS H
    refine ⟨fun h => (by rw [h] at hr; cases hr), fun j hj => ?_⟩
    by_cases hji : j = i
    · subst hji; exact hy.wpOp hi hS ⟨fun _ => hS, H⟩
    · have h1 := H.2 j (ready_mono hj hji)
      obtain ⟨hjun, oj, hoj, hall⟩ := mem_ready.1 hj
      have hnot : ∀ e ∈ oj.after, Region.binds md e = true → e.on ≠ i := fun e he hb heq => by
        have h1 := hall e he hb
        have h0 := (mem_ready.1 hr).1
        rw [heq] at h1
        rcases Nat.lt_or_ge i listed.size with h' | h'
        · simp [h'] at h0 h1; rw [h0] at h1; cases h1
        · simp [Array.getElem?_eq_none h'] at h1
      have hjD := not_ready hn2 hun hj
      have hjn : j < n := by
        rcases Nat.lt_or_ge j n with h' | h'
        · exact h'
        · have hlt : j < ops.size := by
            rcases Nat.lt_or_ge j ops.size with h'' | h''
            · exact h''
            · rw [Array.getElem?_eq_none h''] at hoj; cases hoj
          exact absurd (hn1 j hlt h') hjD
      have hun' : ∀ k ∈ i :: D, (listed.setIfInBounds j true).getD k true = false := fun k hk => by
        rw [getD_set_ne true (fun h => ?_)]
        · exact hun k hk
        · subst h
          rcases List.mem_cons.1 hk with h | h
          · exact hji h
          · exact hjD h
      have h2 := wpOp_putIf hoj (hfree j oj hoj hji hjun hnot) (fun cs b => hsel i oi cs b hi) (fun cs b => hsel j oj cs b hoj) hQ hy h1
      have hfree' : ∀ k ok, ops[k]? = some ok → k ≠ i → (listed.setIfInBounds j true).getD k true = false →
          (∀ e ∈ ok.after, Region.binds md e = true → e.on ≠ i) → oi.apart ops ok = true := fun k ok hk hki hun hno => by
        refine hfree k ok hk hki ?_ hno
        by_cases hjk : j = k
        · subst hjk; exact hjun
        · rw [getD_set_ne true hjk] at hun; exact hun
      refine wpOp_mono (fun a' w' h3 => ⟨h3.2.1, ih (listed.setIfInBounds j true) a' w' hun' hfree' (ready_mono hr (Ne.symm hji)) h3.1 (h3.2.1 hjn) ?_⟩) h2
      rw [Array.setIfInBounds_comm _ _ hji]
      exact h3.2.2
/-- number i first -/
theorem wpAnyT_take (D : List Nat) {i : Nat} {oi : Oper} {v : Value} {fuel : Nat} {listed : Array Bool} {a : Act} {w : World} (hi : ops[i]? = some oi)
    (hs : Region.noSelect ops = true) (hf : Region.free md ops listed i = true) (hr : (Region.ready md ops listed).contains i = true) (hsink : sinkAt md ops n i D listed = true)
    (hQ : ∀ c a w, Q (.panic c) (a.put oi.dst v) w → Q (.panic c) a w) (hy : YieldsIf P ops S oi v a) (hS : S w)
    (h : wpAnyT P md ops Q S n fuel (listed.setIfInBounds i true) (a.put oi.dst v) w) : wpAnyT P md ops Q S n (fuel + 1) listed a w :=
  wpAnyT_first hi (Region.noSelect_spec hs) hQ (sinkAt_spec hsink).1 (sinkAt_spec hsink).2.1 fuel listed a w (sinkAt_spec hsink).2.2 (Region.free_spec hi hf) (by simpa using hr) hy hS h
/-- whichever comes up -/
def AllReadyT (P : Program) (md : Region.Mode) (ops : Array Oper) (Q : Exit → Act → World → Prop) (S : World → Prop) (n : Nat) (fuel : Nat) (listed : Array Bool) (a : Act) (w : World) (rs : List Nat) : Prop :=
  ∀ i ∈ rs, wpOp P ops Q i (fun a' w' => (i < n → S w') ∧ wpAnyT P md ops Q S n fuel (listed.setIfInBounds i true) a' w') a w
theorem AllReadyT.nil {fuel : Nat} {listed : Array Bool} {a : Act} {w : World} : AllReadyT P md ops Q S n fuel listed a w [] := fun _ h => by cases h
theorem AllReadyT.cons {fuel : Nat} {listed : Array Bool} {a : Act} {w : World} {i : Nat} {o : Oper} {rs : List Nat} (ho : ops[i]? = some o)
    (h : ∀ K' : Act → World → Prop, Shut (∀ a w, (i < n → S w) → ((i < n → S w) → wpAnyT P md ops Q S n fuel (listed.setIfInBounds i true) a w) → K' a w) → if Region.wanted o (yielded ops a.tmps) = true then Oper.wp P o a w K' Q else K' (a.put o.dst undef) w)
    (hs : AllReadyT P md ops Q S n fuel listed a w rs) : AllReadyT P md ops Q S n fuel listed a w (i :: rs) := fun j hj => by
  rcases List.mem_cons.1 hj with rfl | hj
  · exact wpOp_step ho (fun K' hK => h K' (fun a w hS hW => hK a w ⟨hS, hW hS⟩))
  · exact hs j hj
theorem wpAnyT_ready {rs : List Nat} {fuel : Nat} {listed : Array Bool} {a : Act} {w : World} (hr : Region.ready md ops listed = rs) (hne : rs ≠ [])
    (h : AllReadyT P md ops Q S n fuel listed a w rs) : wpAnyT P md ops Q S n (fuel + 1) listed a w := ⟨fun h0 => absurd (hr ▸ h0) hne, hr ▸ h⟩
theorem wpAnyT_done {listed : Array Bool} {a : Act} {w : World} (hr : Region.ready md ops listed = []) (h : Q .normal a w) : ∀ fuel, wpAnyT P md ops Q S n fuel listed a w
  | 0 => ⟨hr, h⟩
  | fuel + 1 => ⟨fun _ => h, fun i hi => by rw [hr] at hi; cases hi⟩
/-- the beginning -/
theorem wp_region_heldT {id : Nat} {a : Act} {w : World} (S : World → Prop) (n : Nat) (hm : P.follows .mixedOrders = true) (hS : S w.drew)
    (h : S w.drew → wpAnyT P .any ops Q S n ops.size (Array.replicate ops.size false) a w.drew) : (Code.region id ops true).wp P Q a w :=
  wp_region_any hm (wpAny_ofT _ _ _ _ (h hS))
end
end Go

namespace Go
section
variable {P : Program} {ops : Array Oper} {Q : Exit → Act → World → Prop} {md : Region.Mode} {S : World → Prop} {n : Nat}
/-- number i first, looked up in the list (so that its slot is read off whatever i) -/
theorem wpAnyT_takeL (D : List Nat) {i : Nat} {oi : Oper} {v : Value} {fuel : Nat} {listed : Array Bool} {a : Act} {w : World} (hi : ops.toList[i]? = some oi)
    (hs : Region.noSelect ops = true) (hf : Region.free md ops listed i = true) (hr : (Region.ready md ops listed).contains i = true) (hsink : sinkAt md ops n i D listed = true)
    (hQ : ∀ c a w, Q (.panic c) (a.put oi.dst v) w → Q (.panic c) a w) (hy : YieldsIf P ops S oi v a) (hS : S w)
    (h : wpAnyT P md ops Q S n fuel (listed.setIfInBounds i true) (a.put oi.dst v) w) : wpAnyT P md ops Q S n (fuel + 1) listed a w :=
  wpAnyT_take D (by rw [← hi]; simp) hs hf hr hsink hQ hy hS h
end
end Go
