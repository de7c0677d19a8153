import Derived.Test.YtimhpmccmafnpaaGreatG19
import Derived.Test.YtimhpmccmafnpaaGreatG11
import Derived.Test.YtimhpmccmafnpaaGreatG12
import Derived.Test.YtimhpmccmafnpaaGreatG10
import Derived.BigQuiet
import Derived.Deep.CutBlock
import Derived.Deep.QuietTactic
import Derived.Deep.DeepCutAuto
import Derived.StillTailTactics
import Derived.IntWalk
namespace Go.Proofs.YtimhpmccmafnpaaGreat
open Go.ChangeShapes Go.WideShapes Go.ChangeAt Go.RowKit
open Ieee.Format (fin finE htE allFin allHt all_true all_false mulF subF addF Ht Bd divF rootF floorF easeF mixF)
set_option linter.unusedVariables false

theorem refseed_any (k : Int) (w : World) : Calls Tryz.prog 50 #[.int .i64 k] w fun e w' => e = .returned (.int .i64 (sdE k 0)) ∧ w = w' := by
  unfold sdE wB
  by_cases h1 : k < 0
  · rw [if_neg (by simp; omega)]
    go_enter Tryz.func50, Tryz.ntmps50
    go_wp2
    go_ret
    exact ⟨rfl, rfl⟩
  · by_cases h2 : k > 4294967295
    · rw [if_neg (by simp; omega)]
      go_enter Tryz.func50, Tryz.ntmps50
      go_wp2
      go_ret
      exact ⟨rfl, rfl⟩
    · rw [if_pos (by simp; omega)]
      go_enter Tryz.func50, Tryz.ntmps50
      go_wp2
      go_ret
      exact ⟨rfl, rfl⟩
theorem min_two' (a b : Int) : ∃ M : Int, (∀ w' : World, (Builtin.min_ #[3, 3] 3 #[.int .i64 a, .int .i64 b]).run Tryz.prog w' = .ok (.int .i64 M) w') ∧ (M < -64 ↔ a < -64 ∨ b < -64) := by
  obtain ⟨m1, hm1⟩ : ∃ m1, m1 = if b < a then b else a := ⟨_, rfl⟩
  refine ⟨m1, fun w' => ?_, ?_⟩
  · subst hm1; rfl
  · split at hm1 <;> omega
theorem max_two' (a b : Int) : ∃ M : Int, (∀ w' : World, (Builtin.max_ #[3, 3] 3 #[.int .i64 a, .int .i64 b]).run Tryz.prog w' = .ok (.int .i64 M) w') ∧ (64 < M ↔ 64 < a ∨ 64 < b) := by
  obtain ⟨m1, hm1⟩ : ∃ m1, m1 = if b > a then b else a := ⟨_, rfl⟩
  refine ⟨m1, fun w' => ?_, ?_⟩
  · subst hm1; rfl
  · split at hm1 <;> omega
set_option maxRecDepth 100000 in
set_option maxHeartbeats 2000000 in
theorem refnum_noise (s : ByteArray) (ia : Option Addr) (nin cin b o cI rb ro cR : Nat) (i0 i1 i2 i3 : Int) (r0 : Nat) (w : World) (hz : s.toList = [110, 111, 105, 115, 101]) (hI : ZRow w (some ⟨b, o, none⟩) [i0, i1, i2, i3]) (hR : SRow w (some ⟨rb, ro, none⟩) [r0]) (hE : htE [r0] = 0) :
    Calls Tryz.prog 34 #[ndV s ia nin cin (some ⟨b, o, none⟩) 4 cI (some ⟨rb, ro, none⟩) 1 cR] w fun e w' => e = .returned (.int .i64 (sdE i1 (frE i0 i2 i3 r0))) ∧ Below w.heap.size w w' := by
  have h0 := hR.1.2 r0 (by simp)
  have KH : ∀ w', SRow w' (some ⟨rb, ro, none⟩) [r0] → Calls Tryz.prog 49 #[.slice (some ⟨rb, ro, none⟩) 1 cR] w' fun e w'' => e = .returned (.int .i64 0) ∧ w' = w'' := fun w' h => by
    have := refheight_any (some ⟨rb, ro, none⟩) cR [r0] w' h
    rw [hE] at this
    exact this
  have KH := Lib.hid KH
  have HI := Lib.hid hI
  have HR := Lib.hid hR
  have hE0 := hE
  clear hI hR hE
  have hs1 : ∀ c, wB i1 0 4294967295 = true → sdE i1 c = c := fun c h => by unfold sdE; rw [if_pos h]
  have hs2 : ∀ c, wB i1 0 4294967295 = false → sdE i1 c = 3 := fun c h => by unfold sdE; rw [if_neg (by rw [h]; decide)]
  have KW0 : ∀ w : World, Calls Tryz.prog 50 #[.int .i64 i1] w fun e w' => e = .returned (.int .i64 (sdE i1 0)) ∧ w = w' := fun w => refseed_any i1 w
  have KM : ∀ w', ZRow w' (some ⟨b, o, none⟩) [i0, i1, i2, i3] → SRow w' (some ⟨rb, ro, none⟩) [r0] → _ := fun w' hI hR => refmk_fractal s ia nin cin b o cI rb ro 1 cR i0 i1 i2 i3 r0 [r0] w' hI hR rfl rfl
  have KM := Lib.hid KM
  have KC := Lib.hid (fun w' => refrcheck_any i0 (i1 % 4294967296) i2 i3 r0 h0 w')
  unfold frV at KC
  cases hw : wB i1 0 4294967295 with
  | true =>
    rw [hs1 _ hw]
    have KW : ∀ w : World, Calls Tryz.prog 50 #[.int .i64 i1] w fun e w' => e = .returned (.int .i64 0) ∧ w = w' := fun w => by
      have := KW0 w
      rw [hs1 _ hw] at this
      exact this
    have KW := Lib.hid KW
    clear KW0 hs1 hs2
    go_enter Tryz.func34, Tryz.ntmps34
    go_upto_region 1 with fail
    generalize hW0 : w.alloc (.cells #[.string s, .slice ia nin cin, .slice (some ⟨b, o, none⟩) 4 cI, .slice (some ⟨rb, ro, none⟩) 1 cR] 25) = W0
    have A0 : NdAt W0 w.heap.size s ia nin cin (some ⟨b, o, none⟩) 4 cI (some ⟨rb, ro, none⟩) 1 cR := by subst hW0; exact NdAt.new _ _ _ _ _ _ _ _ _ _ _
    have b0 : Below w.heap.size w W0 := by subst hW0; exact (by repeat (first | with_reducible exact Below.refl _ _ | with_reducible apply Below.drew | with_reducible refine below_drewN ?_ _ | (with_reducible refine Below.setCell ?_ ?_ _; rotate_left; focus (first | omega | (simp <;> omega))) | (with_reducible refine Below.alloc ?_ ?_ _; rotate_left; focus (first | omega | (simp <;> omega)))))
    have HB0 := Lib.hid b0
    have HI0 := Lib.hid (HI.out.below b0)
    have HR0 := Lib.hid (HR.out.below b0)
    obtain ⟨p0, p1, p2, p3⟩ := A0.cells
    have l0 := A0.lt
    clear hW0 A0 b0 HI HR
    have x0 : W0.cell? ⟨b, o, none⟩ = some (.int .i64 i0) := HI0.out.at_ 0 (by simp)
    have x1 : W0.cell? ⟨b, o + 1, none⟩ = some (.int .i64 i1) := HI0.out.at_ 1 (by simp)
    have x2 : W0.cell? ⟨b, o + 2, none⟩ = some (.int .i64 i2) := HI0.out.at_ 2 (by simp)
    have x3 : W0.cell? ⟨b, o + 3, none⟩ = some (.int .i64 i3) := HI0.out.at_ 3 (by simp)
    have lb : b < W0.heap.size := HI0.out.lt (by simp)
    have y0 : W0.cell? ⟨rb, ro, none⟩ = some (.float .f32 r0) := HR0.out.cell1 0 (by simp)
    have lrb : rb < W0.heap.size := HR0.out.lt1 (by simp)
    go_wp2_with fail
    refine (KH.out _ HR0.out).mono ?_
    rintro e w1 ⟨rfl, rfl⟩
    go_wp2_with (go_at_call 50; refine (KW.out _).mono ?_; rintro e w' ⟨rfl, rfl⟩)
    refine (KM.out _ HI0.out HR0.out).mono ?_
    rintro e w1 ⟨rfl, b1⟩
    have HB1 := Lib.hid (HB0.out.trans (b1.mono HB0.out.size))
    clear b1
    go_wp2_with fail
    refine (KC.out _).mono ?_
    rintro e w2 ⟨rfl, b2⟩
    have HB2 := Lib.hid (HB1.out.trans (b2.mono HB1.out.size))
    clear b2
    go_wp2_with fail
    go_ret
    have hb := HB2.out
    exact ⟨rfl, (by have hszz := hb.size; repeat (first | with_reducible exact hb | with_reducible apply Below.drew | with_reducible refine below_drewN ?_ _ | (with_reducible refine Below.setCell ?_ ?_ _; rotate_left; focus (first | omega | (simp <;> omega))) | (with_reducible refine Below.alloc ?_ ?_ _; rotate_left; focus (first | omega | (simp <;> omega)))))⟩
  | false =>
    rw [hs2 _ hw]
    have KW : ∀ w : World, Calls Tryz.prog 50 #[.int .i64 i1] w fun e w' => e = .returned (.int .i64 3) ∧ w = w' := fun w => by
      have := KW0 w
      rw [hs2 _ hw] at this
      exact this
    have KW := Lib.hid KW
    clear KW0 hs1 hs2
    go_enter Tryz.func34, Tryz.ntmps34
    go_upto_region 1 with fail
    generalize hW0 : w.alloc (.cells #[.string s, .slice ia nin cin, .slice (some ⟨b, o, none⟩) 4 cI, .slice (some ⟨rb, ro, none⟩) 1 cR] 25) = W0
    have A0 : NdAt W0 w.heap.size s ia nin cin (some ⟨b, o, none⟩) 4 cI (some ⟨rb, ro, none⟩) 1 cR := by subst hW0; exact NdAt.new _ _ _ _ _ _ _ _ _ _ _
    have b0 : Below w.heap.size w W0 := by subst hW0; exact (by repeat (first | with_reducible exact Below.refl _ _ | with_reducible apply Below.drew | with_reducible refine below_drewN ?_ _ | (with_reducible refine Below.setCell ?_ ?_ _; rotate_left; focus (first | omega | (simp <;> omega))) | (with_reducible refine Below.alloc ?_ ?_ _; rotate_left; focus (first | omega | (simp <;> omega)))))
    have HB0 := Lib.hid b0
    have HI0 := Lib.hid (HI.out.below b0)
    have HR0 := Lib.hid (HR.out.below b0)
    obtain ⟨p0, p1, p2, p3⟩ := A0.cells
    have l0 := A0.lt
    clear hW0 A0 b0 HI HR
    have x0 : W0.cell? ⟨b, o, none⟩ = some (.int .i64 i0) := HI0.out.at_ 0 (by simp)
    have x1 : W0.cell? ⟨b, o + 1, none⟩ = some (.int .i64 i1) := HI0.out.at_ 1 (by simp)
    have x2 : W0.cell? ⟨b, o + 2, none⟩ = some (.int .i64 i2) := HI0.out.at_ 2 (by simp)
    have x3 : W0.cell? ⟨b, o + 3, none⟩ = some (.int .i64 i3) := HI0.out.at_ 3 (by simp)
    have lb : b < W0.heap.size := HI0.out.lt (by simp)
    have y0 : W0.cell? ⟨rb, ro, none⟩ = some (.float .f32 r0) := HR0.out.cell1 0 (by simp)
    have lrb : rb < W0.heap.size := HR0.out.lt1 (by simp)
    go_wp2_with fail
    refine (KH.out _ HR0.out).mono ?_
    rintro e w1 ⟨rfl, rfl⟩
    go_wp2_with (go_at_call 50; refine (KW.out _).mono ?_; rintro e w' ⟨rfl, rfl⟩)
    go_ret
    have hb := HB0.out
    exact ⟨rfl, (by have hszz := hb.size; repeat (first | with_reducible exact hb | with_reducible apply Below.drew | with_reducible refine below_drewN ?_ _ | (with_reducible refine Below.setCell ?_ ?_ _; rotate_left; focus (first | omega | (simp <;> omega))) | (with_reducible refine Below.alloc ?_ ?_ _; rotate_left; focus (first | omega | (simp <;> omega)))))⟩
set_option maxRecDepth 100000 in
set_option maxHeartbeats 2000000 in
theorem refnum_warp (s : ByteArray) (ia : Option Addr) (nin cin b o cI rb ro cR : Nat) (i0 i1 i2 i3 : Int) (r0 r1 : Nat) (w : World) (hz : s.toList = [119, 97, 114, 112]) (hI : ZRow w (some ⟨b, o, none⟩) [i0, i1, i2, i3]) (hR : SRow w (some ⟨rb, ro, none⟩) [r0, r1]) (hE : htE [r0, r1] = 0) :
    Calls Tryz.prog 34 #[ndV s ia nin cin (some ⟨b, o, none⟩) 4 cI (some ⟨rb, ro, none⟩) 2 cR] w fun e w' => e = .returned (.int .i64 (sdE i1 (wpE i0 i2 i3 r0 r1))) ∧ Below w.heap.size w w' := by
  have h0 := hR.1.2 r0 (by simp)
  have h1 := hR.1.2 r1 (by simp)
  have KH : ∀ w', SRow w' (some ⟨rb, ro, none⟩) [r0, r1] → Calls Tryz.prog 49 #[.slice (some ⟨rb, ro, none⟩) 2 cR] w' fun e w'' => e = .returned (.int .i64 0) ∧ w' = w'' := fun w' h => by
    have := refheight_any (some ⟨rb, ro, none⟩) cR [r0, r1] w' h
    rw [hE] at this
    exact this
  have KH := Lib.hid KH
  have HI := Lib.hid hI
  have HR := Lib.hid hR
  have hE0 := hE
  clear hI hR hE
  have hs1 : ∀ c, wB i1 0 4294967295 = true → sdE i1 c = c := fun c h => by unfold sdE; rw [if_pos h]
  have hs2 : ∀ c, wB i1 0 4294967295 = false → sdE i1 c = 3 := fun c h => by unfold sdE; rw [if_neg (by rw [h]; decide)]
  have KW0 : ∀ w : World, Calls Tryz.prog 50 #[.int .i64 i1] w fun e w' => e = .returned (.int .i64 (sdE i1 0)) ∧ w = w' := fun w => refseed_any i1 w
  have KM : ∀ w', ZRow w' (some ⟨b, o, none⟩) [i0, i1, i2, i3] → SRow w' (some ⟨rb, ro, none⟩) [r0, r1] → _ := fun w' hI hR => refmk_warp s ia nin cin b o cI rb ro 2 cR i0 i1 i2 i3 r0 r1 [r0, r1] w' hI hR rfl rfl
  have KM := Lib.hid KM
  have KC := Lib.hid (fun w' => refwpcheck_any i0 (i1 % 4294967296) i2 i3 r0 r1 h0 h1 w')
  unfold wpV at KC KM
  cases hw : wB i1 0 4294967295 with
  | true =>
    rw [hs1 _ hw]
    have KW : ∀ w : World, Calls Tryz.prog 50 #[.int .i64 i1] w fun e w' => e = .returned (.int .i64 0) ∧ w = w' := fun w => by
      have := KW0 w
      rw [hs1 _ hw] at this
      exact this
    have KW := Lib.hid KW
    clear KW0 hs1 hs2
    go_enter Tryz.func34, Tryz.ntmps34
    go_upto_region 1 with fail
    generalize hW0 : w.alloc (.cells #[.string s, .slice ia nin cin, .slice (some ⟨b, o, none⟩) 4 cI, .slice (some ⟨rb, ro, none⟩) 2 cR] 25) = W0
    have A0 : NdAt W0 w.heap.size s ia nin cin (some ⟨b, o, none⟩) 4 cI (some ⟨rb, ro, none⟩) 2 cR := by subst hW0; exact NdAt.new _ _ _ _ _ _ _ _ _ _ _
    have b0 : Below w.heap.size w W0 := by subst hW0; exact (by repeat (first | with_reducible exact Below.refl _ _ | with_reducible apply Below.drew | with_reducible refine below_drewN ?_ _ | (with_reducible refine Below.setCell ?_ ?_ _; rotate_left; focus (first | omega | (simp <;> omega))) | (with_reducible refine Below.alloc ?_ ?_ _; rotate_left; focus (first | omega | (simp <;> omega)))))
    have HB0 := Lib.hid b0
    have HI0 := Lib.hid (HI.out.below b0)
    have HR0 := Lib.hid (HR.out.below b0)
    obtain ⟨p0, p1, p2, p3⟩ := A0.cells
    have l0 := A0.lt
    clear hW0 A0 b0 HI HR
    have x0 : W0.cell? ⟨b, o, none⟩ = some (.int .i64 i0) := HI0.out.at_ 0 (by simp)
    have x1 : W0.cell? ⟨b, o + 1, none⟩ = some (.int .i64 i1) := HI0.out.at_ 1 (by simp)
    have x2 : W0.cell? ⟨b, o + 2, none⟩ = some (.int .i64 i2) := HI0.out.at_ 2 (by simp)
    have x3 : W0.cell? ⟨b, o + 3, none⟩ = some (.int .i64 i3) := HI0.out.at_ 3 (by simp)
    have lb : b < W0.heap.size := HI0.out.lt (by simp)
    have y0 : W0.cell? ⟨rb, ro, none⟩ = some (.float .f32 r0) := HR0.out.cell1 0 (by simp)
    have y1 : W0.cell? ⟨rb, ro + 1, none⟩ = some (.float .f32 r1) := HR0.out.cell1 1 (by simp)
    have lrb : rb < W0.heap.size := HR0.out.lt1 (by simp)
    go_wp2_with fail
    refine (KH.out _ HR0.out).mono ?_
    rintro e w1 ⟨rfl, rfl⟩
    go_wp2_with (go_at_call 50; refine (KW.out _).mono ?_; rintro e w' ⟨rfl, rfl⟩)
    refine (KM.out _ HI0.out HR0.out).mono ?_
    rintro e w1 ⟨rfl, b1⟩
    have HB1 := Lib.hid (HB0.out.trans (b1.mono HB0.out.size))
    clear b1
    go_wp2_with fail
    refine (KC.out _).mono ?_
    rintro e w2 ⟨rfl, b2⟩
    have HB2 := Lib.hid (HB1.out.trans (b2.mono HB1.out.size))
    clear b2
    go_wp2_with fail
    go_ret
    have hb := HB2.out
    exact ⟨rfl, (by have hszz := hb.size; repeat (first | with_reducible exact hb | with_reducible apply Below.drew | with_reducible refine below_drewN ?_ _ | (with_reducible refine Below.setCell ?_ ?_ _; rotate_left; focus (first | omega | (simp <;> omega))) | (with_reducible refine Below.alloc ?_ ?_ _; rotate_left; focus (first | omega | (simp <;> omega)))))⟩
  | false =>
    rw [hs2 _ hw]
    have KW : ∀ w : World, Calls Tryz.prog 50 #[.int .i64 i1] w fun e w' => e = .returned (.int .i64 3) ∧ w = w' := fun w => by
      have := KW0 w
      rw [hs2 _ hw] at this
      exact this
    have KW := Lib.hid KW
    clear KW0 hs1 hs2
    go_enter Tryz.func34, Tryz.ntmps34
    go_upto_region 1 with fail
    generalize hW0 : w.alloc (.cells #[.string s, .slice ia nin cin, .slice (some ⟨b, o, none⟩) 4 cI, .slice (some ⟨rb, ro, none⟩) 2 cR] 25) = W0
    have A0 : NdAt W0 w.heap.size s ia nin cin (some ⟨b, o, none⟩) 4 cI (some ⟨rb, ro, none⟩) 2 cR := by subst hW0; exact NdAt.new _ _ _ _ _ _ _ _ _ _ _
    have b0 : Below w.heap.size w W0 := by subst hW0; exact (by repeat (first | with_reducible exact Below.refl _ _ | with_reducible apply Below.drew | with_reducible refine below_drewN ?_ _ | (with_reducible refine Below.setCell ?_ ?_ _; rotate_left; focus (first | omega | (simp <;> omega))) | (with_reducible refine Below.alloc ?_ ?_ _; rotate_left; focus (first | omega | (simp <;> omega)))))
    have HB0 := Lib.hid b0
    have HI0 := Lib.hid (HI.out.below b0)
    have HR0 := Lib.hid (HR.out.below b0)
    obtain ⟨p0, p1, p2, p3⟩ := A0.cells
    have l0 := A0.lt
    clear hW0 A0 b0 HI HR
    have x0 : W0.cell? ⟨b, o, none⟩ = some (.int .i64 i0) := HI0.out.at_ 0 (by simp)
    have x1 : W0.cell? ⟨b, o + 1, none⟩ = some (.int .i64 i1) := HI0.out.at_ 1 (by simp)
    have x2 : W0.cell? ⟨b, o + 2, none⟩ = some (.int .i64 i2) := HI0.out.at_ 2 (by simp)
    have x3 : W0.cell? ⟨b, o + 3, none⟩ = some (.int .i64 i3) := HI0.out.at_ 3 (by simp)
    have lb : b < W0.heap.size := HI0.out.lt (by simp)
    have y0 : W0.cell? ⟨rb, ro, none⟩ = some (.float .f32 r0) := HR0.out.cell1 0 (by simp)
    have y1 : W0.cell? ⟨rb, ro + 1, none⟩ = some (.float .f32 r1) := HR0.out.cell1 1 (by simp)
    have lrb : rb < W0.heap.size := HR0.out.lt1 (by simp)
    go_wp2_with fail
    refine (KH.out _ HR0.out).mono ?_
    rintro e w1 ⟨rfl, rfl⟩
    go_wp2_with (go_at_call 50; refine (KW.out _).mono ?_; rintro e w' ⟨rfl, rfl⟩)
    go_ret
    have hb := HB0.out
    exact ⟨rfl, (by have hszz := hb.size; repeat (first | with_reducible exact hb | with_reducible apply Below.drew | with_reducible refine below_drewN ?_ _ | (with_reducible refine Below.setCell ?_ ?_ _; rotate_left; focus (first | omega | (simp <;> omega))) | (with_reducible refine Below.alloc ?_ ?_ _; rotate_left; focus (first | omega | (simp <;> omega)))))⟩
set_option maxRecDepth 100000 in
set_option maxHeartbeats 2000000 in
theorem refnum_stamp (s : ByteArray) (ia : Option Addr) (nin cin b o cI rb ro cR : Nat) (i0 i1 i2 i3 : Int) (r0 : Nat) (w : World) (hz : s.toList = [115, 116, 97, 109, 112]) (hI : ZRow w (some ⟨b, o, none⟩) [i0, i1, i2, i3]) (hR : SRow w (some ⟨rb, ro, none⟩) [r0]) (hE : htE [r0] = 0) :
    Calls Tryz.prog 34 #[ndV s ia nin cin (some ⟨b, o, none⟩) 4 cI (some ⟨rb, ro, none⟩) 1 cR] w fun e w' => e = .returned (.int .i64 (brushE i0 i1 i2 i3 r0)) ∧ Below w.heap.size w w' := by
  have h0 := hR.1.2 r0 (by simp)
  have KH : ∀ w', SRow w' (some ⟨rb, ro, none⟩) [r0] → Calls Tryz.prog 49 #[.slice (some ⟨rb, ro, none⟩) 1 cR] w' fun e w'' => e = .returned (.int .i64 0) ∧ w' = w'' := fun w' h => by
    have := refheight_any (some ⟨rb, ro, none⟩) cR [r0] w' h
    rw [hE] at this
    exact this
  have KH := Lib.hid KH
  have HI := Lib.hid hI
  have HR := Lib.hid hR
  have hE0 := hE
  clear hI hR hE
  have KM : ∀ w', ZRow w' (some ⟨b, o, none⟩) [i0, i1, i2, i3] → SRow w' (some ⟨rb, ro, none⟩) [r0] → _ := fun w' hI hR => refmk_brush s ia nin cin b o cI rb ro 1 cR i0 i1 i2 i3 r0 [r0] w' hI hR rfl rfl
  have KM := Lib.hid KM
  have KC := Lib.hid (fun w' => refcheck_brush i0 i1 i2 i3 r0 w' h0)
  go_enter Tryz.func34, Tryz.ntmps34
  go_upto_region 1 with fail
  generalize hW0 : w.alloc (.cells #[.string s, .slice ia nin cin, .slice (some ⟨b, o, none⟩) 4 cI, .slice (some ⟨rb, ro, none⟩) 1 cR] 25) = W0
  have A0 : NdAt W0 w.heap.size s ia nin cin (some ⟨b, o, none⟩) 4 cI (some ⟨rb, ro, none⟩) 1 cR := by subst hW0; exact NdAt.new _ _ _ _ _ _ _ _ _ _ _
  have b0 : Below w.heap.size w W0 := by subst hW0; exact (by repeat (first | with_reducible exact Below.refl _ _ | with_reducible apply Below.drew | with_reducible refine below_drewN ?_ _ | (with_reducible refine Below.setCell ?_ ?_ _; rotate_left; focus (first | omega | (simp <;> omega))) | (with_reducible refine Below.alloc ?_ ?_ _; rotate_left; focus (first | omega | (simp <;> omega)))))
  have HB0 := Lib.hid b0
  have HI0 := Lib.hid (HI.out.below b0)
  have HR0 := Lib.hid (HR.out.below b0)
  obtain ⟨p0, p1, p2, p3⟩ := A0.cells
  have l0 := A0.lt
  clear hW0 A0 b0 HI HR
  have x0 : W0.cell? ⟨b, o, none⟩ = some (.int .i64 i0) := HI0.out.at_ 0 (by simp)
  have x1 : W0.cell? ⟨b, o + 1, none⟩ = some (.int .i64 i1) := HI0.out.at_ 1 (by simp)
  have x2 : W0.cell? ⟨b, o + 2, none⟩ = some (.int .i64 i2) := HI0.out.at_ 2 (by simp)
  have x3 : W0.cell? ⟨b, o + 3, none⟩ = some (.int .i64 i3) := HI0.out.at_ 3 (by simp)
  have lb : b < W0.heap.size := HI0.out.lt (by simp)
  have y0 : W0.cell? ⟨rb, ro, none⟩ = some (.float .f32 r0) := HR0.out.cell1 0 (by simp)
  have lrb : rb < W0.heap.size := HR0.out.lt1 (by simp)
  go_wp2_with fail
  refine (KH.out _ HR0.out).mono ?_
  rintro e w1 ⟨rfl, rfl⟩
  go_wp2_with fail
  refine (KM.out _ HI0.out HR0.out).mono ?_
  rintro e w1 ⟨rfl, b1⟩
  have HB1 := Lib.hid (HB0.out.trans (b1.mono HB0.out.size))
  clear b1
  go_wp2_with fail
  refine (KC.out _).mono ?_
  rintro e w2 ⟨rfl, b2⟩
  have HB2 := Lib.hid (HB1.out.trans (b2.mono HB1.out.size))
  clear b2
  go_wp2_with fail
  go_ret
  have hb := HB2.out
  exact ⟨rfl, (by have hszz := hb.size; repeat (first | with_reducible exact hb | with_reducible apply Below.drew | with_reducible refine below_drewN ?_ _ | (with_reducible refine Below.setCell ?_ ?_ _; rotate_left; focus (first | omega | (simp <;> omega))) | (with_reducible refine Below.alloc ?_ ?_ _; rotate_left; focus (first | omega | (simp <;> omega)))))⟩
set_option maxRecDepth 100000 in
set_option maxHeartbeats 2000000 in
theorem refnum_fault (s : ByteArray) (ia : Option Addr) (nin cin b o cI rb ro cR : Nat) (i0 i1 i2 i3 : Int) (r0 : Nat) (w : World) (hz : s.toList = [102, 97, 117, 108, 116]) (hI : ZRow w (some ⟨b, o, none⟩) [i0, i1, i2, i3]) (hR : SRow w (some ⟨rb, ro, none⟩) [r0]) (hE : htE [r0] = 0) :
    Calls Tryz.prog 34 #[ndV s ia nin cin (some ⟨b, o, none⟩) 4 cI (some ⟨rb, ro, none⟩) 1 cR] w fun e w' => e = .returned (.int .i64 (faultE i0 i1 i2 i3 r0)) ∧ Below w.heap.size w w' := by
  have h0 := hR.1.2 r0 (by simp)
  have KH : ∀ w', SRow w' (some ⟨rb, ro, none⟩) [r0] → Calls Tryz.prog 49 #[.slice (some ⟨rb, ro, none⟩) 1 cR] w' fun e w'' => e = .returned (.int .i64 0) ∧ w' = w'' := fun w' h => by
    have := refheight_any (some ⟨rb, ro, none⟩) cR [r0] w' h
    rw [hE] at this
    exact this
  have KH := Lib.hid KH
  have HI := Lib.hid hI
  have HR := Lib.hid hR
  have hE0 := hE
  clear hI hR hE
  have KM : ∀ w', ZRow w' (some ⟨b, o, none⟩) [i0, i1, i2, i3] → SRow w' (some ⟨rb, ro, none⟩) [r0] → _ := fun w' hI hR => refmk_fault s ia nin cin b o cI rb ro 1 cR i0 i1 i2 i3 r0 [r0] w' hI hR rfl rfl
  have KM := Lib.hid KM
  have KC := Lib.hid (fun w' => refcheck_fault i0 i1 i2 i3 r0 w' h0)
  go_enter Tryz.func34, Tryz.ntmps34
  go_upto_region 1 with fail
  generalize hW0 : w.alloc (.cells #[.string s, .slice ia nin cin, .slice (some ⟨b, o, none⟩) 4 cI, .slice (some ⟨rb, ro, none⟩) 1 cR] 25) = W0
  have A0 : NdAt W0 w.heap.size s ia nin cin (some ⟨b, o, none⟩) 4 cI (some ⟨rb, ro, none⟩) 1 cR := by subst hW0; exact NdAt.new _ _ _ _ _ _ _ _ _ _ _
  have b0 : Below w.heap.size w W0 := by subst hW0; exact (by repeat (first | with_reducible exact Below.refl _ _ | with_reducible apply Below.drew | with_reducible refine below_drewN ?_ _ | (with_reducible refine Below.setCell ?_ ?_ _; rotate_left; focus (first | omega | (simp <;> omega))) | (with_reducible refine Below.alloc ?_ ?_ _; rotate_left; focus (first | omega | (simp <;> omega)))))
  have HB0 := Lib.hid b0
  have HI0 := Lib.hid (HI.out.below b0)
  have HR0 := Lib.hid (HR.out.below b0)
  obtain ⟨p0, p1, p2, p3⟩ := A0.cells
  have l0 := A0.lt
  clear hW0 A0 b0 HI HR
  have x0 : W0.cell? ⟨b, o, none⟩ = some (.int .i64 i0) := HI0.out.at_ 0 (by simp)
  have x1 : W0.cell? ⟨b, o + 1, none⟩ = some (.int .i64 i1) := HI0.out.at_ 1 (by simp)
  have x2 : W0.cell? ⟨b, o + 2, none⟩ = some (.int .i64 i2) := HI0.out.at_ 2 (by simp)
  have x3 : W0.cell? ⟨b, o + 3, none⟩ = some (.int .i64 i3) := HI0.out.at_ 3 (by simp)
  have lb : b < W0.heap.size := HI0.out.lt (by simp)
  have y0 : W0.cell? ⟨rb, ro, none⟩ = some (.float .f32 r0) := HR0.out.cell1 0 (by simp)
  have lrb : rb < W0.heap.size := HR0.out.lt1 (by simp)
  go_wp2_with fail
  refine (KH.out _ HR0.out).mono ?_
  rintro e w1 ⟨rfl, rfl⟩
  go_wp2_with fail
  refine (KM.out _ HI0.out HR0.out).mono ?_
  rintro e w1 ⟨rfl, b1⟩
  have HB1 := Lib.hid (HB0.out.trans (b1.mono HB0.out.size))
  clear b1
  go_wp2_with fail
  refine (KC.out _).mono ?_
  rintro e w2 ⟨rfl, b2⟩
  have HB2 := Lib.hid (HB1.out.trans (b2.mono HB1.out.size))
  clear b2
  go_wp2_with fail
  go_ret
  have hb := HB2.out
  exact ⟨rfl, (by have hszz := hb.size; repeat (first | with_reducible exact hb | with_reducible apply Below.drew | with_reducible refine below_drewN ?_ _ | (with_reducible refine Below.setCell ?_ ?_ _; rotate_left; focus (first | omega | (simp <;> omega))) | (with_reducible refine Below.alloc ?_ ?_ _; rotate_left; focus (first | omega | (simp <;> omega)))))⟩
set_option maxRecDepth 100000 in
set_option maxHeartbeats 2000000 in
theorem refnum_fold (s : ByteArray) (ia : Option Addr) (nin cin b o cI rb ro cR : Nat) (i0 i1 i2 : Int) (r0 : Nat) (w : World) (hz : s.toList = [102, 111, 108, 100]) (hI : ZRow w (some ⟨b, o, none⟩) [i0, i1, i2]) (hR : SRow w (some ⟨rb, ro, none⟩) [r0]) (hE : htE [r0] = 0) :
    Calls Tryz.prog 34 #[ndV s ia nin cin (some ⟨b, o, none⟩) 3 cI (some ⟨rb, ro, none⟩) 1 cR] w fun e w' => e = .returned (.int .i64 (foldE i0 i1 i2 r0)) ∧ Below w.heap.size w w' := by
  have h0 := hR.1.2 r0 (by simp)
  have KH : ∀ w', SRow w' (some ⟨rb, ro, none⟩) [r0] → Calls Tryz.prog 49 #[.slice (some ⟨rb, ro, none⟩) 1 cR] w' fun e w'' => e = .returned (.int .i64 0) ∧ w' = w'' := fun w' h => by
    have := refheight_any (some ⟨rb, ro, none⟩) cR [r0] w' h
    rw [hE] at this
    exact this
  have KH := Lib.hid KH
  have HI := Lib.hid hI
  have HR := Lib.hid hR
  have hE0 := hE
  clear hI hR hE
  have KM : ∀ w', ZRow w' (some ⟨b, o, none⟩) [i0, i1, i2] → SRow w' (some ⟨rb, ro, none⟩) [r0] → _ := fun w' hI hR => refmk_fold s ia nin cin b o cI rb ro 1 cR i0 i1 i2 r0 [r0] w' hI hR rfl rfl
  have KM := Lib.hid KM
  have KC := Lib.hid (fun w' => refcheck_fold i0 i1 i2 r0 w' h0)
  go_enter Tryz.func34, Tryz.ntmps34
  go_upto_region 1 with fail
  generalize hW0 : w.alloc (.cells #[.string s, .slice ia nin cin, .slice (some ⟨b, o, none⟩) 3 cI, .slice (some ⟨rb, ro, none⟩) 1 cR] 25) = W0
  have A0 : NdAt W0 w.heap.size s ia nin cin (some ⟨b, o, none⟩) 3 cI (some ⟨rb, ro, none⟩) 1 cR := by subst hW0; exact NdAt.new _ _ _ _ _ _ _ _ _ _ _
  have b0 : Below w.heap.size w W0 := by subst hW0; exact (by repeat (first | with_reducible exact Below.refl _ _ | with_reducible apply Below.drew | with_reducible refine below_drewN ?_ _ | (with_reducible refine Below.setCell ?_ ?_ _; rotate_left; focus (first | omega | (simp <;> omega))) | (with_reducible refine Below.alloc ?_ ?_ _; rotate_left; focus (first | omega | (simp <;> omega)))))
  have HB0 := Lib.hid b0
  have HI0 := Lib.hid (HI.out.below b0)
  have HR0 := Lib.hid (HR.out.below b0)
  obtain ⟨p0, p1, p2, p3⟩ := A0.cells
  have l0 := A0.lt
  clear hW0 A0 b0 HI HR
  have x0 : W0.cell? ⟨b, o, none⟩ = some (.int .i64 i0) := HI0.out.at_ 0 (by simp)
  have x1 : W0.cell? ⟨b, o + 1, none⟩ = some (.int .i64 i1) := HI0.out.at_ 1 (by simp)
  have x2 : W0.cell? ⟨b, o + 2, none⟩ = some (.int .i64 i2) := HI0.out.at_ 2 (by simp)
  have lb : b < W0.heap.size := HI0.out.lt (by simp)
  have y0 : W0.cell? ⟨rb, ro, none⟩ = some (.float .f32 r0) := HR0.out.cell1 0 (by simp)
  have lrb : rb < W0.heap.size := HR0.out.lt1 (by simp)
  go_wp2_with fail
  refine (KH.out _ HR0.out).mono ?_
  rintro e w1 ⟨rfl, rfl⟩
  go_wp2_with fail
  refine (KM.out _ HI0.out HR0.out).mono ?_
  rintro e w1 ⟨rfl, b1⟩
  have HB1 := Lib.hid (HB0.out.trans (b1.mono HB0.out.size))
  clear b1
  go_wp2_with fail
  refine (KC.out _).mono ?_
  rintro e w2 ⟨rfl, b2⟩
  have HB2 := Lib.hid (HB1.out.trans (b2.mono HB1.out.size))
  clear b2
  go_wp2_with fail
  go_ret
  have hb := HB2.out
  exact ⟨rfl, (by have hszz := hb.size; repeat (first | with_reducible exact hb | with_reducible apply Below.drew | with_reducible refine below_drewN ?_ _ | (with_reducible refine Below.setCell ?_ ?_ _; rotate_left; focus (first | omega | (simp <;> omega))) | (with_reducible refine Below.alloc ?_ ?_ _; rotate_left; focus (first | omega | (simp <;> omega)))))⟩
set_option maxRecDepth 100000 in
set_option maxHeartbeats 2000000 in
theorem refnum_thermal (s : ByteArray) (ia : Option Addr) (nin cin b o cI rb ro cR : Nat) (i0 : Int) (r0 r1 : Nat) (w : World) (hz : s.toList = [116, 104, 101, 114, 109, 97, 108]) (hI : ZRow w (some ⟨b, o, none⟩) [i0]) (hR : SRow w (some ⟨rb, ro, none⟩) [r0, r1]) (hE : htE [r0, r1] = 0) :
    Calls Tryz.prog 34 #[ndV s ia nin cin (some ⟨b, o, none⟩) 1 cI (some ⟨rb, ro, none⟩) 2 cR] w fun e w' => e = .returned (.int .i64 (wearE r0 r1 i0)) ∧ Below w.heap.size w w' := by
  have h0 := hR.1.2 r0 (by simp)
  have h1 := hR.1.2 r1 (by simp)
  have KH : ∀ w', SRow w' (some ⟨rb, ro, none⟩) [r0, r1] → Calls Tryz.prog 49 #[.slice (some ⟨rb, ro, none⟩) 2 cR] w' fun e w'' => e = .returned (.int .i64 0) ∧ w' = w'' := fun w' h => by
    have := refheight_any (some ⟨rb, ro, none⟩) cR [r0, r1] w' h
    rw [hE] at this
    exact this
  have KH := Lib.hid KH
  have HI := Lib.hid hI
  have HR := Lib.hid hR
  have hE0 := hE
  clear hI hR hE
  have KM : ∀ w', ZRow w' (some ⟨b, o, none⟩) [i0] → SRow w' (some ⟨rb, ro, none⟩) [r0, r1] → _ := fun w' hI hR => refmk_wear s ia nin cin b o cI rb ro 2 cR i0 r0 r1 [r0, r1] w' hI hR rfl rfl
  have KM := Lib.hid KM
  have KC := Lib.hid (fun w' => refcheck_wear r0 r1 i0 w' h0 h1)
  go_enter Tryz.func34, Tryz.ntmps34
  go_upto_region 1 with fail
  generalize hW0 : w.alloc (.cells #[.string s, .slice ia nin cin, .slice (some ⟨b, o, none⟩) 1 cI, .slice (some ⟨rb, ro, none⟩) 2 cR] 25) = W0
  have A0 : NdAt W0 w.heap.size s ia nin cin (some ⟨b, o, none⟩) 1 cI (some ⟨rb, ro, none⟩) 2 cR := by subst hW0; exact NdAt.new _ _ _ _ _ _ _ _ _ _ _
  have b0 : Below w.heap.size w W0 := by subst hW0; exact (by repeat (first | with_reducible exact Below.refl _ _ | with_reducible apply Below.drew | with_reducible refine below_drewN ?_ _ | (with_reducible refine Below.setCell ?_ ?_ _; rotate_left; focus (first | omega | (simp <;> omega))) | (with_reducible refine Below.alloc ?_ ?_ _; rotate_left; focus (first | omega | (simp <;> omega)))))
  have HB0 := Lib.hid b0
  have HI0 := Lib.hid (HI.out.below b0)
  have HR0 := Lib.hid (HR.out.below b0)
  obtain ⟨p0, p1, p2, p3⟩ := A0.cells
  have l0 := A0.lt
  clear hW0 A0 b0 HI HR
  have x0 : W0.cell? ⟨b, o, none⟩ = some (.int .i64 i0) := HI0.out.at_ 0 (by simp)
  have lb : b < W0.heap.size := HI0.out.lt (by simp)
  have y0 : W0.cell? ⟨rb, ro, none⟩ = some (.float .f32 r0) := HR0.out.cell1 0 (by simp)
  have y1 : W0.cell? ⟨rb, ro + 1, none⟩ = some (.float .f32 r1) := HR0.out.cell1 1 (by simp)
  have lrb : rb < W0.heap.size := HR0.out.lt1 (by simp)
  go_wp2_with fail
  refine (KH.out _ HR0.out).mono ?_
  rintro e w1 ⟨rfl, rfl⟩
  go_wp2_with fail
  refine (KM.out _ HI0.out HR0.out).mono ?_
  rintro e w1 ⟨rfl, b1⟩
  have HB1 := Lib.hid (HB0.out.trans (b1.mono HB0.out.size))
  clear b1
  go_wp2_with fail
  refine (KC.out _).mono ?_
  rintro e w2 ⟨rfl, b2⟩
  have HB2 := Lib.hid (HB1.out.trans (b2.mono HB1.out.size))
  clear b2
  go_wp2_with fail
  go_ret
  have hb := HB2.out
  exact ⟨rfl, (by have hszz := hb.size; repeat (first | with_reducible exact hb | with_reducible apply Below.drew | with_reducible refine below_drewN ?_ _ | (with_reducible refine Below.setCell ?_ ?_ _; rotate_left; focus (first | omega | (simp <;> omega))) | (with_reducible refine Below.alloc ?_ ?_ _; rotate_left; focus (first | omega | (simp <;> omega)))))⟩
set_option maxRecDepth 100000 in
set_option maxHeartbeats 2000000 in
theorem refnum_shift (s : ByteArray) (ia : Option Addr) (nin cin b o cI cR : Nat) (ra : Option Addr) (i0 i1 : Int) (w : World) (hz : s.toList = [115, 104, 105, 102, 116]) (hI : ZRow w (some ⟨b, o, none⟩) [i0, i1]) (hR : SRow w ra []) (hE : htE [] = 0) :
    Calls Tryz.prog 34 #[ndV s ia nin cin (some ⟨b, o, none⟩) 2 cI ra 0 cR] w fun e w' => e = .returned (.int .i64 (shiftE i0 i1)) ∧ Below w.heap.size w w' := by
  have KH : ∀ w', SRow w' ra [] → Calls Tryz.prog 49 #[.slice ra 0 cR] w' fun e w'' => e = .returned (.int .i64 0) ∧ w' = w'' := fun w' h => by
    have := refheight_any ra cR [] w' h
    rw [hE] at this
    exact this
  have KH := Lib.hid KH
  have HI := Lib.hid hI
  have HR := Lib.hid hR
  have hE0 := hE
  clear hI hR hE
  obtain ⟨M, hM, m1⟩ := min_two' i0 i1
  obtain ⟨X, hX, m2⟩ := max_two' i0 i1
  have HM1 := Lib.hid m1
  have HM2 := Lib.hid m2
  clear m1 m2
  unfold shiftE wB
  by_cases a1 : M < -64
  · have : ¬ ((-64 ≤ i0 ∧ i0 ≤ 64) ∧ (-64 ≤ i1 ∧ i1 ≤ 64)) := by have := HM1.out; omega
    rw [show (if (decide (-64 ≤ i0) && decide (i0 ≤ 64)) = true then (if (decide (-64 ≤ i1) && decide (i1 ≤ 64)) = true then (0 : Int) else 3) else 3) = 3 from by simp; omega]
    clear this
    go_enter Tryz.func34, Tryz.ntmps34
    go_upto_region 1 with fail
    generalize hW0 : w.alloc (.cells #[.string s, .slice ia nin cin, .slice (some ⟨b, o, none⟩) 2 cI, .slice ra 0 cR] 25) = W0
    have A0 : NdAt W0 w.heap.size s ia nin cin (some ⟨b, o, none⟩) 2 cI ra 0 cR := by subst hW0; exact NdAt.new _ _ _ _ _ _ _ _ _ _ _
    have b0 : Below w.heap.size w W0 := by subst hW0; exact (by repeat (first | with_reducible exact Below.refl _ _ | with_reducible apply Below.drew | with_reducible refine below_drewN ?_ _ | (with_reducible refine Below.setCell ?_ ?_ _; rotate_left; focus (first | omega | (simp <;> omega))) | (with_reducible refine Below.alloc ?_ ?_ _; rotate_left; focus (first | omega | (simp <;> omega)))))
    have HB0 := Lib.hid b0
    have HI0 := Lib.hid (HI.out.below b0)
    have HR0 := Lib.hid (HR.out.below b0)
    obtain ⟨p0, p1, p2, p3⟩ := A0.cells
    have l0 := A0.lt
    clear hW0 A0 b0 HI HR
    have x0 : W0.cell? ⟨b, o, none⟩ = some (.int .i64 i0) := HI0.out.at_ 0 (by simp)
    have x1 : W0.cell? ⟨b, o + 1, none⟩ = some (.int .i64 i1) := HI0.out.at_ 1 (by simp)
    have lb : b < W0.heap.size := HI0.out.lt (by simp)
    go_wp2_with fail
    refine (KH.out _ HR0.out).mono ?_
    rintro e w1 ⟨rfl, rfl⟩
    go_wp2_with fail
    go_quiet (fail)
    go_wp2_with fail
    go_ret
    have hb := HB0.out
    exact ⟨rfl, (by have hszz := hb.size; repeat (first | with_reducible exact hb | with_reducible apply Below.drew | with_reducible refine below_drewN ?_ _ | (with_reducible refine Below.setCell ?_ ?_ _; rotate_left; focus (first | omega | (simp <;> omega))) | (with_reducible refine Below.alloc ?_ ?_ _; rotate_left; focus (first | omega | (simp <;> omega)))))⟩
  · by_cases a2 : X > 64
    · have : ¬ ((-64 ≤ i0 ∧ i0 ≤ 64) ∧ (-64 ≤ i1 ∧ i1 ≤ 64)) := by have := HM2.out; omega
      rw [show (if (decide (-64 ≤ i0) && decide (i0 ≤ 64)) = true then (if (decide (-64 ≤ i1) && decide (i1 ≤ 64)) = true then (0 : Int) else 3) else 3) = 3 from by simp; omega]
      clear this
      go_enter Tryz.func34, Tryz.ntmps34
      go_upto_region 1 with fail
      generalize hW0 : w.alloc (.cells #[.string s, .slice ia nin cin, .slice (some ⟨b, o, none⟩) 2 cI, .slice ra 0 cR] 25) = W0
      have A0 : NdAt W0 w.heap.size s ia nin cin (some ⟨b, o, none⟩) 2 cI ra 0 cR := by subst hW0; exact NdAt.new _ _ _ _ _ _ _ _ _ _ _
      have b0 : Below w.heap.size w W0 := by subst hW0; exact (by repeat (first | with_reducible exact Below.refl _ _ | with_reducible apply Below.drew | with_reducible refine below_drewN ?_ _ | (with_reducible refine Below.setCell ?_ ?_ _; rotate_left; focus (first | omega | (simp <;> omega))) | (with_reducible refine Below.alloc ?_ ?_ _; rotate_left; focus (first | omega | (simp <;> omega)))))
      have HB0 := Lib.hid b0
      have HI0 := Lib.hid (HI.out.below b0)
      have HR0 := Lib.hid (HR.out.below b0)
      obtain ⟨p0, p1, p2, p3⟩ := A0.cells
      have l0 := A0.lt
      clear hW0 A0 b0 HI HR
      have x0 : W0.cell? ⟨b, o, none⟩ = some (.int .i64 i0) := HI0.out.at_ 0 (by simp)
      have x1 : W0.cell? ⟨b, o + 1, none⟩ = some (.int .i64 i1) := HI0.out.at_ 1 (by simp)
      have lb : b < W0.heap.size := HI0.out.lt (by simp)
      go_wp2_with fail
      refine (KH.out _ HR0.out).mono ?_
      rintro e w1 ⟨rfl, rfl⟩
      go_wp2_with fail
      go_quiet (fail)
      go_wp2_with fail
      go_ret
      have hb := HB0.out
      exact ⟨rfl, (by have hszz := hb.size; repeat (first | with_reducible exact hb | with_reducible apply Below.drew | with_reducible refine below_drewN ?_ _ | (with_reducible refine Below.setCell ?_ ?_ _; rotate_left; focus (first | omega | (simp <;> omega))) | (with_reducible refine Below.alloc ?_ ?_ _; rotate_left; focus (first | omega | (simp <;> omega)))))⟩
    · have : (-64 ≤ i0 ∧ i0 ≤ 64) ∧ (-64 ≤ i1 ∧ i1 ≤ 64) := by have := HM1.out; have := HM2.out; omega
      rw [if_pos (by simp; omega), if_pos (by simp; omega)]
      clear this
      go_enter Tryz.func34, Tryz.ntmps34
      go_upto_region 1 with fail
      generalize hW0 : w.alloc (.cells #[.string s, .slice ia nin cin, .slice (some ⟨b, o, none⟩) 2 cI, .slice ra 0 cR] 25) = W0
      have A0 : NdAt W0 w.heap.size s ia nin cin (some ⟨b, o, none⟩) 2 cI ra 0 cR := by subst hW0; exact NdAt.new _ _ _ _ _ _ _ _ _ _ _
      have b0 : Below w.heap.size w W0 := by subst hW0; exact (by repeat (first | with_reducible exact Below.refl _ _ | with_reducible apply Below.drew | with_reducible refine below_drewN ?_ _ | (with_reducible refine Below.setCell ?_ ?_ _; rotate_left; focus (first | omega | (simp <;> omega))) | (with_reducible refine Below.alloc ?_ ?_ _; rotate_left; focus (first | omega | (simp <;> omega)))))
      have HB0 := Lib.hid b0
      have HI0 := Lib.hid (HI.out.below b0)
      have HR0 := Lib.hid (HR.out.below b0)
      obtain ⟨p0, p1, p2, p3⟩ := A0.cells
      have l0 := A0.lt
      clear hW0 A0 b0 HI HR
      have x0 : W0.cell? ⟨b, o, none⟩ = some (.int .i64 i0) := HI0.out.at_ 0 (by simp)
      have x1 : W0.cell? ⟨b, o + 1, none⟩ = some (.int .i64 i1) := HI0.out.at_ 1 (by simp)
      have lb : b < W0.heap.size := HI0.out.lt (by simp)
      go_wp2_with fail
      refine (KH.out _ HR0.out).mono ?_
      rintro e w1 ⟨rfl, rfl⟩
      go_wp2_with fail
      go_quiet (fail)
      go_wp2_with fail
      go_ret
      have hb := HB0.out
      exact ⟨rfl, (by have hszz := hb.size; repeat (first | with_reducible exact hb | with_reducible apply Below.drew | with_reducible refine below_drewN ?_ _ | (with_reducible refine Below.setCell ?_ ?_ _; rotate_left; focus (first | omega | (simp <;> omega))) | (with_reducible refine Below.alloc ?_ ?_ _; rotate_left; focus (first | omega | (simp <;> omega)))))⟩
set_option maxRecDepth 100000 in
set_option maxHeartbeats 2000000 in
theorem refnum_blur (s : ByteArray) (ia : Option Addr) (nin cin b o cI cR : Nat) (ra : Option Addr) (i0 : Int) (w : World) (hz : s.toList = [98, 108, 117, 114]) (hI : ZRow w (some ⟨b, o, none⟩) [i0]) (hR : SRow w ra []) (hE : htE [] = 0) :
    Calls Tryz.prog 34 #[ndV s ia nin cin (some ⟨b, o, none⟩) 1 cI ra 0 cR] w fun e w' => e = .returned (.int .i64 (rngE i0 16)) ∧ Below w.heap.size w w' := by
  have KH : ∀ w', SRow w' ra [] → Calls Tryz.prog 49 #[.slice ra 0 cR] w' fun e w'' => e = .returned (.int .i64 0) ∧ w' = w'' := fun w' h => by
    have := refheight_any ra cR [] w' h
    rw [hE] at this
    exact this
  have KH := Lib.hid KH
  have HI := Lib.hid hI
  have HR := Lib.hid hR
  have hE0 := hE
  clear hI hR hE
  unfold rngE wB
  by_cases a1 : i0 < 0
  · rw [if_neg (by simp; omega)]
    go_enter Tryz.func34, Tryz.ntmps34
    go_upto_region 1 with fail
    generalize hW0 : w.alloc (.cells #[.string s, .slice ia nin cin, .slice (some ⟨b, o, none⟩) 1 cI, .slice ra 0 cR] 25) = W0
    have A0 : NdAt W0 w.heap.size s ia nin cin (some ⟨b, o, none⟩) 1 cI ra 0 cR := by subst hW0; exact NdAt.new _ _ _ _ _ _ _ _ _ _ _
    have b0 : Below w.heap.size w W0 := by subst hW0; exact (by repeat (first | with_reducible exact Below.refl _ _ | with_reducible apply Below.drew | with_reducible refine below_drewN ?_ _ | (with_reducible refine Below.setCell ?_ ?_ _; rotate_left; focus (first | omega | (simp <;> omega))) | (with_reducible refine Below.alloc ?_ ?_ _; rotate_left; focus (first | omega | (simp <;> omega)))))
    have HB0 := Lib.hid b0
    have HI0 := Lib.hid (HI.out.below b0)
    have HR0 := Lib.hid (HR.out.below b0)
    obtain ⟨p0, p1, p2, p3⟩ := A0.cells
    have l0 := A0.lt
    clear hW0 A0 b0 HI HR
    have x0 : W0.cell? ⟨b, o, none⟩ = some (.int .i64 i0) := HI0.out.at_ 0 (by simp)
    have lb : b < W0.heap.size := HI0.out.lt (by simp)
    go_wp2_with fail
    refine (KH.out _ HR0.out).mono ?_
    rintro e w1 ⟨rfl, rfl⟩
    go_wp2_with fail
    go_ret
    have hb := HB0.out
    exact ⟨rfl, (by have hszz := hb.size; repeat (first | with_reducible exact hb | with_reducible apply Below.drew | with_reducible refine below_drewN ?_ _ | (with_reducible refine Below.setCell ?_ ?_ _; rotate_left; focus (first | omega | (simp <;> omega))) | (with_reducible refine Below.alloc ?_ ?_ _; rotate_left; focus (first | omega | (simp <;> omega)))))⟩
  · by_cases a2 : i0 > 16
    · rw [if_neg (by simp; omega)]
      go_enter Tryz.func34, Tryz.ntmps34
      go_upto_region 1 with fail
      generalize hW0 : w.alloc (.cells #[.string s, .slice ia nin cin, .slice (some ⟨b, o, none⟩) 1 cI, .slice ra 0 cR] 25) = W0
      have A0 : NdAt W0 w.heap.size s ia nin cin (some ⟨b, o, none⟩) 1 cI ra 0 cR := by subst hW0; exact NdAt.new _ _ _ _ _ _ _ _ _ _ _
      have b0 : Below w.heap.size w W0 := by subst hW0; exact (by repeat (first | with_reducible exact Below.refl _ _ | with_reducible apply Below.drew | with_reducible refine below_drewN ?_ _ | (with_reducible refine Below.setCell ?_ ?_ _; rotate_left; focus (first | omega | (simp <;> omega))) | (with_reducible refine Below.alloc ?_ ?_ _; rotate_left; focus (first | omega | (simp <;> omega)))))
      have HB0 := Lib.hid b0
      have HI0 := Lib.hid (HI.out.below b0)
      have HR0 := Lib.hid (HR.out.below b0)
      obtain ⟨p0, p1, p2, p3⟩ := A0.cells
      have l0 := A0.lt
      clear hW0 A0 b0 HI HR
      have x0 : W0.cell? ⟨b, o, none⟩ = some (.int .i64 i0) := HI0.out.at_ 0 (by simp)
      have lb : b < W0.heap.size := HI0.out.lt (by simp)
      go_wp2_with fail
      refine (KH.out _ HR0.out).mono ?_
      rintro e w1 ⟨rfl, rfl⟩
      go_wp2_with fail
      go_ret
      have hb := HB0.out
      exact ⟨rfl, (by have hszz := hb.size; repeat (first | with_reducible exact hb | with_reducible apply Below.drew | with_reducible refine below_drewN ?_ _ | (with_reducible refine Below.setCell ?_ ?_ _; rotate_left; focus (first | omega | (simp <;> omega))) | (with_reducible refine Below.alloc ?_ ?_ _; rotate_left; focus (first | omega | (simp <;> omega)))))⟩
    · rw [if_pos (by simp; omega)]
      go_enter Tryz.func34, Tryz.ntmps34
      go_upto_region 1 with fail
      generalize hW0 : w.alloc (.cells #[.string s, .slice ia nin cin, .slice (some ⟨b, o, none⟩) 1 cI, .slice ra 0 cR] 25) = W0
      have A0 : NdAt W0 w.heap.size s ia nin cin (some ⟨b, o, none⟩) 1 cI ra 0 cR := by subst hW0; exact NdAt.new _ _ _ _ _ _ _ _ _ _ _
      have b0 : Below w.heap.size w W0 := by subst hW0; exact (by repeat (first | with_reducible exact Below.refl _ _ | with_reducible apply Below.drew | with_reducible refine below_drewN ?_ _ | (with_reducible refine Below.setCell ?_ ?_ _; rotate_left; focus (first | omega | (simp <;> omega))) | (with_reducible refine Below.alloc ?_ ?_ _; rotate_left; focus (first | omega | (simp <;> omega)))))
      have HB0 := Lib.hid b0
      have HI0 := Lib.hid (HI.out.below b0)
      have HR0 := Lib.hid (HR.out.below b0)
      obtain ⟨p0, p1, p2, p3⟩ := A0.cells
      have l0 := A0.lt
      clear hW0 A0 b0 HI HR
      have x0 : W0.cell? ⟨b, o, none⟩ = some (.int .i64 i0) := HI0.out.at_ 0 (by simp)
      have lb : b < W0.heap.size := HI0.out.lt (by simp)
      go_wp2_with fail
      refine (KH.out _ HR0.out).mono ?_
      rintro e w1 ⟨rfl, rfl⟩
      go_wp2_with fail
      go_ret
      have hb := HB0.out
      exact ⟨rfl, (by have hszz := hb.size; repeat (first | with_reducible exact hb | with_reducible apply Below.drew | with_reducible refine below_drewN ?_ _ | (with_reducible refine Below.setCell ?_ ?_ _; rotate_left; focus (first | omega | (simp <;> omega))) | (with_reducible refine Below.alloc ?_ ?_ _; rotate_left; focus (first | omega | (simp <;> omega)))))⟩
set_option maxRecDepth 100000 in
set_option maxHeartbeats 2000000 in
theorem refnum_smooth (s : ByteArray) (ia : Option Addr) (nin cin b o cI cR : Nat) (ra : Option Addr) (i0 : Int) (w : World) (hz : s.toList = [115, 109, 111, 111, 116, 104]) (hI : ZRow w (some ⟨b, o, none⟩) [i0]) (hR : SRow w ra []) (hE : htE [] = 0) :
    Calls Tryz.prog 34 #[ndV s ia nin cin (some ⟨b, o, none⟩) 1 cI ra 0 cR] w fun e w' => e = .returned (.int .i64 (rngE i0 64)) ∧ Below w.heap.size w w' := by
  have KH : ∀ w', SRow w' ra [] → Calls Tryz.prog 49 #[.slice ra 0 cR] w' fun e w'' => e = .returned (.int .i64 0) ∧ w' = w'' := fun w' h => by
    have := refheight_any ra cR [] w' h
    rw [hE] at this
    exact this
  have KH := Lib.hid KH
  have HI := Lib.hid hI
  have HR := Lib.hid hR
  have hE0 := hE
  clear hI hR hE
  unfold rngE wB
  by_cases a1 : i0 < 0
  · rw [if_neg (by simp; omega)]
    go_enter Tryz.func34, Tryz.ntmps34
    go_upto_region 1 with fail
    generalize hW0 : w.alloc (.cells #[.string s, .slice ia nin cin, .slice (some ⟨b, o, none⟩) 1 cI, .slice ra 0 cR] 25) = W0
    have A0 : NdAt W0 w.heap.size s ia nin cin (some ⟨b, o, none⟩) 1 cI ra 0 cR := by subst hW0; exact NdAt.new _ _ _ _ _ _ _ _ _ _ _
    have b0 : Below w.heap.size w W0 := by subst hW0; exact (by repeat (first | with_reducible exact Below.refl _ _ | with_reducible apply Below.drew | with_reducible refine below_drewN ?_ _ | (with_reducible refine Below.setCell ?_ ?_ _; rotate_left; focus (first | omega | (simp <;> omega))) | (with_reducible refine Below.alloc ?_ ?_ _; rotate_left; focus (first | omega | (simp <;> omega)))))
    have HB0 := Lib.hid b0
    have HI0 := Lib.hid (HI.out.below b0)
    have HR0 := Lib.hid (HR.out.below b0)
    obtain ⟨p0, p1, p2, p3⟩ := A0.cells
    have l0 := A0.lt
    clear hW0 A0 b0 HI HR
    have x0 : W0.cell? ⟨b, o, none⟩ = some (.int .i64 i0) := HI0.out.at_ 0 (by simp)
    have lb : b < W0.heap.size := HI0.out.lt (by simp)
    go_wp2_with fail
    refine (KH.out _ HR0.out).mono ?_
    rintro e w1 ⟨rfl, rfl⟩
    go_wp2_with fail
    go_ret
    have hb := HB0.out
    exact ⟨rfl, (by have hszz := hb.size; repeat (first | with_reducible exact hb | with_reducible apply Below.drew | with_reducible refine below_drewN ?_ _ | (with_reducible refine Below.setCell ?_ ?_ _; rotate_left; focus (first | omega | (simp <;> omega))) | (with_reducible refine Below.alloc ?_ ?_ _; rotate_left; focus (first | omega | (simp <;> omega)))))⟩
  · by_cases a2 : i0 > 64
    · rw [if_neg (by simp; omega)]
      go_enter Tryz.func34, Tryz.ntmps34
      go_upto_region 1 with fail
      generalize hW0 : w.alloc (.cells #[.string s, .slice ia nin cin, .slice (some ⟨b, o, none⟩) 1 cI, .slice ra 0 cR] 25) = W0
      have A0 : NdAt W0 w.heap.size s ia nin cin (some ⟨b, o, none⟩) 1 cI ra 0 cR := by subst hW0; exact NdAt.new _ _ _ _ _ _ _ _ _ _ _
      have b0 : Below w.heap.size w W0 := by subst hW0; exact (by repeat (first | with_reducible exact Below.refl _ _ | with_reducible apply Below.drew | with_reducible refine below_drewN ?_ _ | (with_reducible refine Below.setCell ?_ ?_ _; rotate_left; focus (first | omega | (simp <;> omega))) | (with_reducible refine Below.alloc ?_ ?_ _; rotate_left; focus (first | omega | (simp <;> omega)))))
      have HB0 := Lib.hid b0
      have HI0 := Lib.hid (HI.out.below b0)
      have HR0 := Lib.hid (HR.out.below b0)
      obtain ⟨p0, p1, p2, p3⟩ := A0.cells
      have l0 := A0.lt
      clear hW0 A0 b0 HI HR
      have x0 : W0.cell? ⟨b, o, none⟩ = some (.int .i64 i0) := HI0.out.at_ 0 (by simp)
      have lb : b < W0.heap.size := HI0.out.lt (by simp)
      go_wp2_with fail
      refine (KH.out _ HR0.out).mono ?_
      rintro e w1 ⟨rfl, rfl⟩
      go_wp2_with fail
      go_ret
      have hb := HB0.out
      exact ⟨rfl, (by have hszz := hb.size; repeat (first | with_reducible exact hb | with_reducible apply Below.drew | with_reducible refine below_drewN ?_ _ | (with_reducible refine Below.setCell ?_ ?_ _; rotate_left; focus (first | omega | (simp <;> omega))) | (with_reducible refine Below.alloc ?_ ?_ _; rotate_left; focus (first | omega | (simp <;> omega)))))⟩
    · rw [if_pos (by simp; omega)]
      go_enter Tryz.func34, Tryz.ntmps34
      go_upto_region 1 with fail
      generalize hW0 : w.alloc (.cells #[.string s, .slice ia nin cin, .slice (some ⟨b, o, none⟩) 1 cI, .slice ra 0 cR] 25) = W0
      have A0 : NdAt W0 w.heap.size s ia nin cin (some ⟨b, o, none⟩) 1 cI ra 0 cR := by subst hW0; exact NdAt.new _ _ _ _ _ _ _ _ _ _ _
      have b0 : Below w.heap.size w W0 := by subst hW0; exact (by repeat (first | with_reducible exact Below.refl _ _ | with_reducible apply Below.drew | with_reducible refine below_drewN ?_ _ | (with_reducible refine Below.setCell ?_ ?_ _; rotate_left; focus (first | omega | (simp <;> omega))) | (with_reducible refine Below.alloc ?_ ?_ _; rotate_left; focus (first | omega | (simp <;> omega)))))
      have HB0 := Lib.hid b0
      have HI0 := Lib.hid (HI.out.below b0)
      have HR0 := Lib.hid (HR.out.below b0)
      obtain ⟨p0, p1, p2, p3⟩ := A0.cells
      have l0 := A0.lt
      clear hW0 A0 b0 HI HR
      have x0 : W0.cell? ⟨b, o, none⟩ = some (.int .i64 i0) := HI0.out.at_ 0 (by simp)
      have lb : b < W0.heap.size := HI0.out.lt (by simp)
      go_wp2_with fail
      refine (KH.out _ HR0.out).mono ?_
      rintro e w1 ⟨rfl, rfl⟩
      go_wp2_with fail
      go_ret
      have hb := HB0.out
      exact ⟨rfl, (by have hszz := hb.size; repeat (first | with_reducible exact hb | with_reducible apply Below.drew | with_reducible refine below_drewN ?_ _ | (with_reducible refine Below.setCell ?_ ?_ _; rotate_left; focus (first | omega | (simp <;> omega))) | (with_reducible refine Below.alloc ?_ ?_ _; rotate_left; focus (first | omega | (simp <;> omega)))))⟩
set_option maxRecDepth 100000 in
set_option maxHeartbeats 2000000 in
theorem refnum_speckle (s : ByteArray) (ia : Option Addr) (nin cin b o cI rb ro cR : Nat) (i0 : Int) (r0 : Nat) (w : World) (hz : s.toList = [115, 112, 101, 99, 107, 108, 101]) (hI : ZRow w (some ⟨b, o, none⟩) [i0]) (hR : SRow w (some ⟨rb, ro, none⟩) [r0]) (hE : htE [r0] = 0) :
    Calls Tryz.prog 34 #[ndV s ia nin cin (some ⟨b, o, none⟩) 1 cI (some ⟨rb, ro, none⟩) 1 cR] w fun e w' => e = .returned (.int .i64 (sdE i0 (shareE r0))) ∧ Below w.heap.size w w' := by
  have h0 := hR.1.2 r0 (by simp)
  have KH : ∀ w', SRow w' (some ⟨rb, ro, none⟩) [r0] → Calls Tryz.prog 49 #[.slice (some ⟨rb, ro, none⟩) 1 cR] w' fun e w'' => e = .returned (.int .i64 0) ∧ w' = w'' := fun w' h => by
    have := refheight_any (some ⟨rb, ro, none⟩) cR [r0] w' h
    rw [hE] at this
    exact this
  have KH := Lib.hid KH
  have HI := Lib.hid hI
  have HR := Lib.hid hR
  have hE0 := hE
  clear hI hR hE
  have hs1 : ∀ c, wB i0 0 4294967295 = true → sdE i0 c = c := fun c h => by unfold sdE; rw [if_pos h]
  have hs2 : ∀ c, wB i0 0 4294967295 = false → sdE i0 c = 3 := fun c h => by unfold sdE; rw [if_neg (by rw [h]; decide)]
  have KW0 : ∀ w : World, Calls Tryz.prog 50 #[.int .i64 i0] w fun e w' => e = .returned (.int .i64 (sdE i0 0)) ∧ w = w' := fun w => refseed_any i0 w
  have KC : ∀ w', _ := fun w' => refshare_any r0 1065353216 h0 w'
  rw [shareE_two] at KC
  have KC := Lib.hid KC
  cases hw : wB i0 0 4294967295 with
  | true =>
    rw [hs1 _ hw]
    have KW : ∀ w : World, Calls Tryz.prog 50 #[.int .i64 i0] w fun e w' => e = .returned (.int .i64 0) ∧ w = w' := fun w => by
      have := KW0 w
      rw [hs1 _ hw] at this
      exact this
    have KW := Lib.hid KW
    clear KW0 hs1 hs2
    go_enter Tryz.func34, Tryz.ntmps34
    go_upto_region 1 with fail
    generalize hW0 : w.alloc (.cells #[.string s, .slice ia nin cin, .slice (some ⟨b, o, none⟩) 1 cI, .slice (some ⟨rb, ro, none⟩) 1 cR] 25) = W0
    have A0 : NdAt W0 w.heap.size s ia nin cin (some ⟨b, o, none⟩) 1 cI (some ⟨rb, ro, none⟩) 1 cR := by subst hW0; exact NdAt.new _ _ _ _ _ _ _ _ _ _ _
    have b0 : Below w.heap.size w W0 := by subst hW0; exact (by repeat (first | with_reducible exact Below.refl _ _ | with_reducible apply Below.drew | with_reducible refine below_drewN ?_ _ | (with_reducible refine Below.setCell ?_ ?_ _; rotate_left; focus (first | omega | (simp <;> omega))) | (with_reducible refine Below.alloc ?_ ?_ _; rotate_left; focus (first | omega | (simp <;> omega)))))
    have HB0 := Lib.hid b0
    have HI0 := Lib.hid (HI.out.below b0)
    have HR0 := Lib.hid (HR.out.below b0)
    obtain ⟨p0, p1, p2, p3⟩ := A0.cells
    have l0 := A0.lt
    clear hW0 A0 b0 HI HR
    have x0 : W0.cell? ⟨b, o, none⟩ = some (.int .i64 i0) := HI0.out.at_ 0 (by simp)
    have lb : b < W0.heap.size := HI0.out.lt (by simp)
    have y0 : W0.cell? ⟨rb, ro, none⟩ = some (.float .f32 r0) := HR0.out.cell1 0 (by simp)
    have lrb : rb < W0.heap.size := HR0.out.lt1 (by simp)
    go_wp2_with fail
    refine (KH.out _ HR0.out).mono ?_
    rintro e w1 ⟨rfl, rfl⟩
    go_wp2_with (go_at_call 50; refine (KW.out _).mono ?_; rintro e w' ⟨rfl, rfl⟩)
    refine (KC.out _).mono ?_
    rintro e w2 ⟨rfl, b2⟩
    have HB2 := Lib.hid (HB0.out.trans (b2.mono HB0.out.size))
    clear b2
    go_wp2_with fail
    go_ret
    have hb := HB2.out
    exact ⟨rfl, (by have hszz := hb.size; repeat (first | with_reducible exact hb | with_reducible apply Below.drew | with_reducible refine below_drewN ?_ _ | (with_reducible refine Below.setCell ?_ ?_ _; rotate_left; focus (first | omega | (simp <;> omega))) | (with_reducible refine Below.alloc ?_ ?_ _; rotate_left; focus (first | omega | (simp <;> omega)))))⟩
  | false =>
    rw [hs2 _ hw]
    have KW : ∀ w : World, Calls Tryz.prog 50 #[.int .i64 i0] w fun e w' => e = .returned (.int .i64 3) ∧ w = w' := fun w => by
      have := KW0 w
      rw [hs2 _ hw] at this
      exact this
    have KW := Lib.hid KW
    clear KW0 hs1 hs2
    go_enter Tryz.func34, Tryz.ntmps34
    go_upto_region 1 with fail
    generalize hW0 : w.alloc (.cells #[.string s, .slice ia nin cin, .slice (some ⟨b, o, none⟩) 1 cI, .slice (some ⟨rb, ro, none⟩) 1 cR] 25) = W0
    have A0 : NdAt W0 w.heap.size s ia nin cin (some ⟨b, o, none⟩) 1 cI (some ⟨rb, ro, none⟩) 1 cR := by subst hW0; exact NdAt.new _ _ _ _ _ _ _ _ _ _ _
    have b0 : Below w.heap.size w W0 := by subst hW0; exact (by repeat (first | with_reducible exact Below.refl _ _ | with_reducible apply Below.drew | with_reducible refine below_drewN ?_ _ | (with_reducible refine Below.setCell ?_ ?_ _; rotate_left; focus (first | omega | (simp <;> omega))) | (with_reducible refine Below.alloc ?_ ?_ _; rotate_left; focus (first | omega | (simp <;> omega)))))
    have HB0 := Lib.hid b0
    have HI0 := Lib.hid (HI.out.below b0)
    have HR0 := Lib.hid (HR.out.below b0)
    obtain ⟨p0, p1, p2, p3⟩ := A0.cells
    have l0 := A0.lt
    clear hW0 A0 b0 HI HR
    have x0 : W0.cell? ⟨b, o, none⟩ = some (.int .i64 i0) := HI0.out.at_ 0 (by simp)
    have lb : b < W0.heap.size := HI0.out.lt (by simp)
    have y0 : W0.cell? ⟨rb, ro, none⟩ = some (.float .f32 r0) := HR0.out.cell1 0 (by simp)
    have lrb : rb < W0.heap.size := HR0.out.lt1 (by simp)
    go_wp2_with fail
    refine (KH.out _ HR0.out).mono ?_
    rintro e w1 ⟨rfl, rfl⟩
    go_wp2_with (go_at_call 50; refine (KW.out _).mono ?_; rintro e w' ⟨rfl, rfl⟩)
    go_ret
    have hb := HB0.out
    exact ⟨rfl, (by have hszz := hb.size; repeat (first | with_reducible exact hb | with_reducible apply Below.drew | with_reducible refine below_drewN ?_ _ | (with_reducible refine Below.setCell ?_ ?_ _; rotate_left; focus (first | omega | (simp <;> omega))) | (with_reducible refine Below.alloc ?_ ?_ _; rotate_left; focus (first | omega | (simp <;> omega)))))⟩
set_option maxRecDepth 100000 in
set_option maxHeartbeats 2000000 in
theorem refnum_clamp (s : ByteArray) (ia : Option Addr) (nin cin cI rb ro cR : Nat) (la : Option Addr) (r0 r1 : Nat) (w : World) (hz : s.toList = [99, 108, 97, 109, 112]) (hI : ZRow w la []) (hR : SRow w (some ⟨rb, ro, none⟩) [r0, r1]) (hE : htE [r0, r1] = 0) :
    Calls Tryz.prog 34 #[ndV s ia nin cin la 0 cI (some ⟨rb, ro, none⟩) 2 cR] w fun e w' => e = .returned (.int .i64 (clampC r0 r1)) ∧ Below w.heap.size w w' := by
  have h0 := hR.1.2 r0 (by simp)
  have h1 := hR.1.2 r1 (by simp)
  have KH : ∀ w', SRow w' (some ⟨rb, ro, none⟩) [r0, r1] → Calls Tryz.prog 49 #[.slice (some ⟨rb, ro, none⟩) 2 cR] w' fun e w'' => e = .returned (.int .i64 0) ∧ w' = w'' := fun w' h => by
    have := refheight_any (some ⟨rb, ro, none⟩) cR [r0, r1] w' h
    rw [hE] at this
    exact this
  have KH := Lib.hid KH
  have HI := Lib.hid hI
  have HR := Lib.hid hR
  have hE0 := hE
  clear hI hR hE
  unfold clampC
  rw [if_neg (by rw [hE0]; decide)]
  clear hE0
  cases c1 : (Go.FloatKind.f32.format.order r0 r1 == some .gt) with
  | true =>
    rw [if_pos rfl]
    go_enter Tryz.func34, Tryz.ntmps34
    go_upto_region 1 with fail
    generalize hW0 : w.alloc (.cells #[.string s, .slice ia nin cin, .slice la 0 cI, .slice (some ⟨rb, ro, none⟩) 2 cR] 25) = W0
    have A0 : NdAt W0 w.heap.size s ia nin cin la 0 cI (some ⟨rb, ro, none⟩) 2 cR := by subst hW0; exact NdAt.new _ _ _ _ _ _ _ _ _ _ _
    have b0 : Below w.heap.size w W0 := by subst hW0; exact (by repeat (first | with_reducible exact Below.refl _ _ | with_reducible apply Below.drew | with_reducible refine below_drewN ?_ _ | (with_reducible refine Below.setCell ?_ ?_ _; rotate_left; focus (first | omega | (simp <;> omega))) | (with_reducible refine Below.alloc ?_ ?_ _; rotate_left; focus (first | omega | (simp <;> omega)))))
    have HB0 := Lib.hid b0
    have HI0 := Lib.hid (HI.out.below b0)
    have HR0 := Lib.hid (HR.out.below b0)
    obtain ⟨p0, p1, p2, p3⟩ := A0.cells
    have l0 := A0.lt
    clear hW0 A0 b0 HI HR
    have y0 : W0.cell? ⟨rb, ro, none⟩ = some (.float .f32 r0) := HR0.out.cell1 0 (by simp)
    have y1 : W0.cell? ⟨rb, ro + 1, none⟩ = some (.float .f32 r1) := HR0.out.cell1 1 (by simp)
    have lrb : rb < W0.heap.size := HR0.out.lt1 (by simp)
    go_wp2_with fail
    refine (KH.out _ HR0.out).mono ?_
    rintro e w1 ⟨rfl, rfl⟩
    go_wp2_with fail
    go_quiet (fail)
    go_wp2_with fail
    go_ret
    have hb := HB0.out
    exact ⟨rfl, (by have hszz := hb.size; repeat (first | with_reducible exact hb | with_reducible apply Below.drew | with_reducible refine below_drewN ?_ _ | (with_reducible refine Below.setCell ?_ ?_ _; rotate_left; focus (first | omega | (simp <;> omega))) | (with_reducible refine Below.alloc ?_ ?_ _; rotate_left; focus (first | omega | (simp <;> omega)))))⟩
  | false =>
    rw [if_neg (by decide)]
    go_enter Tryz.func34, Tryz.ntmps34
    go_upto_region 1 with fail
    generalize hW0 : w.alloc (.cells #[.string s, .slice ia nin cin, .slice la 0 cI, .slice (some ⟨rb, ro, none⟩) 2 cR] 25) = W0
    have A0 : NdAt W0 w.heap.size s ia nin cin la 0 cI (some ⟨rb, ro, none⟩) 2 cR := by subst hW0; exact NdAt.new _ _ _ _ _ _ _ _ _ _ _
    have b0 : Below w.heap.size w W0 := by subst hW0; exact (by repeat (first | with_reducible exact Below.refl _ _ | with_reducible apply Below.drew | with_reducible refine below_drewN ?_ _ | (with_reducible refine Below.setCell ?_ ?_ _; rotate_left; focus (first | omega | (simp <;> omega))) | (with_reducible refine Below.alloc ?_ ?_ _; rotate_left; focus (first | omega | (simp <;> omega)))))
    have HB0 := Lib.hid b0
    have HI0 := Lib.hid (HI.out.below b0)
    have HR0 := Lib.hid (HR.out.below b0)
    obtain ⟨p0, p1, p2, p3⟩ := A0.cells
    have l0 := A0.lt
    clear hW0 A0 b0 HI HR
    have y0 : W0.cell? ⟨rb, ro, none⟩ = some (.float .f32 r0) := HR0.out.cell1 0 (by simp)
    have y1 : W0.cell? ⟨rb, ro + 1, none⟩ = some (.float .f32 r1) := HR0.out.cell1 1 (by simp)
    have lrb : rb < W0.heap.size := HR0.out.lt1 (by simp)
    go_wp2_with fail
    refine (KH.out _ HR0.out).mono ?_
    rintro e w1 ⟨rfl, rfl⟩
    go_wp2_with fail
    go_quiet (fail)
    go_wp2_with fail
    go_ret
    have hb := HB0.out
    exact ⟨rfl, (by have hszz := hb.size; repeat (first | with_reducible exact hb | with_reducible apply Below.drew | with_reducible refine below_drewN ?_ _ | (with_reducible refine Below.setCell ?_ ?_ _; rotate_left; focus (first | omega | (simp <;> omega))) | (with_reducible refine Below.alloc ?_ ?_ _; rotate_left; focus (first | omega | (simp <;> omega)))))⟩
set_option maxRecDepth 100000 in
set_option maxHeartbeats 2000000 in
theorem refnum_select (s : ByteArray) (ia : Option Addr) (nin cin cI rb ro cR : Nat) (la : Option Addr) (r0 r1 r2 : Nat) (w : World) (hz : s.toList = [115, 101, 108, 101, 99, 116]) (hI : ZRow w la []) (hR : SRow w (some ⟨rb, ro, none⟩) [r0, r1, r2]) (hE : htE [r0, r1, r2] = 0) :
    Calls Tryz.prog 34 #[ndV s ia nin cin la 0 cI (some ⟨rb, ro, none⟩) 3 cR] w fun e w' => e = .returned (.int .i64 (selC r0 r1 r2)) ∧ Below w.heap.size w w' := by
  have h0 := hR.1.2 r0 (by simp)
  have h1 := hR.1.2 r1 (by simp)
  have h2 := hR.1.2 r2 (by simp)
  have KH : ∀ w', SRow w' (some ⟨rb, ro, none⟩) [r0, r1, r2] → Calls Tryz.prog 49 #[.slice (some ⟨rb, ro, none⟩) 3 cR] w' fun e w'' => e = .returned (.int .i64 0) ∧ w' = w'' := fun w' h => by
    have := refheight_any (some ⟨rb, ro, none⟩) cR [r0, r1, r2] w' h
    rw [hE] at this
    exact this
  have KH := Lib.hid KH
  have HI := Lib.hid hI
  have HR := Lib.hid hR
  have hE0 := hE
  clear hI hR hE
  have KC := Lib.hid (fun w' => selecterror_any r0 r1 r2 w' h0 h1 h2)
  go_enter Tryz.func34, Tryz.ntmps34
  go_upto_region 1 with fail
  generalize hW0 : w.alloc (.cells #[.string s, .slice ia nin cin, .slice la 0 cI, .slice (some ⟨rb, ro, none⟩) 3 cR] 25) = W0
  have A0 : NdAt W0 w.heap.size s ia nin cin la 0 cI (some ⟨rb, ro, none⟩) 3 cR := by subst hW0; exact NdAt.new _ _ _ _ _ _ _ _ _ _ _
  have b0 : Below w.heap.size w W0 := by subst hW0; exact (by repeat (first | with_reducible exact Below.refl _ _ | with_reducible apply Below.drew | with_reducible refine below_drewN ?_ _ | (with_reducible refine Below.setCell ?_ ?_ _; rotate_left; focus (first | omega | (simp <;> omega))) | (with_reducible refine Below.alloc ?_ ?_ _; rotate_left; focus (first | omega | (simp <;> omega)))))
  have HB0 := Lib.hid b0
  have HI0 := Lib.hid (HI.out.below b0)
  have HR0 := Lib.hid (HR.out.below b0)
  obtain ⟨p0, p1, p2, p3⟩ := A0.cells
  have l0 := A0.lt
  clear hW0 A0 b0 HI HR
  have y0 : W0.cell? ⟨rb, ro, none⟩ = some (.float .f32 r0) := HR0.out.cell1 0 (by simp)
  have y1 : W0.cell? ⟨rb, ro + 1, none⟩ = some (.float .f32 r1) := HR0.out.cell1 1 (by simp)
  have y2 : W0.cell? ⟨rb, ro + 2, none⟩ = some (.float .f32 r2) := HR0.out.cell1 2 (by simp)
  have lrb : rb < W0.heap.size := HR0.out.lt1 (by simp)
  go_wp2_with fail
  refine (KH.out _ HR0.out).mono ?_
  rintro e w1 ⟨rfl, rfl⟩
  go_wp2_with fail
  go_still_tail 9, (by kernel_rfl)
  change wpList _ _ _ _ _ W0.drew
  go_wp2_with fail
  refine (KC.out _).mono ?_
  rintro e w2 ⟨rfl, b2⟩
  have HB2 := Lib.hid (HB0.out.drew.trans (b2.mono HB0.out.drew.size))
  clear b2
  go_wp2_with fail
  go_ret
  have hb := HB2.out
  exact ⟨rfl, (by have hszz := hb.size; repeat (first | with_reducible exact hb | with_reducible apply Below.drew | with_reducible refine below_drewN ?_ _ | (with_reducible refine Below.setCell ?_ ?_ _; rotate_left; focus (first | omega | (simp <;> omega))) | (with_reducible refine Below.alloc ?_ ?_ _; rotate_left; focus (first | omega | (simp <;> omega)))))⟩
set_option maxRecDepth 100000 in
set_option maxHeartbeats 2000000 in
theorem refnum_terrace (s : ByteArray) (ia : Option Addr) (nin cin cI rb ro cR : Nat) (la : Option Addr) (r0 r1 : Nat) (w : World) (hz : s.toList = [116, 101, 114, 114, 97, 99, 101]) (hI : ZRow w la []) (hR : SRow w (some ⟨rb, ro, none⟩) [r0, r1]) (hE : htE [r0, r1] = 0) :
    Calls Tryz.prog 34 #[ndV s ia nin cin la 0 cI (some ⟨rb, ro, none⟩) 2 cR] w fun e w' => e = .returned (.int .i64 (terC r0 r1)) ∧ Below w.heap.size w w' := by
  have h0 := hR.1.2 r0 (by simp)
  have h1 := hR.1.2 r1 (by simp)
  have KH : ∀ w', SRow w' (some ⟨rb, ro, none⟩) [r0, r1] → Calls Tryz.prog 49 #[.slice (some ⟨rb, ro, none⟩) 2 cR] w' fun e w'' => e = .returned (.int .i64 0) ∧ w' = w'' := fun w' h => by
    have := refheight_any (some ⟨rb, ro, none⟩) cR [r0, r1] w' h
    rw [hE] at this
    exact this
  have KH := Lib.hid KH
  have HI := Lib.hid hI
  have HR := Lib.hid hR
  have hE0 := hE
  clear hI hR hE
  have KC := Lib.hid (fun w' => terraceerror_any r0 r1 w' h0 h1)
  go_enter Tryz.func34, Tryz.ntmps34
  go_upto_region 1 with fail
  generalize hW0 : w.alloc (.cells #[.string s, .slice ia nin cin, .slice la 0 cI, .slice (some ⟨rb, ro, none⟩) 2 cR] 25) = W0
  have A0 : NdAt W0 w.heap.size s ia nin cin la 0 cI (some ⟨rb, ro, none⟩) 2 cR := by subst hW0; exact NdAt.new _ _ _ _ _ _ _ _ _ _ _
  have b0 : Below w.heap.size w W0 := by subst hW0; exact (by repeat (first | with_reducible exact Below.refl _ _ | with_reducible apply Below.drew | with_reducible refine below_drewN ?_ _ | (with_reducible refine Below.setCell ?_ ?_ _; rotate_left; focus (first | omega | (simp <;> omega))) | (with_reducible refine Below.alloc ?_ ?_ _; rotate_left; focus (first | omega | (simp <;> omega)))))
  have HB0 := Lib.hid b0
  have HI0 := Lib.hid (HI.out.below b0)
  have HR0 := Lib.hid (HR.out.below b0)
  obtain ⟨p0, p1, p2, p3⟩ := A0.cells
  have l0 := A0.lt
  clear hW0 A0 b0 HI HR
  have y0 : W0.cell? ⟨rb, ro, none⟩ = some (.float .f32 r0) := HR0.out.cell1 0 (by simp)
  have y1 : W0.cell? ⟨rb, ro + 1, none⟩ = some (.float .f32 r1) := HR0.out.cell1 1 (by simp)
  have lrb : rb < W0.heap.size := HR0.out.lt1 (by simp)
  go_wp2_with fail
  refine (KH.out _ HR0.out).mono ?_
  rintro e w1 ⟨rfl, rfl⟩
  go_wp2_with fail
  go_still_tail 6, (by kernel_rfl)
  change wpList _ _ _ _ _ W0.drew
  go_wp2_with fail
  refine (KC.out _).mono ?_
  rintro e w2 ⟨rfl, b2⟩
  have HB2 := Lib.hid (HB0.out.drew.trans (b2.mono HB0.out.drew.size))
  clear b2
  go_wp2_with fail
  go_ret
  have hb := HB2.out
  exact ⟨rfl, (by have hszz := hb.size; repeat (first | with_reducible exact hb | with_reducible apply Below.drew | with_reducible refine below_drewN ?_ _ | (with_reducible refine Below.setCell ?_ ?_ _; rotate_left; focus (first | omega | (simp <;> omega))) | (with_reducible refine Below.alloc ?_ ?_ _; rotate_left; focus (first | omega | (simp <;> omega)))))⟩
set_option maxRecDepth 100000 in
set_option maxHeartbeats 2000000 in
theorem refnum_dither (s : ByteArray) (ia : Option Addr) (nin cin b o cI rb ro cR : Nat) (i0 : Int) (r0 : Nat) (w : World) (hz : s.toList = [100, 105, 116, 104, 101, 114]) (hI : ZRow w (some ⟨b, o, none⟩) [i0]) (hR : SRow w (some ⟨rb, ro, none⟩) [r0]) (hE : htE [r0] = 0) :
    Calls Tryz.prog 34 #[ndV s ia nin cin (some ⟨b, o, none⟩) 1 cI (some ⟨rb, ro, none⟩) 1 cR] w fun e w' => e = .returned (.int .i64 (sdE i0 (dithE r0))) ∧ Below w.heap.size w w' := by
  have h0 := hR.1.2 r0 (by simp)
  have KH : ∀ w', SRow w' (some ⟨rb, ro, none⟩) [r0] → Calls Tryz.prog 49 #[.slice (some ⟨rb, ro, none⟩) 1 cR] w' fun e w'' => e = .returned (.int .i64 0) ∧ w' = w'' := fun w' h => by
    have := refheight_any (some ⟨rb, ro, none⟩) cR [r0] w' h
    rw [hE] at this
    exact this
  have KH := Lib.hid KH
  have HI := Lib.hid hI
  have HR := Lib.hid hR
  have hE0 := hE
  clear hI hR hE
  have hs1 : ∀ c, wB i0 0 4294967295 = true → sdE i0 c = c := fun c h => by unfold sdE; rw [if_pos h]
  have hs2 : ∀ c, wB i0 0 4294967295 = false → sdE i0 c = 3 := fun c h => by unfold sdE; rw [if_neg (by rw [h]; decide)]
  have KW0 : ∀ w : World, Calls Tryz.prog 50 #[.int .i64 i0] w fun e w' => e = .returned (.int .i64 (sdE i0 0)) ∧ w = w' := fun w => refseed_any i0 w
  have HFin : Hid (finE [r0] = 0) := by
    have h := (Ieee.Format.allHt_iff.1 (Ieee.Format.htE_zero hE0) r0 (by simp)).fin
    exact Ieee.Format.finE_ok (by unfold allFin; simp [h])
  cases hw : wB i0 0 4294967295 with
  | true =>
    rw [hs1 _ hw]
    have KW : ∀ w : World, Calls Tryz.prog 50 #[.int .i64 i0] w fun e w' => e = .returned (.int .i64 0) ∧ w = w' := fun w => by
      have := KW0 w
      rw [hs1 _ hw] at this
      exact this
    have KW := Lib.hid KW
    clear KW0 hs1 hs2
    unfold dithE
    have hf : finE [r0] = 0 := HFin.out
    rw [if_neg (by rw [hf]; decide)]
    unfold stepC
    clear hf
    cases c1 : lss r0 981467136 with
    | true =>
      change (FloatKind.f32.format.order r0 981467136 == some .lt) = true at c1
      rw [if_pos rfl]
      go_enter Tryz.func34, Tryz.ntmps34
      go_upto_region 1 with fail
      generalize hW0 : w.alloc (.cells #[.string s, .slice ia nin cin, .slice (some ⟨b, o, none⟩) 1 cI, .slice (some ⟨rb, ro, none⟩) 1 cR] 25) = W0
      have A0 : NdAt W0 w.heap.size s ia nin cin (some ⟨b, o, none⟩) 1 cI (some ⟨rb, ro, none⟩) 1 cR := by subst hW0; exact NdAt.new _ _ _ _ _ _ _ _ _ _ _
      have b0 : Below w.heap.size w W0 := by subst hW0; exact (by repeat (first | with_reducible exact Below.refl _ _ | with_reducible apply Below.drew | with_reducible refine below_drewN ?_ _ | (with_reducible refine Below.setCell ?_ ?_ _; rotate_left; focus (first | omega | (simp <;> omega))) | (with_reducible refine Below.alloc ?_ ?_ _; rotate_left; focus (first | omega | (simp <;> omega)))))
      have HB0 := Lib.hid b0
      have HI0 := Lib.hid (HI.out.below b0)
      have HR0 := Lib.hid (HR.out.below b0)
      obtain ⟨p0, p1, p2, p3⟩ := A0.cells
      have l0 := A0.lt
      clear hW0 A0 b0 HI HR
      have x0 : W0.cell? ⟨b, o, none⟩ = some (.int .i64 i0) := HI0.out.at_ 0 (by simp)
      have lb : b < W0.heap.size := HI0.out.lt (by simp)
      have y0 : W0.cell? ⟨rb, ro, none⟩ = some (.float .f32 r0) := HR0.out.cell1 0 (by simp)
      have lrb : rb < W0.heap.size := HR0.out.lt1 (by simp)
      go_wp2_with fail
      refine (KH.out _ HR0.out).mono ?_
      rintro e w1 ⟨rfl, rfl⟩
      go_wp2_with (go_at_call 50; refine (KW.out _).mono ?_; rintro e w' ⟨rfl, rfl⟩)
      go_ret
      have hb := HB0.out
      exact ⟨rfl, (by have hszz := hb.size; repeat (first | with_reducible exact hb | with_reducible apply Below.drew | with_reducible refine below_drewN ?_ _ | (with_reducible refine Below.setCell ?_ ?_ _; rotate_left; focus (first | omega | (simp <;> omega))) | (with_reducible refine Below.alloc ?_ ?_ _; rotate_left; focus (first | omega | (simp <;> omega)))))⟩
    | false =>
      change (FloatKind.f32.format.order r0 981467136 == some .lt) = false at c1
      rw [if_neg (by decide)]
      cases c2 : gtr r0 1149239296 with
      | true =>
        change (FloatKind.f32.format.order r0 1149239296 == some .gt) = true at c2
        rw [if_pos rfl]
        go_enter Tryz.func34, Tryz.ntmps34
        go_upto_region 1 with fail
        generalize hW0 : w.alloc (.cells #[.string s, .slice ia nin cin, .slice (some ⟨b, o, none⟩) 1 cI, .slice (some ⟨rb, ro, none⟩) 1 cR] 25) = W0
        have A0 : NdAt W0 w.heap.size s ia nin cin (some ⟨b, o, none⟩) 1 cI (some ⟨rb, ro, none⟩) 1 cR := by subst hW0; exact NdAt.new _ _ _ _ _ _ _ _ _ _ _
        have b0 : Below w.heap.size w W0 := by subst hW0; exact (by repeat (first | with_reducible exact Below.refl _ _ | with_reducible apply Below.drew | with_reducible refine below_drewN ?_ _ | (with_reducible refine Below.setCell ?_ ?_ _; rotate_left; focus (first | omega | (simp <;> omega))) | (with_reducible refine Below.alloc ?_ ?_ _; rotate_left; focus (first | omega | (simp <;> omega)))))
        have HB0 := Lib.hid b0
        have HI0 := Lib.hid (HI.out.below b0)
        have HR0 := Lib.hid (HR.out.below b0)
        obtain ⟨p0, p1, p2, p3⟩ := A0.cells
        have l0 := A0.lt
        clear hW0 A0 b0 HI HR
        have x0 : W0.cell? ⟨b, o, none⟩ = some (.int .i64 i0) := HI0.out.at_ 0 (by simp)
        have lb : b < W0.heap.size := HI0.out.lt (by simp)
        have y0 : W0.cell? ⟨rb, ro, none⟩ = some (.float .f32 r0) := HR0.out.cell1 0 (by simp)
        have lrb : rb < W0.heap.size := HR0.out.lt1 (by simp)
        go_wp2_with fail
        refine (KH.out _ HR0.out).mono ?_
        rintro e w1 ⟨rfl, rfl⟩
        go_wp2_with (go_at_call 50; refine (KW.out _).mono ?_; rintro e w' ⟨rfl, rfl⟩)
        go_ret
        have hb := HB0.out
        exact ⟨rfl, (by have hszz := hb.size; repeat (first | with_reducible exact hb | with_reducible apply Below.drew | with_reducible refine below_drewN ?_ _ | (with_reducible refine Below.setCell ?_ ?_ _; rotate_left; focus (first | omega | (simp <;> omega))) | (with_reducible refine Below.alloc ?_ ?_ _; rotate_left; focus (first | omega | (simp <;> omega)))))⟩
      | false =>
        change (FloatKind.f32.format.order r0 1149239296 == some .gt) = false at c2
        rw [if_neg (by decide)]
        go_enter Tryz.func34, Tryz.ntmps34
        go_upto_region 1 with fail
        generalize hW0 : w.alloc (.cells #[.string s, .slice ia nin cin, .slice (some ⟨b, o, none⟩) 1 cI, .slice (some ⟨rb, ro, none⟩) 1 cR] 25) = W0
        have A0 : NdAt W0 w.heap.size s ia nin cin (some ⟨b, o, none⟩) 1 cI (some ⟨rb, ro, none⟩) 1 cR := by subst hW0; exact NdAt.new _ _ _ _ _ _ _ _ _ _ _
        have b0 : Below w.heap.size w W0 := by subst hW0; exact (by repeat (first | with_reducible exact Below.refl _ _ | with_reducible apply Below.drew | with_reducible refine below_drewN ?_ _ | (with_reducible refine Below.setCell ?_ ?_ _; rotate_left; focus (first | omega | (simp <;> omega))) | (with_reducible refine Below.alloc ?_ ?_ _; rotate_left; focus (first | omega | (simp <;> omega)))))
        have HB0 := Lib.hid b0
        have HI0 := Lib.hid (HI.out.below b0)
        have HR0 := Lib.hid (HR.out.below b0)
        obtain ⟨p0, p1, p2, p3⟩ := A0.cells
        have l0 := A0.lt
        clear hW0 A0 b0 HI HR
        have x0 : W0.cell? ⟨b, o, none⟩ = some (.int .i64 i0) := HI0.out.at_ 0 (by simp)
        have lb : b < W0.heap.size := HI0.out.lt (by simp)
        have y0 : W0.cell? ⟨rb, ro, none⟩ = some (.float .f32 r0) := HR0.out.cell1 0 (by simp)
        have lrb : rb < W0.heap.size := HR0.out.lt1 (by simp)
        go_wp2_with fail
        refine (KH.out _ HR0.out).mono ?_
        rintro e w1 ⟨rfl, rfl⟩
        go_wp2_with (go_at_call 50; refine (KW.out _).mono ?_; rintro e w' ⟨rfl, rfl⟩)
        go_ret
        have hb := HB0.out
        exact ⟨rfl, (by have hszz := hb.size; repeat (first | with_reducible exact hb | with_reducible apply Below.drew | with_reducible refine below_drewN ?_ _ | (with_reducible refine Below.setCell ?_ ?_ _; rotate_left; focus (first | omega | (simp <;> omega))) | (with_reducible refine Below.alloc ?_ ?_ _; rotate_left; focus (first | omega | (simp <;> omega)))))⟩
  | false =>
    rw [hs2 _ hw]
    have KW : ∀ w : World, Calls Tryz.prog 50 #[.int .i64 i0] w fun e w' => e = .returned (.int .i64 3) ∧ w = w' := fun w => by
      have := KW0 w
      rw [hs2 _ hw] at this
      exact this
    have KW := Lib.hid KW
    clear KW0 hs1 hs2
    go_enter Tryz.func34, Tryz.ntmps34
    go_upto_region 1 with fail
    generalize hW0 : w.alloc (.cells #[.string s, .slice ia nin cin, .slice (some ⟨b, o, none⟩) 1 cI, .slice (some ⟨rb, ro, none⟩) 1 cR] 25) = W0
    have A0 : NdAt W0 w.heap.size s ia nin cin (some ⟨b, o, none⟩) 1 cI (some ⟨rb, ro, none⟩) 1 cR := by subst hW0; exact NdAt.new _ _ _ _ _ _ _ _ _ _ _
    have b0 : Below w.heap.size w W0 := by subst hW0; exact (by repeat (first | with_reducible exact Below.refl _ _ | with_reducible apply Below.drew | with_reducible refine below_drewN ?_ _ | (with_reducible refine Below.setCell ?_ ?_ _; rotate_left; focus (first | omega | (simp <;> omega))) | (with_reducible refine Below.alloc ?_ ?_ _; rotate_left; focus (first | omega | (simp <;> omega)))))
    have HB0 := Lib.hid b0
    have HI0 := Lib.hid (HI.out.below b0)
    have HR0 := Lib.hid (HR.out.below b0)
    obtain ⟨p0, p1, p2, p3⟩ := A0.cells
    have l0 := A0.lt
    clear hW0 A0 b0 HI HR
    have x0 : W0.cell? ⟨b, o, none⟩ = some (.int .i64 i0) := HI0.out.at_ 0 (by simp)
    have lb : b < W0.heap.size := HI0.out.lt (by simp)
    have y0 : W0.cell? ⟨rb, ro, none⟩ = some (.float .f32 r0) := HR0.out.cell1 0 (by simp)
    have lrb : rb < W0.heap.size := HR0.out.lt1 (by simp)
    go_wp2_with fail
    refine (KH.out _ HR0.out).mono ?_
    rintro e w1 ⟨rfl, rfl⟩
    go_wp2_with (go_at_call 50; refine (KW.out _).mono ?_; rintro e w' ⟨rfl, rfl⟩)
    go_ret
    have hb := HB0.out
    exact ⟨rfl, (by have hszz := hb.size; repeat (first | with_reducible exact hb | with_reducible apply Below.drew | with_reducible refine below_drewN ?_ _ | (with_reducible refine Below.setCell ?_ ?_ _; rotate_left; focus (first | omega | (simp <;> omega))) | (with_reducible refine Below.alloc ?_ ?_ _; rotate_left; focus (first | omega | (simp <;> omega)))))⟩
set_option maxRecDepth 100000 in
set_option maxHeartbeats 2000000 in
theorem refnum_shade (s : ByteArray) (ia : Option Addr) (nin cin b o cI cR : Nat) (ra : Option Addr) (i0 i1 i2 : Int) (w : World) (hz : s.toList = [115, 104, 97, 100, 101]) (hI : ZRow w (some ⟨b, o, none⟩) [i0, i1, i2]) (hR : SRow w ra []) (hE : htE [] = 0) :
    Calls Tryz.prog 34 #[ndV s ia nin cin (some ⟨b, o, none⟩) 3 cI ra 0 cR] w fun e w' => e = .returned (.int .i64 (lightE i0 i1 i2)) ∧ Below w.heap.size w w' := by
  have KH : ∀ w', SRow w' ra [] → Calls Tryz.prog 49 #[.slice ra 0 cR] w' fun e w'' => e = .returned (.int .i64 0) ∧ w' = w'' := fun w' h => by
    have := refheight_any ra cR [] w' h
    rw [hE] at this
    exact this
  have KH := Lib.hid KH
  have HI := Lib.hid hI
  have HR := Lib.hid hR
  have hE0 := hE
  clear hI hR hE
  have KC := Lib.hid (fun w' => lighterror_any i0 i1 i2 w')
  go_enter Tryz.func34, Tryz.ntmps34
  go_upto_region 1 with fail
  generalize hW0 : w.alloc (.cells #[.string s, .slice ia nin cin, .slice (some ⟨b, o, none⟩) 3 cI, .slice ra 0 cR] 25) = W0
  have A0 : NdAt W0 w.heap.size s ia nin cin (some ⟨b, o, none⟩) 3 cI ra 0 cR := by subst hW0; exact NdAt.new _ _ _ _ _ _ _ _ _ _ _
  have b0 : Below w.heap.size w W0 := by subst hW0; exact (by repeat (first | with_reducible exact Below.refl _ _ | with_reducible apply Below.drew | with_reducible refine below_drewN ?_ _ | (with_reducible refine Below.setCell ?_ ?_ _; rotate_left; focus (first | omega | (simp <;> omega))) | (with_reducible refine Below.alloc ?_ ?_ _; rotate_left; focus (first | omega | (simp <;> omega)))))
  have HB0 := Lib.hid b0
  have HI0 := Lib.hid (HI.out.below b0)
  have HR0 := Lib.hid (HR.out.below b0)
  obtain ⟨p0, p1, p2, p3⟩ := A0.cells
  have l0 := A0.lt
  clear hW0 A0 b0 HI HR
  have x0 : W0.cell? ⟨b, o, none⟩ = some (.int .i64 i0) := HI0.out.at_ 0 (by simp)
  have x1 : W0.cell? ⟨b, o + 1, none⟩ = some (.int .i64 i1) := HI0.out.at_ 1 (by simp)
  have x2 : W0.cell? ⟨b, o + 2, none⟩ = some (.int .i64 i2) := HI0.out.at_ 2 (by simp)
  have lb : b < W0.heap.size := HI0.out.lt (by simp)
  go_wp2_with fail
  refine (KH.out _ HR0.out).mono ?_
  rintro e w1 ⟨rfl, rfl⟩
  go_wp2_with fail
  go_still_tail 12, (by kernel_rfl)
  change wpList _ _ _ _ _ W0.drew
  go_wp2_with fail
  refine (KC.out _).mono ?_
  rintro e w2 ⟨rfl, rfl⟩
  go_wp2_with fail
  go_ret
  have hb := HB0.out
  exact ⟨rfl, (by have hszz := hb.size; repeat (first | with_reducible exact hb | with_reducible apply Below.drew | with_reducible refine below_drewN ?_ _ | (with_reducible refine Below.setCell ?_ ?_ _; rotate_left; focus (first | omega | (simp <;> omega))) | (with_reducible refine Below.alloc ?_ ?_ _; rotate_left; focus (first | omega | (simp <;> omega)))))⟩
set_option maxRecDepth 100000 in
set_option maxHeartbeats 2000000 in
theorem refnum_plain (s : ByteArray) (ia : Option Addr) (nin cin : Nat) (la : Option Addr) (nI cI : Nat) (ra : Option Addr) (cR : Nat) (l : List Nat) (w : World) (k0 : (s.toList == [110, 111, 105, 115, 101]) = false) (k1 : (s.toList == [119, 97, 114, 112]) = false) (k2 : (s.toList == [115, 112, 101, 99, 107, 108, 101]) = false) (k3 : (s.toList == [100, 105, 116, 104, 101, 114]) = false) (k4 : (s.toList == [115, 116, 97, 109, 112]) = false) (k5 : (s.toList == [102, 97, 117, 108, 116]) = false) (k6 : (s.toList == [102, 111, 108, 100]) = false) (k7 : (s.toList == [116, 104, 101, 114, 109, 97, 108]) = false) (k8 : (s.toList == [115, 104, 105, 102, 116]) = false) (k9 : (s.toList == [98, 108, 117, 114]) = false) (k10 : (s.toList == [115, 109, 111, 111, 116, 104]) = false) (k11 : (s.toList == [99, 108, 97, 109, 112]) = false) (k12 : (s.toList == [115, 101, 108, 101, 99, 116]) = false) (k13 : (s.toList == [116, 101, 114, 114, 97, 99, 101]) = false) (k14 : (s.toList == [115, 104, 97, 100, 101]) = false) (hR : SRow w ra l) (hE : htE l = 0) :
    Calls Tryz.prog 34 #[ndV s ia nin cin la nI cI ra l.length cR] w fun e w' => e = .returned (.int .i64 (0)) ∧ Below w.heap.size w w' := by
  have KH : ∀ w', SRow w' ra l → Calls Tryz.prog 49 #[.slice ra l.length cR] w' fun e w'' => e = .returned (.int .i64 (0)) ∧ w' = w'' := fun w' h => by
    have := refheight_any ra cR l w' h
    rw [hE] at this
    exact this
  have KH := Lib.hid KH
  have HR := Lib.hid hR
  clear hR
  generalize l.length = n at *
  clear hE
  go_enter Tryz.func34, Tryz.ntmps34
  go_upto_region 1 with fail
  generalize hW0 : w.alloc (.cells #[.string s, .slice ia nin cin, .slice la nI cI, .slice ra n cR] 25) = W0
  have A0 : NdAt W0 w.heap.size s ia nin cin la nI cI ra n cR := by subst hW0; exact NdAt.new _ _ _ _ _ _ _ _ _ _ _
  have b0 : Below w.heap.size w W0 := by subst hW0; exact (by repeat (first | with_reducible exact Below.refl _ _ | with_reducible apply Below.drew | with_reducible refine below_drewN ?_ _ | (with_reducible refine Below.setCell ?_ ?_ _; rotate_left; focus (first | omega | (simp <;> omega))) | (with_reducible refine Below.alloc ?_ ?_ _; rotate_left; focus (first | omega | (simp <;> omega)))))
  have HB0 := Lib.hid b0
  have HR0 := Lib.hid (HR.out.below b0)
  obtain ⟨p0, p1, p2, p3⟩ := A0.cells
  have l0 := A0.lt
  clear hW0 A0 b0 HR
  go_wp2_with fail
  refine (KH.out _ HR0.out).mono ?_
  rintro e w1 ⟨rfl, rfl⟩
  go_wp2_with fail
  go_ret
  have hb := HB0.out
  exact ⟨rfl, (by have hszz := hb.size; repeat (first | with_reducible exact hb | with_reducible apply Below.drew | with_reducible refine below_drewN ?_ _ | (with_reducible refine Below.setCell ?_ ?_ _; rotate_left; focus (first | omega | (simp <;> omega))) | (with_reducible refine Below.alloc ?_ ?_ _; rotate_left; focus (first | omega | (simp <;> omega)))))⟩
set_option maxRecDepth 100000 in
set_option maxHeartbeats 2000000 in
theorem refnum_bad (s : ByteArray) (ia : Option Addr) (nin cin : Nat) (la : Option Addr) (nI cI : Nat) (ra : Option Addr) (cR : Nat) (l : List Nat) (w : World)  (hR : SRow w ra l) (hE : htE l ≠ 0) :
    Calls Tryz.prog 34 #[ndV s ia nin cin la nI cI ra l.length cR] w fun e w' => e = .returned (.int .i64 (htE l)) ∧ Below w.heap.size w w' := by
  have KH : ∀ w', SRow w' ra l → Calls Tryz.prog 49 #[.slice ra l.length cR] w' fun e w'' => e = .returned (.int .i64 (htE l)) ∧ w' = w'' := fun w' h => by
    have := refheight_any ra cR l w' h
    skip
    exact this
  have KH := Lib.hid KH
  have HR := Lib.hid hR
  clear hR
  have hb : (htE l != 0) = true := by simpa using hE
  clear hE
  generalize htE l = z at *
  generalize l.length = n at *
  go_enter Tryz.func34, Tryz.ntmps34
  go_upto_region 1 with fail
  generalize hW0 : w.alloc (.cells #[.string s, .slice ia nin cin, .slice la nI cI, .slice ra n cR] 25) = W0
  have A0 : NdAt W0 w.heap.size s ia nin cin la nI cI ra n cR := by subst hW0; exact NdAt.new _ _ _ _ _ _ _ _ _ _ _
  have b0 : Below w.heap.size w W0 := by subst hW0; exact (by repeat (first | with_reducible exact Below.refl _ _ | with_reducible apply Below.drew | with_reducible refine below_drewN ?_ _ | (with_reducible refine Below.setCell ?_ ?_ _; rotate_left; focus (first | omega | (simp <;> omega))) | (with_reducible refine Below.alloc ?_ ?_ _; rotate_left; focus (first | omega | (simp <;> omega)))))
  have HB0 := Lib.hid b0
  have HR0 := Lib.hid (HR.out.below b0)
  obtain ⟨p0, p1, p2, p3⟩ := A0.cells
  have l0 := A0.lt
  clear hW0 A0 b0 HR
  go_wp2_with fail
  refine (KH.out _ HR0.out).mono ?_
  rintro e w1 ⟨rfl, rfl⟩
  go_wp2_with fail
  go_ret
  have hb := HB0.out
  exact ⟨rfl, (by have hszz := hb.size; repeat (first | with_reducible exact hb | with_reducible apply Below.drew | with_reducible refine below_drewN ?_ _ | (with_reducible refine Below.setCell ?_ ?_ _; rotate_left; focus (first | omega | (simp <;> omega))) | (with_reducible refine Below.alloc ?_ ?_ _; rotate_left; focus (first | omega | (simp <;> omega)))))⟩
end Go.Proofs.YtimhpmccmafnpaaGreat
