import Derived.Test.YtimhpmccmafnpaaGreatG15
import Derived.Test.YtimhpmccmafnpaaGreatG18
import Derived.Test.YtimhpmccmafnpaaGreatG17
import Derived.Test.YtimhpmccmafnpaaGreatG13
import Derived.BigQuiet
import Derived.Deep.CutBlock
import Derived.Deep.QuietTactic
import Derived.Deep.DeepCutAuto
import Derived.StillTailTactics
import Derived.IntWalk
namespace Go.Proofs.YtimhpmccmafnpaaGreat
open Go.ChangeShapes Go.WideShapes Go.ChangeAt Go.RowKit
open Ieee.Format (fin finE htE allFin allHt all_true all_false mulF subF addF Ht Bd divF rootF floorF easeF mixF)
set_option linter.unusedVariables false

/-- a number from low to high -/
def wB (k lo hi : Int) : Bool := decide (lo ≤ k) && decide (k ≤ hi)
/-- the code of a seed ahead of another one -/
def sdE (i c : Int) : Int := if wB i 0 4294967295 = true then c else 3
def rngE (i hi : Int) : Int := if wB i 0 hi = true then 0 else 3
def shiftE (i j : Int) : Int := if wB i (-64) 64 = true then (if wB j (-64) 64 = true then 0 else 3) else 3

theorem rwithin_any (k lo hi : Int) (w : World) : Calls Tryz.prog 18 #[.int .i64 k, .int .i64 lo, .int .i64 hi] w fun e w' => e = .returned (.bool (wB k lo hi)) ∧ w = w' := by
  go_enter Tryz.func18, Tryz.ntmps18
  go_wp2
  all_goals go_ret
  all_goals refine ⟨congrArg (fun b => Ending.returned (.bool b)) ?_, rfl⟩
  all_goals unfold wB
  all_goals (rw [Bool.eq_iff_iff]; simp; try omega)
set_option maxRecDepth 100000 in
set_option maxHeartbeats 2000000 in
theorem num_noise (s : ByteArray) (ia : Option Addr) (nin cin b o cI rb ro cR : Nat) (i0 i1 i2 i3 : Int) (r0 : Nat) (w : World) (hz : s.toList = [110, 111, 105, 115, 101]) (hI : ZRow w (some ⟨b, o, none⟩) [i0, i1, i2, i3]) (hR : SRow w (some ⟨rb, ro, none⟩) [r0]) (hE : htE [r0] = 0) :
    Calls Tryz.prog 9 #[ndV s ia nin cin (some ⟨b, o, none⟩) 4 cI (some ⟨rb, ro, none⟩) 1 cR] w fun e w' => e = .returned (.int .i64 (sdE i1 (frE i0 i2 i3 r0))) ∧ Below w.heap.size w w' := by
  have h0 := hR.1.2 r0 (by simp)
  have KH : ∀ w', SRow w' (some ⟨rb, ro, none⟩) [r0] → Calls Tryz.prog 16 #[.slice (some ⟨rb, ro, none⟩) 1 cR] w' fun e w'' => e = .returned (.int .i64 0) ∧ w' = w'' := fun w' h => by
    have := heights_any (some ⟨rb, ro, none⟩) cR [r0] w' h
    rw [hE] at this
    exact this
  have KH := Lib.hid KH
  have HI := Lib.hid hI
  have HR := Lib.hid hR
  clear hI hR hE
  have KW := Lib.hid (fun k lo hi w => rwithin_any k lo hi w)
  have KM : ∀ w', ZRow w' (some ⟨b, o, none⟩) [i0, i1, i2, i3] → SRow w' (some ⟨rb, ro, none⟩) [r0] → _ := fun w' hI hR => mk_fractal s ia nin cin b o cI rb ro 1 cR i0 i1 i2 i3 r0 [r0] w' hI hR rfl rfl
  have KM := Lib.hid KM
  have KC := Lib.hid (fun w' => frcheck_any i0 (i1 % 4294967296) i2 i3 r0 h0 w')
  unfold frV at KC
  unfold sdE
  cases hw : wB i1 0 4294967295 with
  | true =>
    rw [if_pos rfl]
    go_enter Tryz.func9, Tryz.ntmps9
    go_upto_region 1 with fail
    generalize hW0 : w.alloc (.cells #[.string s, .slice ia nin cin, .slice (some ⟨b, o, none⟩) 4 cI, .slice (some ⟨rb, ro, none⟩) 1 cR] 25) = W0
    have A0 : NdAt W0 w.heap.size s ia nin cin (some ⟨b, o, none⟩) 4 cI (some ⟨rb, ro, none⟩) 1 cR := by subst hW0; exact NdAt.new _ _ _ _ _ _ _ _ _ _ _
    have b0 : Below w.heap.size w W0 := by subst hW0; exact (by repeat (first | with_reducible exact Below.refl _ _ | with_reducible apply Below.drew | with_reducible refine below_drewN ?_ _ | (with_reducible refine Below.setCell ?_ ?_ _; rotate_left; focus (first | omega | (simp <;> omega))) | (with_reducible refine Below.alloc ?_ ?_ _; rotate_left; focus (first | omega | (simp <;> omega)))))
    have HB0 := Lib.hid b0
    have HI0 := Lib.hid (HI.out.below b0)
    have HR0 := Lib.hid (HR.out.below b0)
    obtain ⟨p0, p1, p2, p3⟩ := A0.cells
    have l0 := A0.lt
    clear hW0 A0 b0 HI HR
    have x0 : W0.cell? ⟨b, o, none⟩ = some (.int .i64 i0) := HI0.out.at_ 0 (by simp)
    have x1 : W0.cell? ⟨b, o + 1, none⟩ = some (.int .i64 i1) := HI0.out.at_ 1 (by simp)
    have x2 : W0.cell? ⟨b, o + 2, none⟩ = some (.int .i64 i2) := HI0.out.at_ 2 (by simp)
    have x3 : W0.cell? ⟨b, o + 3, none⟩ = some (.int .i64 i3) := HI0.out.at_ 3 (by simp)
    have lb : b < W0.heap.size := HI0.out.lt (by simp)
    have y0 : W0.cell? ⟨rb, ro, none⟩ = some (.float .f32 r0) := HR0.out.cell1 0 (by simp)
    have lrb : rb < W0.heap.size := HR0.out.lt1 (by simp)
    go_wp2_with fail
    refine (KH.out _ HR0.out).mono ?_
    rintro e w1 ⟨rfl, rfl⟩
    go_wp2_with (first | (go_at_call 17; go_in) | (go_at_call 18; refine (KW.out _ _ _ _).mono ?_; rintro e w' ⟨rfl, rfl⟩))
    refine (KM.out _ HI0.out HR0.out).mono ?_
    rintro e w1 ⟨rfl, b1⟩
    have HB1 := Lib.hid (HB0.out.trans (b1.mono HB0.out.size))
    clear b1
    go_wp2_with fail
    refine (KC.out _).mono ?_
    rintro e w2 ⟨rfl, b2⟩
    have HB2 := Lib.hid (HB1.out.trans (b2.mono HB1.out.size))
    clear b2
    go_wp2_with fail
    go_ret
    have hb := HB2.out
    exact ⟨rfl, (by have hszz := hb.size; repeat (first | with_reducible exact hb | with_reducible apply Below.drew | with_reducible refine below_drewN ?_ _ | (with_reducible refine Below.setCell ?_ ?_ _; rotate_left; focus (first | omega | (simp <;> omega))) | (with_reducible refine Below.alloc ?_ ?_ _; rotate_left; focus (first | omega | (simp <;> omega)))))⟩
  | false =>
    rw [if_neg (by decide)]
    go_enter Tryz.func9, Tryz.ntmps9
    go_upto_region 1 with fail
    generalize hW0 : w.alloc (.cells #[.string s, .slice ia nin cin, .slice (some ⟨b, o, none⟩) 4 cI, .slice (some ⟨rb, ro, none⟩) 1 cR] 25) = W0
    have A0 : NdAt W0 w.heap.size s ia nin cin (some ⟨b, o, none⟩) 4 cI (some ⟨rb, ro, none⟩) 1 cR := by subst hW0; exact NdAt.new _ _ _ _ _ _ _ _ _ _ _
    have b0 : Below w.heap.size w W0 := by subst hW0; exact (by repeat (first | with_reducible exact Below.refl _ _ | with_reducible apply Below.drew | with_reducible refine below_drewN ?_ _ | (with_reducible refine Below.setCell ?_ ?_ _; rotate_left; focus (first | omega | (simp <;> omega))) | (with_reducible refine Below.alloc ?_ ?_ _; rotate_left; focus (first | omega | (simp <;> omega)))))
    have HB0 := Lib.hid b0
    have HI0 := Lib.hid (HI.out.below b0)
    have HR0 := Lib.hid (HR.out.below b0)
    obtain ⟨p0, p1, p2, p3⟩ := A0.cells
    have l0 := A0.lt
    clear hW0 A0 b0 HI HR
    have x0 : W0.cell? ⟨b, o, none⟩ = some (.int .i64 i0) := HI0.out.at_ 0 (by simp)
    have x1 : W0.cell? ⟨b, o + 1, none⟩ = some (.int .i64 i1) := HI0.out.at_ 1 (by simp)
    have x2 : W0.cell? ⟨b, o + 2, none⟩ = some (.int .i64 i2) := HI0.out.at_ 2 (by simp)
    have x3 : W0.cell? ⟨b, o + 3, none⟩ = some (.int .i64 i3) := HI0.out.at_ 3 (by simp)
    have lb : b < W0.heap.size := HI0.out.lt (by simp)
    have y0 : W0.cell? ⟨rb, ro, none⟩ = some (.float .f32 r0) := HR0.out.cell1 0 (by simp)
    have lrb : rb < W0.heap.size := HR0.out.lt1 (by simp)
    go_wp2_with fail
    refine (KH.out _ HR0.out).mono ?_
    rintro e w1 ⟨rfl, rfl⟩
    go_wp2_with (first | (go_at_call 17; go_in) | (go_at_call 18; refine (KW.out _ _ _ _).mono ?_; rintro e w' ⟨rfl, rfl⟩))
    go_ret
    have hb := HB0.out
    exact ⟨rfl, (by have hszz := hb.size; repeat (first | with_reducible exact hb | with_reducible apply Below.drew | with_reducible refine below_drewN ?_ _ | (with_reducible refine Below.setCell ?_ ?_ _; rotate_left; focus (first | omega | (simp <;> omega))) | (with_reducible refine Below.alloc ?_ ?_ _; rotate_left; focus (first | omega | (simp <;> omega)))))⟩
set_option maxRecDepth 100000 in
set_option maxHeartbeats 2000000 in
theorem num_warp (s : ByteArray) (ia : Option Addr) (nin cin b o cI rb ro cR : Nat) (i0 i1 i2 i3 : Int) (r0 r1 : Nat) (w : World) (hz : s.toList = [119, 97, 114, 112]) (hI : ZRow w (some ⟨b, o, none⟩) [i0, i1, i2, i3]) (hR : SRow w (some ⟨rb, ro, none⟩) [r0, r1]) (hE : htE [r0, r1] = 0) :
    Calls Tryz.prog 9 #[ndV s ia nin cin (some ⟨b, o, none⟩) 4 cI (some ⟨rb, ro, none⟩) 2 cR] w fun e w' => e = .returned (.int .i64 (sdE i1 (wpE i0 i2 i3 r0 r1))) ∧ Below w.heap.size w w' := by
  have h0 := hR.1.2 r0 (by simp)
  have h1 := hR.1.2 r1 (by simp)
  have KH : ∀ w', SRow w' (some ⟨rb, ro, none⟩) [r0, r1] → Calls Tryz.prog 16 #[.slice (some ⟨rb, ro, none⟩) 2 cR] w' fun e w'' => e = .returned (.int .i64 0) ∧ w' = w'' := fun w' h => by
    have := heights_any (some ⟨rb, ro, none⟩) cR [r0, r1] w' h
    rw [hE] at this
    exact this
  have KH := Lib.hid KH
  have HI := Lib.hid hI
  have HR := Lib.hid hR
  clear hI hR hE
  have KW := Lib.hid (fun k lo hi w => rwithin_any k lo hi w)
  have KM : ∀ w', ZRow w' (some ⟨b, o, none⟩) [i0, i1, i2, i3] → SRow w' (some ⟨rb, ro, none⟩) [r0, r1] → _ := fun w' hI hR => mk_warp s ia nin cin b o cI rb ro 2 cR i0 i1 i2 i3 r0 r1 [r0, r1] w' hI hR rfl rfl
  have KM := Lib.hid KM
  have KC := Lib.hid (fun w' => wpcheck_any i0 (i1 % 4294967296) i2 i3 r0 r1 h0 h1 w')
  unfold wpV at KC KM
  unfold sdE
  cases hw : wB i1 0 4294967295 with
  | true =>
    rw [if_pos rfl]
    go_enter Tryz.func9, Tryz.ntmps9
    go_upto_region 1 with fail
    generalize hW0 : w.alloc (.cells #[.string s, .slice ia nin cin, .slice (some ⟨b, o, none⟩) 4 cI, .slice (some ⟨rb, ro, none⟩) 2 cR] 25) = W0
    have A0 : NdAt W0 w.heap.size s ia nin cin (some ⟨b, o, none⟩) 4 cI (some ⟨rb, ro, none⟩) 2 cR := by subst hW0; exact NdAt.new _ _ _ _ _ _ _ _ _ _ _
    have b0 : Below w.heap.size w W0 := by subst hW0; exact (by repeat (first | with_reducible exact Below.refl _ _ | with_reducible apply Below.drew | with_reducible refine below_drewN ?_ _ | (with_reducible refine Below.setCell ?_ ?_ _; rotate_left; focus (first | omega | (simp <;> omega))) | (with_reducible refine Below.alloc ?_ ?_ _; rotate_left; focus (first | omega | (simp <;> omega)))))
    have HB0 := Lib.hid b0
    have HI0 := Lib.hid (HI.out.below b0)
    have HR0 := Lib.hid (HR.out.below b0)
    obtain ⟨p0, p1, p2, p3⟩ := A0.cells
    have l0 := A0.lt
    clear hW0 A0 b0 HI HR
    have x0 : W0.cell? ⟨b, o, none⟩ = some (.int .i64 i0) := HI0.out.at_ 0 (by simp)
    have x1 : W0.cell? ⟨b, o + 1, none⟩ = some (.int .i64 i1) := HI0.out.at_ 1 (by simp)
    have x2 : W0.cell? ⟨b, o + 2, none⟩ = some (.int .i64 i2) := HI0.out.at_ 2 (by simp)
    have x3 : W0.cell? ⟨b, o + 3, none⟩ = some (.int .i64 i3) := HI0.out.at_ 3 (by simp)
    have lb : b < W0.heap.size := HI0.out.lt (by simp)
    have y0 : W0.cell? ⟨rb, ro, none⟩ = some (.float .f32 r0) := HR0.out.cell1 0 (by simp)
    have y1 : W0.cell? ⟨rb, ro + 1, none⟩ = some (.float .f32 r1) := HR0.out.cell1 1 (by simp)
    have lrb : rb < W0.heap.size := HR0.out.lt1 (by simp)
    go_wp2_with fail
    refine (KH.out _ HR0.out).mono ?_
    rintro e w1 ⟨rfl, rfl⟩
    go_wp2_with (first | (go_at_call 17; go_in) | (go_at_call 18; refine (KW.out _ _ _ _).mono ?_; rintro e w' ⟨rfl, rfl⟩))
    refine (KM.out _ HI0.out HR0.out).mono ?_
    rintro e w1 ⟨rfl, b1⟩
    have HB1 := Lib.hid (HB0.out.trans (b1.mono HB0.out.size))
    clear b1
    go_wp2_with fail
    refine (KC.out _).mono ?_
    rintro e w2 ⟨rfl, b2⟩
    have HB2 := Lib.hid (HB1.out.trans (b2.mono HB1.out.size))
    clear b2
    go_wp2_with fail
    go_ret
    have hb := HB2.out
    exact ⟨rfl, (by have hszz := hb.size; repeat (first | with_reducible exact hb | with_reducible apply Below.drew | with_reducible refine below_drewN ?_ _ | (with_reducible refine Below.setCell ?_ ?_ _; rotate_left; focus (first | omega | (simp <;> omega))) | (with_reducible refine Below.alloc ?_ ?_ _; rotate_left; focus (first | omega | (simp <;> omega)))))⟩
  | false =>
    rw [if_neg (by decide)]
    go_enter Tryz.func9, Tryz.ntmps9
    go_upto_region 1 with fail
    generalize hW0 : w.alloc (.cells #[.string s, .slice ia nin cin, .slice (some ⟨b, o, none⟩) 4 cI, .slice (some ⟨rb, ro, none⟩) 2 cR] 25) = W0
    have A0 : NdAt W0 w.heap.size s ia nin cin (some ⟨b, o, none⟩) 4 cI (some ⟨rb, ro, none⟩) 2 cR := by subst hW0; exact NdAt.new _ _ _ _ _ _ _ _ _ _ _
    have b0 : Below w.heap.size w W0 := by subst hW0; exact (by repeat (first | with_reducible exact Below.refl _ _ | with_reducible apply Below.drew | with_reducible refine below_drewN ?_ _ | (with_reducible refine Below.setCell ?_ ?_ _; rotate_left; focus (first | omega | (simp <;> omega))) | (with_reducible refine Below.alloc ?_ ?_ _; rotate_left; focus (first | omega | (simp <;> omega)))))
    have HB0 := Lib.hid b0
    have HI0 := Lib.hid (HI.out.below b0)
    have HR0 := Lib.hid (HR.out.below b0)
    obtain ⟨p0, p1, p2, p3⟩ := A0.cells
    have l0 := A0.lt
    clear hW0 A0 b0 HI HR
    have x0 : W0.cell? ⟨b, o, none⟩ = some (.int .i64 i0) := HI0.out.at_ 0 (by simp)
    have x1 : W0.cell? ⟨b, o + 1, none⟩ = some (.int .i64 i1) := HI0.out.at_ 1 (by simp)
    have x2 : W0.cell? ⟨b, o + 2, none⟩ = some (.int .i64 i2) := HI0.out.at_ 2 (by simp)
    have x3 : W0.cell? ⟨b, o + 3, none⟩ = some (.int .i64 i3) := HI0.out.at_ 3 (by simp)
    have lb : b < W0.heap.size := HI0.out.lt (by simp)
    have y0 : W0.cell? ⟨rb, ro, none⟩ = some (.float .f32 r0) := HR0.out.cell1 0 (by simp)
    have y1 : W0.cell? ⟨rb, ro + 1, none⟩ = some (.float .f32 r1) := HR0.out.cell1 1 (by simp)
    have lrb : rb < W0.heap.size := HR0.out.lt1 (by simp)
    go_wp2_with fail
    refine (KH.out _ HR0.out).mono ?_
    rintro e w1 ⟨rfl, rfl⟩
    go_wp2_with (first | (go_at_call 17; go_in) | (go_at_call 18; refine (KW.out _ _ _ _).mono ?_; rintro e w' ⟨rfl, rfl⟩))
    go_ret
    have hb := HB0.out
    exact ⟨rfl, (by have hszz := hb.size; repeat (first | with_reducible exact hb | with_reducible apply Below.drew | with_reducible refine below_drewN ?_ _ | (with_reducible refine Below.setCell ?_ ?_ _; rotate_left; focus (first | omega | (simp <;> omega))) | (with_reducible refine Below.alloc ?_ ?_ _; rotate_left; focus (first | omega | (simp <;> omega)))))⟩
set_option maxRecDepth 100000 in
set_option maxHeartbeats 2000000 in
theorem num_stamp (s : ByteArray) (ia : Option Addr) (nin cin b o cI rb ro cR : Nat) (i0 i1 i2 i3 : Int) (r0 : Nat) (w : World) (hz : s.toList = [115, 116, 97, 109, 112]) (hI : ZRow w (some ⟨b, o, none⟩) [i0, i1, i2, i3]) (hR : SRow w (some ⟨rb, ro, none⟩) [r0]) (hE : htE [r0] = 0) :
    Calls Tryz.prog 9 #[ndV s ia nin cin (some ⟨b, o, none⟩) 4 cI (some ⟨rb, ro, none⟩) 1 cR] w fun e w' => e = .returned (.int .i64 (brushE i0 i1 i2 i3 r0)) ∧ Below w.heap.size w w' := by
  have h0 := hR.1.2 r0 (by simp)
  have KH : ∀ w', SRow w' (some ⟨rb, ro, none⟩) [r0] → Calls Tryz.prog 16 #[.slice (some ⟨rb, ro, none⟩) 1 cR] w' fun e w'' => e = .returned (.int .i64 0) ∧ w' = w'' := fun w' h => by
    have := heights_any (some ⟨rb, ro, none⟩) cR [r0] w' h
    rw [hE] at this
    exact this
  have KH := Lib.hid KH
  have HI := Lib.hid hI
  have HR := Lib.hid hR
  clear hI hR hE
  have KW := Lib.hid (fun k lo hi w => rwithin_any k lo hi w)
  have KM : ∀ w', ZRow w' (some ⟨b, o, none⟩) [i0, i1, i2, i3] → SRow w' (some ⟨rb, ro, none⟩) [r0] → _ := fun w' hI hR => mk_brush s ia nin cin b o cI rb ro 1 cR i0 i1 i2 i3 r0 [r0] w' hI hR rfl rfl
  have KM := Lib.hid KM
  have KC := Lib.hid (fun w' => check_brush i0 i1 i2 i3 r0 w' h0)
  go_enter Tryz.func9, Tryz.ntmps9
  go_upto_region 1 with fail
  generalize hW0 : w.alloc (.cells #[.string s, .slice ia nin cin, .slice (some ⟨b, o, none⟩) 4 cI, .slice (some ⟨rb, ro, none⟩) 1 cR] 25) = W0
  have A0 : NdAt W0 w.heap.size s ia nin cin (some ⟨b, o, none⟩) 4 cI (some ⟨rb, ro, none⟩) 1 cR := by subst hW0; exact NdAt.new _ _ _ _ _ _ _ _ _ _ _
  have b0 : Below w.heap.size w W0 := by subst hW0; exact (by repeat (first | with_reducible exact Below.refl _ _ | with_reducible apply Below.drew | with_reducible refine below_drewN ?_ _ | (with_reducible refine Below.setCell ?_ ?_ _; rotate_left; focus (first | omega | (simp <;> omega))) | (with_reducible refine Below.alloc ?_ ?_ _; rotate_left; focus (first | omega | (simp <;> omega)))))
  have HB0 := Lib.hid b0
  have HI0 := Lib.hid (HI.out.below b0)
  have HR0 := Lib.hid (HR.out.below b0)
  obtain ⟨p0, p1, p2, p3⟩ := A0.cells
  have l0 := A0.lt
  clear hW0 A0 b0 HI HR
  have x0 : W0.cell? ⟨b, o, none⟩ = some (.int .i64 i0) := HI0.out.at_ 0 (by simp)
  have x1 : W0.cell? ⟨b, o + 1, none⟩ = some (.int .i64 i1) := HI0.out.at_ 1 (by simp)
  have x2 : W0.cell? ⟨b, o + 2, none⟩ = some (.int .i64 i2) := HI0.out.at_ 2 (by simp)
  have x3 : W0.cell? ⟨b, o + 3, none⟩ = some (.int .i64 i3) := HI0.out.at_ 3 (by simp)
  have lb : b < W0.heap.size := HI0.out.lt (by simp)
  have y0 : W0.cell? ⟨rb, ro, none⟩ = some (.float .f32 r0) := HR0.out.cell1 0 (by simp)
  have lrb : rb < W0.heap.size := HR0.out.lt1 (by simp)
  go_wp2_with fail
  refine (KH.out _ HR0.out).mono ?_
  rintro e w1 ⟨rfl, rfl⟩
  go_wp2_with (first | (go_at_call 17; go_in) | (go_at_call 18; refine (KW.out _ _ _ _).mono ?_; rintro e w' ⟨rfl, rfl⟩))
  refine (KM.out _ HI0.out HR0.out).mono ?_
  rintro e w1 ⟨rfl, b1⟩
  have HB1 := Lib.hid (HB0.out.trans (b1.mono HB0.out.size))
  clear b1
  go_wp2_with fail
  refine (KC.out _).mono ?_
  rintro e w2 ⟨rfl, b2⟩
  have HB2 := Lib.hid (HB1.out.trans (b2.mono HB1.out.size))
  clear b2
  go_wp2_with fail
  go_ret
  have hb := HB2.out
  exact ⟨rfl, (by have hszz := hb.size; repeat (first | with_reducible exact hb | with_reducible apply Below.drew | with_reducible refine below_drewN ?_ _ | (with_reducible refine Below.setCell ?_ ?_ _; rotate_left; focus (first | omega | (simp <;> omega))) | (with_reducible refine Below.alloc ?_ ?_ _; rotate_left; focus (first | omega | (simp <;> omega)))))⟩
set_option maxRecDepth 100000 in
set_option maxHeartbeats 2000000 in
theorem num_fault (s : ByteArray) (ia : Option Addr) (nin cin b o cI rb ro cR : Nat) (i0 i1 i2 i3 : Int) (r0 : Nat) (w : World) (hz : s.toList = [102, 97, 117, 108, 116]) (hI : ZRow w (some ⟨b, o, none⟩) [i0, i1, i2, i3]) (hR : SRow w (some ⟨rb, ro, none⟩) [r0]) (hE : htE [r0] = 0) :
    Calls Tryz.prog 9 #[ndV s ia nin cin (some ⟨b, o, none⟩) 4 cI (some ⟨rb, ro, none⟩) 1 cR] w fun e w' => e = .returned (.int .i64 (faultE i0 i1 i2 i3 r0)) ∧ Below w.heap.size w w' := by
  have h0 := hR.1.2 r0 (by simp)
  have KH : ∀ w', SRow w' (some ⟨rb, ro, none⟩) [r0] → Calls Tryz.prog 16 #[.slice (some ⟨rb, ro, none⟩) 1 cR] w' fun e w'' => e = .returned (.int .i64 0) ∧ w' = w'' := fun w' h => by
    have := heights_any (some ⟨rb, ro, none⟩) cR [r0] w' h
    rw [hE] at this
    exact this
  have KH := Lib.hid KH
  have HI := Lib.hid hI
  have HR := Lib.hid hR
  clear hI hR hE
  have KW := Lib.hid (fun k lo hi w => rwithin_any k lo hi w)
  have KM : ∀ w', ZRow w' (some ⟨b, o, none⟩) [i0, i1, i2, i3] → SRow w' (some ⟨rb, ro, none⟩) [r0] → _ := fun w' hI hR => mk_fault s ia nin cin b o cI rb ro 1 cR i0 i1 i2 i3 r0 [r0] w' hI hR rfl rfl
  have KM := Lib.hid KM
  have KC := Lib.hid (fun w' => check_fault i0 i1 i2 i3 r0 w' h0)
  go_enter Tryz.func9, Tryz.ntmps9
  go_upto_region 1 with fail
  generalize hW0 : w.alloc (.cells #[.string s, .slice ia nin cin, .slice (some ⟨b, o, none⟩) 4 cI, .slice (some ⟨rb, ro, none⟩) 1 cR] 25) = W0
  have A0 : NdAt W0 w.heap.size s ia nin cin (some ⟨b, o, none⟩) 4 cI (some ⟨rb, ro, none⟩) 1 cR := by subst hW0; exact NdAt.new _ _ _ _ _ _ _ _ _ _ _
  have b0 : Below w.heap.size w W0 := by subst hW0; exact (by repeat (first | with_reducible exact Below.refl _ _ | with_reducible apply Below.drew | with_reducible refine below_drewN ?_ _ | (with_reducible refine Below.setCell ?_ ?_ _; rotate_left; focus (first | omega | (simp <;> omega))) | (with_reducible refine Below.alloc ?_ ?_ _; rotate_left; focus (first | omega | (simp <;> omega)))))
  have HB0 := Lib.hid b0
  have HI0 := Lib.hid (HI.out.below b0)
  have HR0 := Lib.hid (HR.out.below b0)
  obtain ⟨p0, p1, p2, p3⟩ := A0.cells
  have l0 := A0.lt
  clear hW0 A0 b0 HI HR
  have x0 : W0.cell? ⟨b, o, none⟩ = some (.int .i64 i0) := HI0.out.at_ 0 (by simp)
  have x1 : W0.cell? ⟨b, o + 1, none⟩ = some (.int .i64 i1) := HI0.out.at_ 1 (by simp)
  have x2 : W0.cell? ⟨b, o + 2, none⟩ = some (.int .i64 i2) := HI0.out.at_ 2 (by simp)
  have x3 : W0.cell? ⟨b, o + 3, none⟩ = some (.int .i64 i3) := HI0.out.at_ 3 (by simp)
  have lb : b < W0.heap.size := HI0.out.lt (by simp)
  have y0 : W0.cell? ⟨rb, ro, none⟩ = some (.float .f32 r0) := HR0.out.cell1 0 (by simp)
  have lrb : rb < W0.heap.size := HR0.out.lt1 (by simp)
  go_wp2_with fail
  refine (KH.out _ HR0.out).mono ?_
  rintro e w1 ⟨rfl, rfl⟩
  go_wp2_with (first | (go_at_call 17; go_in) | (go_at_call 18; refine (KW.out _ _ _ _).mono ?_; rintro e w' ⟨rfl, rfl⟩))
  refine (KM.out _ HI0.out HR0.out).mono ?_
  rintro e w1 ⟨rfl, b1⟩
  have HB1 := Lib.hid (HB0.out.trans (b1.mono HB0.out.size))
  clear b1
  go_wp2_with fail
  refine (KC.out _).mono ?_
  rintro e w2 ⟨rfl, b2⟩
  have HB2 := Lib.hid (HB1.out.trans (b2.mono HB1.out.size))
  clear b2
  go_wp2_with fail
  go_ret
  have hb := HB2.out
  exact ⟨rfl, (by have hszz := hb.size; repeat (first | with_reducible exact hb | with_reducible apply Below.drew | with_reducible refine below_drewN ?_ _ | (with_reducible refine Below.setCell ?_ ?_ _; rotate_left; focus (first | omega | (simp <;> omega))) | (with_reducible refine Below.alloc ?_ ?_ _; rotate_left; focus (first | omega | (simp <;> omega)))))⟩
set_option maxRecDepth 100000 in
set_option maxHeartbeats 2000000 in
theorem num_fold (s : ByteArray) (ia : Option Addr) (nin cin b o cI rb ro cR : Nat) (i0 i1 i2 : Int) (r0 : Nat) (w : World) (hz : s.toList = [102, 111, 108, 100]) (hI : ZRow w (some ⟨b, o, none⟩) [i0, i1, i2]) (hR : SRow w (some ⟨rb, ro, none⟩) [r0]) (hE : htE [r0] = 0) :
    Calls Tryz.prog 9 #[ndV s ia nin cin (some ⟨b, o, none⟩) 3 cI (some ⟨rb, ro, none⟩) 1 cR] w fun e w' => e = .returned (.int .i64 (foldE i0 i1 i2 r0)) ∧ Below w.heap.size w w' := by
  have h0 := hR.1.2 r0 (by simp)
  have KH : ∀ w', SRow w' (some ⟨rb, ro, none⟩) [r0] → Calls Tryz.prog 16 #[.slice (some ⟨rb, ro, none⟩) 1 cR] w' fun e w'' => e = .returned (.int .i64 0) ∧ w' = w'' := fun w' h => by
    have := heights_any (some ⟨rb, ro, none⟩) cR [r0] w' h
    rw [hE] at this
    exact this
  have KH := Lib.hid KH
  have HI := Lib.hid hI
  have HR := Lib.hid hR
  clear hI hR hE
  have KW := Lib.hid (fun k lo hi w => rwithin_any k lo hi w)
  have KM : ∀ w', ZRow w' (some ⟨b, o, none⟩) [i0, i1, i2] → SRow w' (some ⟨rb, ro, none⟩) [r0] → _ := fun w' hI hR => mk_fold s ia nin cin b o cI rb ro 1 cR i0 i1 i2 r0 [r0] w' hI hR rfl rfl
  have KM := Lib.hid KM
  have KC := Lib.hid (fun w' => check_fold i0 i1 i2 r0 w' h0)
  go_enter Tryz.func9, Tryz.ntmps9
  go_upto_region 1 with fail
  generalize hW0 : w.alloc (.cells #[.string s, .slice ia nin cin, .slice (some ⟨b, o, none⟩) 3 cI, .slice (some ⟨rb, ro, none⟩) 1 cR] 25) = W0
  have A0 : NdAt W0 w.heap.size s ia nin cin (some ⟨b, o, none⟩) 3 cI (some ⟨rb, ro, none⟩) 1 cR := by subst hW0; exact NdAt.new _ _ _ _ _ _ _ _ _ _ _
  have b0 : Below w.heap.size w W0 := by subst hW0; exact (by repeat (first | with_reducible exact Below.refl _ _ | with_reducible apply Below.drew | with_reducible refine below_drewN ?_ _ | (with_reducible refine Below.setCell ?_ ?_ _; rotate_left; focus (first | omega | (simp <;> omega))) | (with_reducible refine Below.alloc ?_ ?_ _; rotate_left; focus (first | omega | (simp <;> omega)))))
  have HB0 := Lib.hid b0
  have HI0 := Lib.hid (HI.out.below b0)
  have HR0 := Lib.hid (HR.out.below b0)
  obtain ⟨p0, p1, p2, p3⟩ := A0.cells
  have l0 := A0.lt
  clear hW0 A0 b0 HI HR
  have x0 : W0.cell? ⟨b, o, none⟩ = some (.int .i64 i0) := HI0.out.at_ 0 (by simp)
  have x1 : W0.cell? ⟨b, o + 1, none⟩ = some (.int .i64 i1) := HI0.out.at_ 1 (by simp)
  have x2 : W0.cell? ⟨b, o + 2, none⟩ = some (.int .i64 i2) := HI0.out.at_ 2 (by simp)
  have lb : b < W0.heap.size := HI0.out.lt (by simp)
  have y0 : W0.cell? ⟨rb, ro, none⟩ = some (.float .f32 r0) := HR0.out.cell1 0 (by simp)
  have lrb : rb < W0.heap.size := HR0.out.lt1 (by simp)
  go_wp2_with fail
  refine (KH.out _ HR0.out).mono ?_
  rintro e w1 ⟨rfl, rfl⟩
  go_wp2_with (first | (go_at_call 17; go_in) | (go_at_call 18; refine (KW.out _ _ _ _).mono ?_; rintro e w' ⟨rfl, rfl⟩))
  refine (KM.out _ HI0.out HR0.out).mono ?_
  rintro e w1 ⟨rfl, b1⟩
  have HB1 := Lib.hid (HB0.out.trans (b1.mono HB0.out.size))
  clear b1
  go_wp2_with fail
  refine (KC.out _).mono ?_
  rintro e w2 ⟨rfl, b2⟩
  have HB2 := Lib.hid (HB1.out.trans (b2.mono HB1.out.size))
  clear b2
  go_wp2_with fail
  go_ret
  have hb := HB2.out
  exact ⟨rfl, (by have hszz := hb.size; repeat (first | with_reducible exact hb | with_reducible apply Below.drew | with_reducible refine below_drewN ?_ _ | (with_reducible refine Below.setCell ?_ ?_ _; rotate_left; focus (first | omega | (simp <;> omega))) | (with_reducible refine Below.alloc ?_ ?_ _; rotate_left; focus (first | omega | (simp <;> omega)))))⟩
set_option maxRecDepth 100000 in
set_option maxHeartbeats 2000000 in
theorem num_thermal (s : ByteArray) (ia : Option Addr) (nin cin b o cI rb ro cR : Nat) (i0 : Int) (r0 r1 : Nat) (w : World) (hz : s.toList = [116, 104, 101, 114, 109, 97, 108]) (hI : ZRow w (some ⟨b, o, none⟩) [i0]) (hR : SRow w (some ⟨rb, ro, none⟩) [r0, r1]) (hE : htE [r0, r1] = 0) :
    Calls Tryz.prog 9 #[ndV s ia nin cin (some ⟨b, o, none⟩) 1 cI (some ⟨rb, ro, none⟩) 2 cR] w fun e w' => e = .returned (.int .i64 (wearE r0 r1 i0)) ∧ Below w.heap.size w w' := by
  have h0 := hR.1.2 r0 (by simp)
  have h1 := hR.1.2 r1 (by simp)
  have KH : ∀ w', SRow w' (some ⟨rb, ro, none⟩) [r0, r1] → Calls Tryz.prog 16 #[.slice (some ⟨rb, ro, none⟩) 2 cR] w' fun e w'' => e = .returned (.int .i64 0) ∧ w' = w'' := fun w' h => by
    have := heights_any (some ⟨rb, ro, none⟩) cR [r0, r1] w' h
    rw [hE] at this
    exact this
  have KH := Lib.hid KH
  have HI := Lib.hid hI
  have HR := Lib.hid hR
  clear hI hR hE
  have KW := Lib.hid (fun k lo hi w => rwithin_any k lo hi w)
  have KM : ∀ w', ZRow w' (some ⟨b, o, none⟩) [i0] → SRow w' (some ⟨rb, ro, none⟩) [r0, r1] → _ := fun w' hI hR => mk_wear s ia nin cin b o cI rb ro 2 cR i0 r0 r1 [r0, r1] w' hI hR rfl rfl
  have KM := Lib.hid KM
  have KC := Lib.hid (fun w' => check_wear r0 r1 i0 w' h0 h1)
  go_enter Tryz.func9, Tryz.ntmps9
  go_upto_region 1 with fail
  generalize hW0 : w.alloc (.cells #[.string s, .slice ia nin cin, .slice (some ⟨b, o, none⟩) 1 cI, .slice (some ⟨rb, ro, none⟩) 2 cR] 25) = W0
  have A0 : NdAt W0 w.heap.size s ia nin cin (some ⟨b, o, none⟩) 1 cI (some ⟨rb, ro, none⟩) 2 cR := by subst hW0; exact NdAt.new _ _ _ _ _ _ _ _ _ _ _
  have b0 : Below w.heap.size w W0 := by subst hW0; exact (by repeat (first | with_reducible exact Below.refl _ _ | with_reducible apply Below.drew | with_reducible refine below_drewN ?_ _ | (with_reducible refine Below.setCell ?_ ?_ _; rotate_left; focus (first | omega | (simp <;> omega))) | (with_reducible refine Below.alloc ?_ ?_ _; rotate_left; focus (first | omega | (simp <;> omega)))))
  have HB0 := Lib.hid b0
  have HI0 := Lib.hid (HI.out.below b0)
  have HR0 := Lib.hid (HR.out.below b0)
  obtain ⟨p0, p1, p2, p3⟩ := A0.cells
  have l0 := A0.lt
  clear hW0 A0 b0 HI HR
  have x0 : W0.cell? ⟨b, o, none⟩ = some (.int .i64 i0) := HI0.out.at_ 0 (by simp)
  have lb : b < W0.heap.size := HI0.out.lt (by simp)
  have y0 : W0.cell? ⟨rb, ro, none⟩ = some (.float .f32 r0) := HR0.out.cell1 0 (by simp)
  have y1 : W0.cell? ⟨rb, ro + 1, none⟩ = some (.float .f32 r1) := HR0.out.cell1 1 (by simp)
  have lrb : rb < W0.heap.size := HR0.out.lt1 (by simp)
  go_wp2_with fail
  refine (KH.out _ HR0.out).mono ?_
  rintro e w1 ⟨rfl, rfl⟩
  go_wp2_with (first | (go_at_call 17; go_in) | (go_at_call 18; refine (KW.out _ _ _ _).mono ?_; rintro e w' ⟨rfl, rfl⟩))
  refine (KM.out _ HI0.out HR0.out).mono ?_
  rintro e w1 ⟨rfl, b1⟩
  have HB1 := Lib.hid (HB0.out.trans (b1.mono HB0.out.size))
  clear b1
  go_wp2_with fail
  refine (KC.out _).mono ?_
  rintro e w2 ⟨rfl, b2⟩
  have HB2 := Lib.hid (HB1.out.trans (b2.mono HB1.out.size))
  clear b2
  go_wp2_with fail
  go_ret
  have hb := HB2.out
  exact ⟨rfl, (by have hszz := hb.size; repeat (first | with_reducible exact hb | with_reducible apply Below.drew | with_reducible refine below_drewN ?_ _ | (with_reducible refine Below.setCell ?_ ?_ _; rotate_left; focus (first | omega | (simp <;> omega))) | (with_reducible refine Below.alloc ?_ ?_ _; rotate_left; focus (first | omega | (simp <;> omega)))))⟩
set_option maxRecDepth 100000 in
set_option maxHeartbeats 2000000 in
theorem num_shift (s : ByteArray) (ia : Option Addr) (nin cin b o cI cR : Nat) (ra : Option Addr) (i0 i1 : Int) (w : World) (hz : s.toList = [115, 104, 105, 102, 116]) (hI : ZRow w (some ⟨b, o, none⟩) [i0, i1]) (hR : SRow w ra []) (hE : htE [] = 0) :
    Calls Tryz.prog 9 #[ndV s ia nin cin (some ⟨b, o, none⟩) 2 cI ra 0 cR] w fun e w' => e = .returned (.int .i64 (shiftE i0 i1)) ∧ Below w.heap.size w w' := by
  have KH : ∀ w', SRow w' ra [] → Calls Tryz.prog 16 #[.slice ra 0 cR] w' fun e w'' => e = .returned (.int .i64 0) ∧ w' = w'' := fun w' h => by
    have := heights_any ra cR [] w' h
    rw [hE] at this
    exact this
  have KH := Lib.hid KH
  have HI := Lib.hid hI
  have HR := Lib.hid hR
  clear hI hR hE
  have KW := Lib.hid (fun k lo hi w => rwithin_any k lo hi w)
  unfold shiftE
  cases hw : wB i0 (-64) 64 with
  | true =>
    rw [if_pos rfl]
    cases hw2 : wB i1 (-64) 64 with
    | true =>
      rw [if_pos rfl]
      go_enter Tryz.func9, Tryz.ntmps9
      go_upto_region 1 with fail
      generalize hW0 : w.alloc (.cells #[.string s, .slice ia nin cin, .slice (some ⟨b, o, none⟩) 2 cI, .slice ra 0 cR] 25) = W0
      have A0 : NdAt W0 w.heap.size s ia nin cin (some ⟨b, o, none⟩) 2 cI ra 0 cR := by subst hW0; exact NdAt.new _ _ _ _ _ _ _ _ _ _ _
      have b0 : Below w.heap.size w W0 := by subst hW0; exact (by repeat (first | with_reducible exact Below.refl _ _ | with_reducible apply Below.drew | with_reducible refine below_drewN ?_ _ | (with_reducible refine Below.setCell ?_ ?_ _; rotate_left; focus (first | omega | (simp <;> omega))) | (with_reducible refine Below.alloc ?_ ?_ _; rotate_left; focus (first | omega | (simp <;> omega)))))
      have HB0 := Lib.hid b0
      have HI0 := Lib.hid (HI.out.below b0)
      have HR0 := Lib.hid (HR.out.below b0)
      obtain ⟨p0, p1, p2, p3⟩ := A0.cells
      have l0 := A0.lt
      clear hW0 A0 b0 HI HR
      have x0 : W0.cell? ⟨b, o, none⟩ = some (.int .i64 i0) := HI0.out.at_ 0 (by simp)
      have x1 : W0.cell? ⟨b, o + 1, none⟩ = some (.int .i64 i1) := HI0.out.at_ 1 (by simp)
      have lb : b < W0.heap.size := HI0.out.lt (by simp)
      go_wp2_with fail
      refine (KH.out _ HR0.out).mono ?_
      rintro e w1 ⟨rfl, rfl⟩
      go_wp2_with (first | (go_at_call 17; go_in) | (go_at_call 18; refine (KW.out _ _ _ _).mono ?_; rintro e w' ⟨rfl, rfl⟩))
      go_ret
      have hb := HB0.out
      exact ⟨rfl, (by have hszz := hb.size; repeat (first | with_reducible exact hb | with_reducible apply Below.drew | with_reducible refine below_drewN ?_ _ | (with_reducible refine Below.setCell ?_ ?_ _; rotate_left; focus (first | omega | (simp <;> omega))) | (with_reducible refine Below.alloc ?_ ?_ _; rotate_left; focus (first | omega | (simp <;> omega)))))⟩
    | false =>
      rw [if_neg (by decide)]
      go_enter Tryz.func9, Tryz.ntmps9
      go_upto_region 1 with fail
      generalize hW0 : w.alloc (.cells #[.string s, .slice ia nin cin, .slice (some ⟨b, o, none⟩) 2 cI, .slice ra 0 cR] 25) = W0
      have A0 : NdAt W0 w.heap.size s ia nin cin (some ⟨b, o, none⟩) 2 cI ra 0 cR := by subst hW0; exact NdAt.new _ _ _ _ _ _ _ _ _ _ _
      have b0 : Below w.heap.size w W0 := by subst hW0; exact (by repeat (first | with_reducible exact Below.refl _ _ | with_reducible apply Below.drew | with_reducible refine below_drewN ?_ _ | (with_reducible refine Below.setCell ?_ ?_ _; rotate_left; focus (first | omega | (simp <;> omega))) | (with_reducible refine Below.alloc ?_ ?_ _; rotate_left; focus (first | omega | (simp <;> omega)))))
      have HB0 := Lib.hid b0
      have HI0 := Lib.hid (HI.out.below b0)
      have HR0 := Lib.hid (HR.out.below b0)
      obtain ⟨p0, p1, p2, p3⟩ := A0.cells
      have l0 := A0.lt
      clear hW0 A0 b0 HI HR
      have x0 : W0.cell? ⟨b, o, none⟩ = some (.int .i64 i0) := HI0.out.at_ 0 (by simp)
      have x1 : W0.cell? ⟨b, o + 1, none⟩ = some (.int .i64 i1) := HI0.out.at_ 1 (by simp)
      have lb : b < W0.heap.size := HI0.out.lt (by simp)
      go_wp2_with fail
      refine (KH.out _ HR0.out).mono ?_
      rintro e w1 ⟨rfl, rfl⟩
      go_wp2_with (first | (go_at_call 17; go_in) | (go_at_call 18; refine (KW.out _ _ _ _).mono ?_; rintro e w' ⟨rfl, rfl⟩))
      go_ret
      have hb := HB0.out
      exact ⟨rfl, (by have hszz := hb.size; repeat (first | with_reducible exact hb | with_reducible apply Below.drew | with_reducible refine below_drewN ?_ _ | (with_reducible refine Below.setCell ?_ ?_ _; rotate_left; focus (first | omega | (simp <;> omega))) | (with_reducible refine Below.alloc ?_ ?_ _; rotate_left; focus (first | omega | (simp <;> omega)))))⟩
  | false =>
    rw [if_neg (by decide)]
    go_enter Tryz.func9, Tryz.ntmps9
    go_upto_region 1 with fail
    generalize hW0 : w.alloc (.cells #[.string s, .slice ia nin cin, .slice (some ⟨b, o, none⟩) 2 cI, .slice ra 0 cR] 25) = W0
    have A0 : NdAt W0 w.heap.size s ia nin cin (some ⟨b, o, none⟩) 2 cI ra 0 cR := by subst hW0; exact NdAt.new _ _ _ _ _ _ _ _ _ _ _
    have b0 : Below w.heap.size w W0 := by subst hW0; exact (by repeat (first | with_reducible exact Below.refl _ _ | with_reducible apply Below.drew | with_reducible refine below_drewN ?_ _ | (with_reducible refine Below.setCell ?_ ?_ _; rotate_left; focus (first | omega | (simp <;> omega))) | (with_reducible refine Below.alloc ?_ ?_ _; rotate_left; focus (first | omega | (simp <;> omega)))))
    have HB0 := Lib.hid b0
    have HI0 := Lib.hid (HI.out.below b0)
    have HR0 := Lib.hid (HR.out.below b0)
    obtain ⟨p0, p1, p2, p3⟩ := A0.cells
    have l0 := A0.lt
    clear hW0 A0 b0 HI HR
    have x0 : W0.cell? ⟨b, o, none⟩ = some (.int .i64 i0) := HI0.out.at_ 0 (by simp)
    have x1 : W0.cell? ⟨b, o + 1, none⟩ = some (.int .i64 i1) := HI0.out.at_ 1 (by simp)
    have lb : b < W0.heap.size := HI0.out.lt (by simp)
    go_wp2_with fail
    refine (KH.out _ HR0.out).mono ?_
    rintro e w1 ⟨rfl, rfl⟩
    go_wp2_with (first | (go_at_call 17; go_in) | (go_at_call 18; refine (KW.out _ _ _ _).mono ?_; rintro e w' ⟨rfl, rfl⟩))
    go_ret
    have hb := HB0.out
    exact ⟨rfl, (by have hszz := hb.size; repeat (first | with_reducible exact hb | with_reducible apply Below.drew | with_reducible refine below_drewN ?_ _ | (with_reducible refine Below.setCell ?_ ?_ _; rotate_left; focus (first | omega | (simp <;> omega))) | (with_reducible refine Below.alloc ?_ ?_ _; rotate_left; focus (first | omega | (simp <;> omega)))))⟩
set_option maxRecDepth 100000 in
set_option maxHeartbeats 2000000 in
theorem num_blur (s : ByteArray) (ia : Option Addr) (nin cin b o cI cR : Nat) (ra : Option Addr) (i0 : Int) (w : World) (hz : s.toList = [98, 108, 117, 114]) (hI : ZRow w (some ⟨b, o, none⟩) [i0]) (hR : SRow w ra []) (hE : htE [] = 0) :
    Calls Tryz.prog 9 #[ndV s ia nin cin (some ⟨b, o, none⟩) 1 cI ra 0 cR] w fun e w' => e = .returned (.int .i64 (rngE i0 16)) ∧ Below w.heap.size w w' := by
  have KH : ∀ w', SRow w' ra [] → Calls Tryz.prog 16 #[.slice ra 0 cR] w' fun e w'' => e = .returned (.int .i64 0) ∧ w' = w'' := fun w' h => by
    have := heights_any ra cR [] w' h
    rw [hE] at this
    exact this
  have KH := Lib.hid KH
  have HI := Lib.hid hI
  have HR := Lib.hid hR
  clear hI hR hE
  have KW := Lib.hid (fun k lo hi w => rwithin_any k lo hi w)
  unfold rngE
  cases hw : wB i0 0 16 with
  | true =>
    rw [if_pos rfl]
    go_enter Tryz.func9, Tryz.ntmps9
    go_upto_region 1 with fail
    generalize hW0 : w.alloc (.cells #[.string s, .slice ia nin cin, .slice (some ⟨b, o, none⟩) 1 cI, .slice ra 0 cR] 25) = W0
    have A0 : NdAt W0 w.heap.size s ia nin cin (some ⟨b, o, none⟩) 1 cI ra 0 cR := by subst hW0; exact NdAt.new _ _ _ _ _ _ _ _ _ _ _
    have b0 : Below w.heap.size w W0 := by subst hW0; exact (by repeat (first | with_reducible exact Below.refl _ _ | with_reducible apply Below.drew | with_reducible refine below_drewN ?_ _ | (with_reducible refine Below.setCell ?_ ?_ _; rotate_left; focus (first | omega | (simp <;> omega))) | (with_reducible refine Below.alloc ?_ ?_ _; rotate_left; focus (first | omega | (simp <;> omega)))))
    have HB0 := Lib.hid b0
    have HI0 := Lib.hid (HI.out.below b0)
    have HR0 := Lib.hid (HR.out.below b0)
    obtain ⟨p0, p1, p2, p3⟩ := A0.cells
    have l0 := A0.lt
    clear hW0 A0 b0 HI HR
    have x0 : W0.cell? ⟨b, o, none⟩ = some (.int .i64 i0) := HI0.out.at_ 0 (by simp)
    have lb : b < W0.heap.size := HI0.out.lt (by simp)
    go_wp2_with fail
    refine (KH.out _ HR0.out).mono ?_
    rintro e w1 ⟨rfl, rfl⟩
    go_wp2_with (first | (go_at_call 17; go_in) | (go_at_call 18; refine (KW.out _ _ _ _).mono ?_; rintro e w' ⟨rfl, rfl⟩))
    go_ret
    have hb := HB0.out
    exact ⟨rfl, (by have hszz := hb.size; repeat (first | with_reducible exact hb | with_reducible apply Below.drew | with_reducible refine below_drewN ?_ _ | (with_reducible refine Below.setCell ?_ ?_ _; rotate_left; focus (first | omega | (simp <;> omega))) | (with_reducible refine Below.alloc ?_ ?_ _; rotate_left; focus (first | omega | (simp <;> omega)))))⟩
  | false =>
    rw [if_neg (by decide)]
    go_enter Tryz.func9, Tryz.ntmps9
    go_upto_region 1 with fail
    generalize hW0 : w.alloc (.cells #[.string s, .slice ia nin cin, .slice (some ⟨b, o, none⟩) 1 cI, .slice ra 0 cR] 25) = W0
    have A0 : NdAt W0 w.heap.size s ia nin cin (some ⟨b, o, none⟩) 1 cI ra 0 cR := by subst hW0; exact NdAt.new _ _ _ _ _ _ _ _ _ _ _
    have b0 : Below w.heap.size w W0 := by subst hW0; exact (by repeat (first | with_reducible exact Below.refl _ _ | with_reducible apply Below.drew | with_reducible refine below_drewN ?_ _ | (with_reducible refine Below.setCell ?_ ?_ _; rotate_left; focus (first | omega | (simp <;> omega))) | (with_reducible refine Below.alloc ?_ ?_ _; rotate_left; focus (first | omega | (simp <;> omega)))))
    have HB0 := Lib.hid b0
    have HI0 := Lib.hid (HI.out.below b0)
    have HR0 := Lib.hid (HR.out.below b0)
    obtain ⟨p0, p1, p2, p3⟩ := A0.cells
    have l0 := A0.lt
    clear hW0 A0 b0 HI HR
    have x0 : W0.cell? ⟨b, o, none⟩ = some (.int .i64 i0) := HI0.out.at_ 0 (by simp)
    have lb : b < W0.heap.size := HI0.out.lt (by simp)
    go_wp2_with fail
    refine (KH.out _ HR0.out).mono ?_
    rintro e w1 ⟨rfl, rfl⟩
    go_wp2_with (first | (go_at_call 17; go_in) | (go_at_call 18; refine (KW.out _ _ _ _).mono ?_; rintro e w' ⟨rfl, rfl⟩))
    go_ret
    have hb := HB0.out
    exact ⟨rfl, (by have hszz := hb.size; repeat (first | with_reducible exact hb | with_reducible apply Below.drew | with_reducible refine below_drewN ?_ _ | (with_reducible refine Below.setCell ?_ ?_ _; rotate_left; focus (first | omega | (simp <;> omega))) | (with_reducible refine Below.alloc ?_ ?_ _; rotate_left; focus (first | omega | (simp <;> omega)))))⟩
set_option maxRecDepth 100000 in
set_option maxHeartbeats 2000000 in
theorem num_smooth (s : ByteArray) (ia : Option Addr) (nin cin b o cI cR : Nat) (ra : Option Addr) (i0 : Int) (w : World) (hz : s.toList = [115, 109, 111, 111, 116, 104]) (hI : ZRow w (some ⟨b, o, none⟩) [i0]) (hR : SRow w ra []) (hE : htE [] = 0) :
    Calls Tryz.prog 9 #[ndV s ia nin cin (some ⟨b, o, none⟩) 1 cI ra 0 cR] w fun e w' => e = .returned (.int .i64 (rngE i0 64)) ∧ Below w.heap.size w w' := by
  have KH : ∀ w', SRow w' ra [] → Calls Tryz.prog 16 #[.slice ra 0 cR] w' fun e w'' => e = .returned (.int .i64 0) ∧ w' = w'' := fun w' h => by
    have := heights_any ra cR [] w' h
    rw [hE] at this
    exact this
  have KH := Lib.hid KH
  have HI := Lib.hid hI
  have HR := Lib.hid hR
  clear hI hR hE
  have KW := Lib.hid (fun k lo hi w => rwithin_any k lo hi w)
  unfold rngE
  cases hw : wB i0 0 64 with
  | true =>
    rw [if_pos rfl]
    go_enter Tryz.func9, Tryz.ntmps9
    go_upto_region 1 with fail
    generalize hW0 : w.alloc (.cells #[.string s, .slice ia nin cin, .slice (some ⟨b, o, none⟩) 1 cI, .slice ra 0 cR] 25) = W0
    have A0 : NdAt W0 w.heap.size s ia nin cin (some ⟨b, o, none⟩) 1 cI ra 0 cR := by subst hW0; exact NdAt.new _ _ _ _ _ _ _ _ _ _ _
    have b0 : Below w.heap.size w W0 := by subst hW0; exact (by repeat (first | with_reducible exact Below.refl _ _ | with_reducible apply Below.drew | with_reducible refine below_drewN ?_ _ | (with_reducible refine Below.setCell ?_ ?_ _; rotate_left; focus (first | omega | (simp <;> omega))) | (with_reducible refine Below.alloc ?_ ?_ _; rotate_left; focus (first | omega | (simp <;> omega)))))
    have HB0 := Lib.hid b0
    have HI0 := Lib.hid (HI.out.below b0)
    have HR0 := Lib.hid (HR.out.below b0)
    obtain ⟨p0, p1, p2, p3⟩ := A0.cells
    have l0 := A0.lt
    clear hW0 A0 b0 HI HR
    have x0 : W0.cell? ⟨b, o, none⟩ = some (.int .i64 i0) := HI0.out.at_ 0 (by simp)
    have lb : b < W0.heap.size := HI0.out.lt (by simp)
    go_wp2_with fail
    refine (KH.out _ HR0.out).mono ?_
    rintro e w1 ⟨rfl, rfl⟩
    go_wp2_with (first | (go_at_call 17; go_in) | (go_at_call 18; refine (KW.out _ _ _ _).mono ?_; rintro e w' ⟨rfl, rfl⟩))
    go_ret
    have hb := HB0.out
    exact ⟨rfl, (by have hszz := hb.size; repeat (first | with_reducible exact hb | with_reducible apply Below.drew | with_reducible refine below_drewN ?_ _ | (with_reducible refine Below.setCell ?_ ?_ _; rotate_left; focus (first | omega | (simp <;> omega))) | (with_reducible refine Below.alloc ?_ ?_ _; rotate_left; focus (first | omega | (simp <;> omega)))))⟩
  | false =>
    rw [if_neg (by decide)]
    go_enter Tryz.func9, Tryz.ntmps9
    go_upto_region 1 with fail
    generalize hW0 : w.alloc (.cells #[.string s, .slice ia nin cin, .slice (some ⟨b, o, none⟩) 1 cI, .slice ra 0 cR] 25) = W0
    have A0 : NdAt W0 w.heap.size s ia nin cin (some ⟨b, o, none⟩) 1 cI ra 0 cR := by subst hW0; exact NdAt.new _ _ _ _ _ _ _ _ _ _ _
    have b0 : Below w.heap.size w W0 := by subst hW0; exact (by repeat (first | with_reducible exact Below.refl _ _ | with_reducible apply Below.drew | with_reducible refine below_drewN ?_ _ | (with_reducible refine Below.setCell ?_ ?_ _; rotate_left; focus (first | omega | (simp <;> omega))) | (with_reducible refine Below.alloc ?_ ?_ _; rotate_left; focus (first | omega | (simp <;> omega)))))
    have HB0 := Lib.hid b0
    have HI0 := Lib.hid (HI.out.below b0)
    have HR0 := Lib.hid (HR.out.below b0)
    obtain ⟨p0, p1, p2, p3⟩ := A0.cells
    have l0 := A0.lt
    clear hW0 A0 b0 HI HR
    have x0 : W0.cell? ⟨b, o, none⟩ = some (.int .i64 i0) := HI0.out.at_ 0 (by simp)
    have lb : b < W0.heap.size := HI0.out.lt (by simp)
    go_wp2_with fail
    refine (KH.out _ HR0.out).mono ?_
    rintro e w1 ⟨rfl, rfl⟩
    go_wp2_with (first | (go_at_call 17; go_in) | (go_at_call 18; refine (KW.out _ _ _ _).mono ?_; rintro e w' ⟨rfl, rfl⟩))
    go_ret
    have hb := HB0.out
    exact ⟨rfl, (by have hszz := hb.size; repeat (first | with_reducible exact hb | with_reducible apply Below.drew | with_reducible refine below_drewN ?_ _ | (with_reducible refine Below.setCell ?_ ?_ _; rotate_left; focus (first | omega | (simp <;> omega))) | (with_reducible refine Below.alloc ?_ ?_ _; rotate_left; focus (first | omega | (simp <;> omega)))))⟩
set_option maxRecDepth 100000 in
set_option maxHeartbeats 2000000 in
theorem num_speckle (s : ByteArray) (ia : Option Addr) (nin cin b o cI rb ro cR : Nat) (i0 : Int) (r0 : Nat) (w : World) (hz : s.toList = [115, 112, 101, 99, 107, 108, 101]) (hI : ZRow w (some ⟨b, o, none⟩) [i0]) (hR : SRow w (some ⟨rb, ro, none⟩) [r0]) (hE : htE [r0] = 0) :
    Calls Tryz.prog 9 #[ndV s ia nin cin (some ⟨b, o, none⟩) 1 cI (some ⟨rb, ro, none⟩) 1 cR] w fun e w' => e = .returned (.int .i64 (sdE i0 (shareE r0))) ∧ Below w.heap.size w w' := by
  have h0 := hR.1.2 r0 (by simp)
  have KH : ∀ w', SRow w' (some ⟨rb, ro, none⟩) [r0] → Calls Tryz.prog 16 #[.slice (some ⟨rb, ro, none⟩) 1 cR] w' fun e w'' => e = .returned (.int .i64 0) ∧ w' = w'' := fun w' h => by
    have := heights_any (some ⟨rb, ro, none⟩) cR [r0] w' h
    rw [hE] at this
    exact this
  have KH := Lib.hid KH
  have HI := Lib.hid hI
  have HR := Lib.hid hR
  clear hI hR hE
  have KW := Lib.hid (fun k lo hi w => rwithin_any k lo hi w)
  have KT := Lib.hid (fun w' hI hR => try_speckle s ia nin cin b o cI rb ro cR i0 r0 w' hz hI hR)
  unfold sdE
  cases hw : wB i0 0 4294967295 with
  | true =>
    rw [if_pos rfl]
    go_enter Tryz.func9, Tryz.ntmps9
    go_upto_region 1 with fail
    generalize hW0 : w.alloc (.cells #[.string s, .slice ia nin cin, .slice (some ⟨b, o, none⟩) 1 cI, .slice (some ⟨rb, ro, none⟩) 1 cR] 25) = W0
    have A0 : NdAt W0 w.heap.size s ia nin cin (some ⟨b, o, none⟩) 1 cI (some ⟨rb, ro, none⟩) 1 cR := by subst hW0; exact NdAt.new _ _ _ _ _ _ _ _ _ _ _
    have b0 : Below w.heap.size w W0 := by subst hW0; exact (by repeat (first | with_reducible exact Below.refl _ _ | with_reducible apply Below.drew | with_reducible refine below_drewN ?_ _ | (with_reducible refine Below.setCell ?_ ?_ _; rotate_left; focus (first | omega | (simp <;> omega))) | (with_reducible refine Below.alloc ?_ ?_ _; rotate_left; focus (first | omega | (simp <;> omega)))))
    have HB0 := Lib.hid b0
    have HI0 := Lib.hid (HI.out.below b0)
    have HR0 := Lib.hid (HR.out.below b0)
    obtain ⟨p0, p1, p2, p3⟩ := A0.cells
    have l0 := A0.lt
    clear hW0 A0 b0 HI HR
    have x0 : W0.cell? ⟨b, o, none⟩ = some (.int .i64 i0) := HI0.out.at_ 0 (by simp)
    have lb : b < W0.heap.size := HI0.out.lt (by simp)
    have y0 : W0.cell? ⟨rb, ro, none⟩ = some (.float .f32 r0) := HR0.out.cell1 0 (by simp)
    have lrb : rb < W0.heap.size := HR0.out.lt1 (by simp)
    go_wp2_with fail
    refine (KH.out _ HR0.out).mono ?_
    rintro e w1 ⟨rfl, rfl⟩
    go_wp2_with (first | (go_at_call 17; go_in) | (go_at_call 18; refine (KW.out _ _ _ _).mono ?_; rintro e w' ⟨rfl, rfl⟩))
    refine (KT.out _ HI0.out HR0.out).mono ?_
    rintro e w2 ⟨rfl, b2⟩
    have HB2 := Lib.hid (HB0.out.trans (b2.mono HB0.out.size))
    clear b2
    go_wp2_with fail
    go_ret
    have hb := HB2.out
    exact ⟨rfl, (by have hszz := hb.size; repeat (first | with_reducible exact hb | with_reducible apply Below.drew | with_reducible refine below_drewN ?_ _ | (with_reducible refine Below.setCell ?_ ?_ _; rotate_left; focus (first | omega | (simp <;> omega))) | (with_reducible refine Below.alloc ?_ ?_ _; rotate_left; focus (first | omega | (simp <;> omega)))))⟩
  | false =>
    rw [if_neg (by decide)]
    go_enter Tryz.func9, Tryz.ntmps9
    go_upto_region 1 with fail
    generalize hW0 : w.alloc (.cells #[.string s, .slice ia nin cin, .slice (some ⟨b, o, none⟩) 1 cI, .slice (some ⟨rb, ro, none⟩) 1 cR] 25) = W0
    have A0 : NdAt W0 w.heap.size s ia nin cin (some ⟨b, o, none⟩) 1 cI (some ⟨rb, ro, none⟩) 1 cR := by subst hW0; exact NdAt.new _ _ _ _ _ _ _ _ _ _ _
    have b0 : Below w.heap.size w W0 := by subst hW0; exact (by repeat (first | with_reducible exact Below.refl _ _ | with_reducible apply Below.drew | with_reducible refine below_drewN ?_ _ | (with_reducible refine Below.setCell ?_ ?_ _; rotate_left; focus (first | omega | (simp <;> omega))) | (with_reducible refine Below.alloc ?_ ?_ _; rotate_left; focus (first | omega | (simp <;> omega)))))
    have HB0 := Lib.hid b0
    have HI0 := Lib.hid (HI.out.below b0)
    have HR0 := Lib.hid (HR.out.below b0)
    obtain ⟨p0, p1, p2, p3⟩ := A0.cells
    have l0 := A0.lt
    clear hW0 A0 b0 HI HR
    have x0 : W0.cell? ⟨b, o, none⟩ = some (.int .i64 i0) := HI0.out.at_ 0 (by simp)
    have lb : b < W0.heap.size := HI0.out.lt (by simp)
    have y0 : W0.cell? ⟨rb, ro, none⟩ = some (.float .f32 r0) := HR0.out.cell1 0 (by simp)
    have lrb : rb < W0.heap.size := HR0.out.lt1 (by simp)
    go_wp2_with fail
    refine (KH.out _ HR0.out).mono ?_
    rintro e w1 ⟨rfl, rfl⟩
    go_wp2_with (first | (go_at_call 17; go_in) | (go_at_call 18; refine (KW.out _ _ _ _).mono ?_; rintro e w' ⟨rfl, rfl⟩))
    go_ret
    have hb := HB0.out
    exact ⟨rfl, (by have hszz := hb.size; repeat (first | with_reducible exact hb | with_reducible apply Below.drew | with_reducible refine below_drewN ?_ _ | (with_reducible refine Below.setCell ?_ ?_ _; rotate_left; focus (first | omega | (simp <;> omega))) | (with_reducible refine Below.alloc ?_ ?_ _; rotate_left; focus (first | omega | (simp <;> omega)))))⟩
set_option maxRecDepth 100000 in
set_option maxHeartbeats 2000000 in
theorem num_clamp (s : ByteArray) (ia : Option Addr) (nin cin cI rb ro cR : Nat) (la : Option Addr) (r0 r1 : Nat) (w : World) (hz : s.toList = [99, 108, 97, 109, 112]) (hI : ZRow w la []) (hR : SRow w (some ⟨rb, ro, none⟩) [r0, r1]) (hE : htE [r0, r1] = 0) :
    Calls Tryz.prog 9 #[ndV s ia nin cin la 0 cI (some ⟨rb, ro, none⟩) 2 cR] w fun e w' => e = .returned (.int .i64 (clampC r0 r1)) ∧ Below w.heap.size w w' := by
  have h0 := hR.1.2 r0 (by simp)
  have h1 := hR.1.2 r1 (by simp)
  have KH : ∀ w', SRow w' (some ⟨rb, ro, none⟩) [r0, r1] → Calls Tryz.prog 16 #[.slice (some ⟨rb, ro, none⟩) 2 cR] w' fun e w'' => e = .returned (.int .i64 0) ∧ w' = w'' := fun w' h => by
    have := heights_any (some ⟨rb, ro, none⟩) cR [r0, r1] w' h
    rw [hE] at this
    exact this
  have KH := Lib.hid KH
  have HI := Lib.hid hI
  have HR := Lib.hid hR
  clear hI hR hE
  have KW := Lib.hid (fun k lo hi w => rwithin_any k lo hi w)
  have KT := Lib.hid (fun w' hI hR => try_clamp s ia nin cin cI rb ro cR la r0 r1 w' hz hI hR)
  go_enter Tryz.func9, Tryz.ntmps9
  go_upto_region 1 with fail
  generalize hW0 : w.alloc (.cells #[.string s, .slice ia nin cin, .slice la 0 cI, .slice (some ⟨rb, ro, none⟩) 2 cR] 25) = W0
  have A0 : NdAt W0 w.heap.size s ia nin cin la 0 cI (some ⟨rb, ro, none⟩) 2 cR := by subst hW0; exact NdAt.new _ _ _ _ _ _ _ _ _ _ _
  have b0 : Below w.heap.size w W0 := by subst hW0; exact (by repeat (first | with_reducible exact Below.refl _ _ | with_reducible apply Below.drew | with_reducible refine below_drewN ?_ _ | (with_reducible refine Below.setCell ?_ ?_ _; rotate_left; focus (first | omega | (simp <;> omega))) | (with_reducible refine Below.alloc ?_ ?_ _; rotate_left; focus (first | omega | (simp <;> omega)))))
  have HB0 := Lib.hid b0
  have HI0 := Lib.hid (HI.out.below b0)
  have HR0 := Lib.hid (HR.out.below b0)
  obtain ⟨p0, p1, p2, p3⟩ := A0.cells
  have l0 := A0.lt
  clear hW0 A0 b0 HI HR
  have y0 : W0.cell? ⟨rb, ro, none⟩ = some (.float .f32 r0) := HR0.out.cell1 0 (by simp)
  have y1 : W0.cell? ⟨rb, ro + 1, none⟩ = some (.float .f32 r1) := HR0.out.cell1 1 (by simp)
  have lrb : rb < W0.heap.size := HR0.out.lt1 (by simp)
  go_wp2_with fail
  refine (KH.out _ HR0.out).mono ?_
  rintro e w1 ⟨rfl, rfl⟩
  go_wp2_with (first | (go_at_call 17; go_in) | (go_at_call 18; refine (KW.out _ _ _ _).mono ?_; rintro e w' ⟨rfl, rfl⟩))
  refine (KT.out _ HI0.out HR0.out).mono ?_
  rintro e w2 ⟨rfl, b2⟩
  have HB2 := Lib.hid (HB0.out.trans (b2.mono HB0.out.size))
  clear b2
  go_wp2_with fail
  go_ret
  have hb := HB2.out
  exact ⟨rfl, (by have hszz := hb.size; repeat (first | with_reducible exact hb | with_reducible apply Below.drew | with_reducible refine below_drewN ?_ _ | (with_reducible refine Below.setCell ?_ ?_ _; rotate_left; focus (first | omega | (simp <;> omega))) | (with_reducible refine Below.alloc ?_ ?_ _; rotate_left; focus (first | omega | (simp <;> omega)))))⟩
set_option maxRecDepth 100000 in
set_option maxHeartbeats 2000000 in
theorem num_select (s : ByteArray) (ia : Option Addr) (nin cin cI rb ro cR : Nat) (la : Option Addr) (r0 r1 r2 : Nat) (w : World) (hz : s.toList = [115, 101, 108, 101, 99, 116]) (hI : ZRow w la []) (hR : SRow w (some ⟨rb, ro, none⟩) [r0, r1, r2]) (hE : htE [r0, r1, r2] = 0) :
    Calls Tryz.prog 9 #[ndV s ia nin cin la 0 cI (some ⟨rb, ro, none⟩) 3 cR] w fun e w' => e = .returned (.int .i64 (selC r0 r1 r2)) ∧ Below w.heap.size w w' := by
  have h0 := hR.1.2 r0 (by simp)
  have h1 := hR.1.2 r1 (by simp)
  have h2 := hR.1.2 r2 (by simp)
  have KH : ∀ w', SRow w' (some ⟨rb, ro, none⟩) [r0, r1, r2] → Calls Tryz.prog 16 #[.slice (some ⟨rb, ro, none⟩) 3 cR] w' fun e w'' => e = .returned (.int .i64 0) ∧ w' = w'' := fun w' h => by
    have := heights_any (some ⟨rb, ro, none⟩) cR [r0, r1, r2] w' h
    rw [hE] at this
    exact this
  have KH := Lib.hid KH
  have HI := Lib.hid hI
  have HR := Lib.hid hR
  clear hI hR hE
  have KW := Lib.hid (fun k lo hi w => rwithin_any k lo hi w)
  have KT := Lib.hid (fun w' hI hR => try_select s ia nin cin cI rb ro cR la r0 r1 r2 w' hz hI hR)
  go_enter Tryz.func9, Tryz.ntmps9
  go_upto_region 1 with fail
  generalize hW0 : w.alloc (.cells #[.string s, .slice ia nin cin, .slice la 0 cI, .slice (some ⟨rb, ro, none⟩) 3 cR] 25) = W0
  have A0 : NdAt W0 w.heap.size s ia nin cin la 0 cI (some ⟨rb, ro, none⟩) 3 cR := by subst hW0; exact NdAt.new _ _ _ _ _ _ _ _ _ _ _
  have b0 : Below w.heap.size w W0 := by subst hW0; exact (by repeat (first | with_reducible exact Below.refl _ _ | with_reducible apply Below.drew | with_reducible refine below_drewN ?_ _ | (with_reducible refine Below.setCell ?_ ?_ _; rotate_left; focus (first | omega | (simp <;> omega))) | (with_reducible refine Below.alloc ?_ ?_ _; rotate_left; focus (first | omega | (simp <;> omega)))))
  have HB0 := Lib.hid b0
  have HI0 := Lib.hid (HI.out.below b0)
  have HR0 := Lib.hid (HR.out.below b0)
  obtain ⟨p0, p1, p2, p3⟩ := A0.cells
  have l0 := A0.lt
  clear hW0 A0 b0 HI HR
  have y0 : W0.cell? ⟨rb, ro, none⟩ = some (.float .f32 r0) := HR0.out.cell1 0 (by simp)
  have y1 : W0.cell? ⟨rb, ro + 1, none⟩ = some (.float .f32 r1) := HR0.out.cell1 1 (by simp)
  have y2 : W0.cell? ⟨rb, ro + 2, none⟩ = some (.float .f32 r2) := HR0.out.cell1 2 (by simp)
  have lrb : rb < W0.heap.size := HR0.out.lt1 (by simp)
  go_wp2_with fail
  refine (KH.out _ HR0.out).mono ?_
  rintro e w1 ⟨rfl, rfl⟩
  go_wp2_with (first | (go_at_call 17; go_in) | (go_at_call 18; refine (KW.out _ _ _ _).mono ?_; rintro e w' ⟨rfl, rfl⟩))
  refine (KT.out _ HI0.out HR0.out).mono ?_
  rintro e w2 ⟨rfl, b2⟩
  have HB2 := Lib.hid (HB0.out.trans (b2.mono HB0.out.size))
  clear b2
  go_wp2_with fail
  go_ret
  have hb := HB2.out
  exact ⟨rfl, (by have hszz := hb.size; repeat (first | with_reducible exact hb | with_reducible apply Below.drew | with_reducible refine below_drewN ?_ _ | (with_reducible refine Below.setCell ?_ ?_ _; rotate_left; focus (first | omega | (simp <;> omega))) | (with_reducible refine Below.alloc ?_ ?_ _; rotate_left; focus (first | omega | (simp <;> omega)))))⟩
set_option maxRecDepth 100000 in
set_option maxHeartbeats 2000000 in
theorem num_terrace (s : ByteArray) (ia : Option Addr) (nin cin cI rb ro cR : Nat) (la : Option Addr) (r0 r1 : Nat) (w : World) (hz : s.toList = [116, 101, 114, 114, 97, 99, 101]) (hI : ZRow w la []) (hR : SRow w (some ⟨rb, ro, none⟩) [r0, r1]) (hE : htE [r0, r1] = 0) :
    Calls Tryz.prog 9 #[ndV s ia nin cin la 0 cI (some ⟨rb, ro, none⟩) 2 cR] w fun e w' => e = .returned (.int .i64 (terC r0 r1)) ∧ Below w.heap.size w w' := by
  have h0 := hR.1.2 r0 (by simp)
  have h1 := hR.1.2 r1 (by simp)
  have KH : ∀ w', SRow w' (some ⟨rb, ro, none⟩) [r0, r1] → Calls Tryz.prog 16 #[.slice (some ⟨rb, ro, none⟩) 2 cR] w' fun e w'' => e = .returned (.int .i64 0) ∧ w' = w'' := fun w' h => by
    have := heights_any (some ⟨rb, ro, none⟩) cR [r0, r1] w' h
    rw [hE] at this
    exact this
  have KH := Lib.hid KH
  have HI := Lib.hid hI
  have HR := Lib.hid hR
  clear hI hR hE
  have KW := Lib.hid (fun k lo hi w => rwithin_any k lo hi w)
  have KT := Lib.hid (fun w' hI hR => try_terrace s ia nin cin cI rb ro cR la r0 r1 w' hz hI hR)
  go_enter Tryz.func9, Tryz.ntmps9
  go_upto_region 1 with fail
  generalize hW0 : w.alloc (.cells #[.string s, .slice ia nin cin, .slice la 0 cI, .slice (some ⟨rb, ro, none⟩) 2 cR] 25) = W0
  have A0 : NdAt W0 w.heap.size s ia nin cin la 0 cI (some ⟨rb, ro, none⟩) 2 cR := by subst hW0; exact NdAt.new _ _ _ _ _ _ _ _ _ _ _
  have b0 : Below w.heap.size w W0 := by subst hW0; exact (by repeat (first | with_reducible exact Below.refl _ _ | with_reducible apply Below.drew | with_reducible refine below_drewN ?_ _ | (with_reducible refine Below.setCell ?_ ?_ _; rotate_left; focus (first | omega | (simp <;> omega))) | (with_reducible refine Below.alloc ?_ ?_ _; rotate_left; focus (first | omega | (simp <;> omega)))))
  have HB0 := Lib.hid b0
  have HI0 := Lib.hid (HI.out.below b0)
  have HR0 := Lib.hid (HR.out.below b0)
  obtain ⟨p0, p1, p2, p3⟩ := A0.cells
  have l0 := A0.lt
  clear hW0 A0 b0 HI HR
  have y0 : W0.cell? ⟨rb, ro, none⟩ = some (.float .f32 r0) := HR0.out.cell1 0 (by simp)
  have y1 : W0.cell? ⟨rb, ro + 1, none⟩ = some (.float .f32 r1) := HR0.out.cell1 1 (by simp)
  have lrb : rb < W0.heap.size := HR0.out.lt1 (by simp)
  go_wp2_with fail
  refine (KH.out _ HR0.out).mono ?_
  rintro e w1 ⟨rfl, rfl⟩
  go_wp2_with (first | (go_at_call 17; go_in) | (go_at_call 18; refine (KW.out _ _ _ _).mono ?_; rintro e w' ⟨rfl, rfl⟩))
  refine (KT.out _ HI0.out HR0.out).mono ?_
  rintro e w2 ⟨rfl, b2⟩
  have HB2 := Lib.hid (HB0.out.trans (b2.mono HB0.out.size))
  clear b2
  go_wp2_with fail
  go_ret
  have hb := HB2.out
  exact ⟨rfl, (by have hszz := hb.size; repeat (first | with_reducible exact hb | with_reducible apply Below.drew | with_reducible refine below_drewN ?_ _ | (with_reducible refine Below.setCell ?_ ?_ _; rotate_left; focus (first | omega | (simp <;> omega))) | (with_reducible refine Below.alloc ?_ ?_ _; rotate_left; focus (first | omega | (simp <;> omega)))))⟩
set_option maxRecDepth 100000 in
set_option maxHeartbeats 2000000 in
theorem num_dither (s : ByteArray) (ia : Option Addr) (nin cin b o cI rb ro cR : Nat) (i0 : Int) (r0 : Nat) (w : World) (hz : s.toList = [100, 105, 116, 104, 101, 114]) (hI : ZRow w (some ⟨b, o, none⟩) [i0]) (hR : SRow w (some ⟨rb, ro, none⟩) [r0]) (hE : htE [r0] = 0) :
    Calls Tryz.prog 9 #[ndV s ia nin cin (some ⟨b, o, none⟩) 1 cI (some ⟨rb, ro, none⟩) 1 cR] w fun e w' => e = .returned (.int .i64 (sdE i0 (dithE r0))) ∧ Below w.heap.size w w' := by
  have h0 := hR.1.2 r0 (by simp)
  have KH : ∀ w', SRow w' (some ⟨rb, ro, none⟩) [r0] → Calls Tryz.prog 16 #[.slice (some ⟨rb, ro, none⟩) 1 cR] w' fun e w'' => e = .returned (.int .i64 0) ∧ w' = w'' := fun w' h => by
    have := heights_any (some ⟨rb, ro, none⟩) cR [r0] w' h
    rw [hE] at this
    exact this
  have KH := Lib.hid KH
  have HI := Lib.hid hI
  have HR := Lib.hid hR
  clear hI hR hE
  have KW := Lib.hid (fun k lo hi w => rwithin_any k lo hi w)
  have KT := Lib.hid (fun w' hI hR => try_dither s ia nin cin b o cI rb ro cR i0 r0 w' hz hI hR)
  unfold sdE
  cases hw : wB i0 0 4294967295 with
  | true =>
    rw [if_pos rfl]
    go_enter Tryz.func9, Tryz.ntmps9
    go_upto_region 1 with fail
    generalize hW0 : w.alloc (.cells #[.string s, .slice ia nin cin, .slice (some ⟨b, o, none⟩) 1 cI, .slice (some ⟨rb, ro, none⟩) 1 cR] 25) = W0
    have A0 : NdAt W0 w.heap.size s ia nin cin (some ⟨b, o, none⟩) 1 cI (some ⟨rb, ro, none⟩) 1 cR := by subst hW0; exact NdAt.new _ _ _ _ _ _ _ _ _ _ _
    have b0 : Below w.heap.size w W0 := by subst hW0; exact (by repeat (first | with_reducible exact Below.refl _ _ | with_reducible apply Below.drew | with_reducible refine below_drewN ?_ _ | (with_reducible refine Below.setCell ?_ ?_ _; rotate_left; focus (first | omega | (simp <;> omega))) | (with_reducible refine Below.alloc ?_ ?_ _; rotate_left; focus (first | omega | (simp <;> omega)))))
    have HB0 := Lib.hid b0
    have HI0 := Lib.hid (HI.out.below b0)
    have HR0 := Lib.hid (HR.out.below b0)
    obtain ⟨p0, p1, p2, p3⟩ := A0.cells
    have l0 := A0.lt
    clear hW0 A0 b0 HI HR
    have x0 : W0.cell? ⟨b, o, none⟩ = some (.int .i64 i0) := HI0.out.at_ 0 (by simp)
    have lb : b < W0.heap.size := HI0.out.lt (by simp)
    have y0 : W0.cell? ⟨rb, ro, none⟩ = some (.float .f32 r0) := HR0.out.cell1 0 (by simp)
    have lrb : rb < W0.heap.size := HR0.out.lt1 (by simp)
    go_wp2_with fail
    refine (KH.out _ HR0.out).mono ?_
    rintro e w1 ⟨rfl, rfl⟩
    go_wp2_with (first | (go_at_call 17; go_in) | (go_at_call 18; refine (KW.out _ _ _ _).mono ?_; rintro e w' ⟨rfl, rfl⟩))
    refine (KT.out _ HI0.out HR0.out).mono ?_
    rintro e w2 ⟨rfl, b2⟩
    have HB2 := Lib.hid (HB0.out.trans (b2.mono HB0.out.size))
    clear b2
    go_wp2_with fail
    go_ret
    have hb := HB2.out
    exact ⟨rfl, (by have hszz := hb.size; repeat (first | with_reducible exact hb | with_reducible apply Below.drew | with_reducible refine below_drewN ?_ _ | (with_reducible refine Below.setCell ?_ ?_ _; rotate_left; focus (first | omega | (simp <;> omega))) | (with_reducible refine Below.alloc ?_ ?_ _; rotate_left; focus (first | omega | (simp <;> omega)))))⟩
  | false =>
    rw [if_neg (by decide)]
    go_enter Tryz.func9, Tryz.ntmps9
    go_upto_region 1 with fail
    generalize hW0 : w.alloc (.cells #[.string s, .slice ia nin cin, .slice (some ⟨b, o, none⟩) 1 cI, .slice (some ⟨rb, ro, none⟩) 1 cR] 25) = W0
    have A0 : NdAt W0 w.heap.size s ia nin cin (some ⟨b, o, none⟩) 1 cI (some ⟨rb, ro, none⟩) 1 cR := by subst hW0; exact NdAt.new _ _ _ _ _ _ _ _ _ _ _
    have b0 : Below w.heap.size w W0 := by subst hW0; exact (by repeat (first | with_reducible exact Below.refl _ _ | with_reducible apply Below.drew | with_reducible refine below_drewN ?_ _ | (with_reducible refine Below.setCell ?_ ?_ _; rotate_left; focus (first | omega | (simp <;> omega))) | (with_reducible refine Below.alloc ?_ ?_ _; rotate_left; focus (first | omega | (simp <;> omega)))))
    have HB0 := Lib.hid b0
    have HI0 := Lib.hid (HI.out.below b0)
    have HR0 := Lib.hid (HR.out.below b0)
    obtain ⟨p0, p1, p2, p3⟩ := A0.cells
    have l0 := A0.lt
    clear hW0 A0 b0 HI HR
    have x0 : W0.cell? ⟨b, o, none⟩ = some (.int .i64 i0) := HI0.out.at_ 0 (by simp)
    have lb : b < W0.heap.size := HI0.out.lt (by simp)
    have y0 : W0.cell? ⟨rb, ro, none⟩ = some (.float .f32 r0) := HR0.out.cell1 0 (by simp)
    have lrb : rb < W0.heap.size := HR0.out.lt1 (by simp)
    go_wp2_with fail
    refine (KH.out _ HR0.out).mono ?_
    rintro e w1 ⟨rfl, rfl⟩
    go_wp2_with (first | (go_at_call 17; go_in) | (go_at_call 18; refine (KW.out _ _ _ _).mono ?_; rintro e w' ⟨rfl, rfl⟩))
    go_ret
    have hb := HB0.out
    exact ⟨rfl, (by have hszz := hb.size; repeat (first | with_reducible exact hb | with_reducible apply Below.drew | with_reducible refine below_drewN ?_ _ | (with_reducible refine Below.setCell ?_ ?_ _; rotate_left; focus (first | omega | (simp <;> omega))) | (with_reducible refine Below.alloc ?_ ?_ _; rotate_left; focus (first | omega | (simp <;> omega)))))⟩
set_option maxRecDepth 100000 in
set_option maxHeartbeats 2000000 in
theorem num_shade (s : ByteArray) (ia : Option Addr) (nin cin b o cI cR : Nat) (ra : Option Addr) (i0 i1 i2 : Int) (w : World) (hz : s.toList = [115, 104, 97, 100, 101]) (hI : ZRow w (some ⟨b, o, none⟩) [i0, i1, i2]) (hR : SRow w ra []) (hE : htE [] = 0) :
    Calls Tryz.prog 9 #[ndV s ia nin cin (some ⟨b, o, none⟩) 3 cI ra 0 cR] w fun e w' => e = .returned (.int .i64 (lightE i0 i1 i2)) ∧ Below w.heap.size w w' := by
  have KH : ∀ w', SRow w' ra [] → Calls Tryz.prog 16 #[.slice ra 0 cR] w' fun e w'' => e = .returned (.int .i64 0) ∧ w' = w'' := fun w' h => by
    have := heights_any ra cR [] w' h
    rw [hE] at this
    exact this
  have KH := Lib.hid KH
  have HI := Lib.hid hI
  have HR := Lib.hid hR
  clear hI hR hE
  have KW := Lib.hid (fun k lo hi w => rwithin_any k lo hi w)
  have KT := Lib.hid (fun w' hI hR => try_shade s ia nin cin b o cI cR ra i0 i1 i2 w' hz hI hR)
  go_enter Tryz.func9, Tryz.ntmps9
  go_upto_region 1 with fail
  generalize hW0 : w.alloc (.cells #[.string s, .slice ia nin cin, .slice (some ⟨b, o, none⟩) 3 cI, .slice ra 0 cR] 25) = W0
  have A0 : NdAt W0 w.heap.size s ia nin cin (some ⟨b, o, none⟩) 3 cI ra 0 cR := by subst hW0; exact NdAt.new _ _ _ _ _ _ _ _ _ _ _
  have b0 : Below w.heap.size w W0 := by subst hW0; exact (by repeat (first | with_reducible exact Below.refl _ _ | with_reducible apply Below.drew | with_reducible refine below_drewN ?_ _ | (with_reducible refine Below.setCell ?_ ?_ _; rotate_left; focus (first | omega | (simp <;> omega))) | (with_reducible refine Below.alloc ?_ ?_ _; rotate_left; focus (first | omega | (simp <;> omega)))))
  have HB0 := Lib.hid b0
  have HI0 := Lib.hid (HI.out.below b0)
  have HR0 := Lib.hid (HR.out.below b0)
  obtain ⟨p0, p1, p2, p3⟩ := A0.cells
  have l0 := A0.lt
  clear hW0 A0 b0 HI HR
  have x0 : W0.cell? ⟨b, o, none⟩ = some (.int .i64 i0) := HI0.out.at_ 0 (by simp)
  have x1 : W0.cell? ⟨b, o + 1, none⟩ = some (.int .i64 i1) := HI0.out.at_ 1 (by simp)
  have x2 : W0.cell? ⟨b, o + 2, none⟩ = some (.int .i64 i2) := HI0.out.at_ 2 (by simp)
  have lb : b < W0.heap.size := HI0.out.lt (by simp)
  go_wp2_with fail
  refine (KH.out _ HR0.out).mono ?_
  rintro e w1 ⟨rfl, rfl⟩
  go_wp2_with (first | (go_at_call 17; go_in) | (go_at_call 18; refine (KW.out _ _ _ _).mono ?_; rintro e w' ⟨rfl, rfl⟩))
  refine (KT.out _ HI0.out HR0.out).mono ?_
  rintro e w2 ⟨rfl, b2⟩
  have HB2 := Lib.hid (HB0.out.trans (b2.mono HB0.out.size))
  clear b2
  go_wp2_with fail
  go_ret
  have hb := HB2.out
  exact ⟨rfl, (by have hszz := hb.size; repeat (first | with_reducible exact hb | with_reducible apply Below.drew | with_reducible refine below_drewN ?_ _ | (with_reducible refine Below.setCell ?_ ?_ _; rotate_left; focus (first | omega | (simp <;> omega))) | (with_reducible refine Below.alloc ?_ ?_ _; rotate_left; focus (first | omega | (simp <;> omega)))))⟩
set_option maxRecDepth 100000 in
set_option maxHeartbeats 2000000 in
theorem num_plain (s : ByteArray) (ia : Option Addr) (nin cin : Nat) (la : Option Addr) (nI cI : Nat) (ra : Option Addr) (cR : Nat) (l : List Nat) (w : World) (k0 : (s.toList == [110, 111, 105, 115, 101]) = false) (k1 : (s.toList == [119, 97, 114, 112]) = false) (k2 : (s.toList == [115, 112, 101, 99, 107, 108, 101]) = false) (k3 : (s.toList == [100, 105, 116, 104, 101, 114]) = false) (k4 : (s.toList == [115, 116, 97, 109, 112]) = false) (k5 : (s.toList == [102, 97, 117, 108, 116]) = false) (k6 : (s.toList == [102, 111, 108, 100]) = false) (k7 : (s.toList == [116, 104, 101, 114, 109, 97, 108]) = false) (k8 : (s.toList == [115, 104, 105, 102, 116]) = false) (k9 : (s.toList == [98, 108, 117, 114]) = false) (k10 : (s.toList == [115, 109, 111, 111, 116, 104]) = false) (k11 : (s.toList == [99, 108, 97, 109, 112]) = false) (k12 : (s.toList == [115, 101, 108, 101, 99, 116]) = false) (k13 : (s.toList == [116, 101, 114, 114, 97, 99, 101]) = false) (k14 : (s.toList == [115, 104, 97, 100, 101]) = false) (hR : SRow w ra l) (hE : htE l = 0) :
    Calls Tryz.prog 9 #[ndV s ia nin cin la nI cI ra l.length cR] w fun e w' => e = .returned (.int .i64 (0)) ∧ Below w.heap.size w w' := by
  have KH : ∀ w', SRow w' ra l → Calls Tryz.prog 16 #[.slice ra l.length cR] w' fun e w'' => e = .returned (.int .i64 (0)) ∧ w' = w'' := fun w' h => by
    have := heights_any ra cR l w' h
    rw [hE] at this
    exact this
  have KH := Lib.hid KH
  have HR := Lib.hid hR
  clear hR
  generalize l.length = n at *
  clear hE
  go_enter Tryz.func9, Tryz.ntmps9
  go_upto_region 1 with fail
  generalize hW0 : w.alloc (.cells #[.string s, .slice ia nin cin, .slice la nI cI, .slice ra n cR] 25) = W0
  have A0 : NdAt W0 w.heap.size s ia nin cin la nI cI ra n cR := by subst hW0; exact NdAt.new _ _ _ _ _ _ _ _ _ _ _
  have b0 : Below w.heap.size w W0 := by subst hW0; exact (by repeat (first | with_reducible exact Below.refl _ _ | with_reducible apply Below.drew | with_reducible refine below_drewN ?_ _ | (with_reducible refine Below.setCell ?_ ?_ _; rotate_left; focus (first | omega | (simp <;> omega))) | (with_reducible refine Below.alloc ?_ ?_ _; rotate_left; focus (first | omega | (simp <;> omega)))))
  have HB0 := Lib.hid b0
  have HR0 := Lib.hid (HR.out.below b0)
  obtain ⟨p0, p1, p2, p3⟩ := A0.cells
  have l0 := A0.lt
  clear hW0 A0 b0 HR
  go_wp2_with fail
  refine (KH.out _ HR0.out).mono ?_
  rintro e w1 ⟨rfl, rfl⟩
  go_wp2_with (go_at_call 17; go_in)
  go_ret
  have hb := HB0.out
  exact ⟨rfl, (by have hszz := hb.size; repeat (first | with_reducible exact hb | with_reducible apply Below.drew | with_reducible refine below_drewN ?_ _ | (with_reducible refine Below.setCell ?_ ?_ _; rotate_left; focus (first | omega | (simp <;> omega))) | (with_reducible refine Below.alloc ?_ ?_ _; rotate_left; focus (first | omega | (simp <;> omega)))))⟩
set_option maxRecDepth 100000 in
set_option maxHeartbeats 2000000 in
theorem num_bad (s : ByteArray) (ia : Option Addr) (nin cin : Nat) (la : Option Addr) (nI cI : Nat) (ra : Option Addr) (cR : Nat) (l : List Nat) (w : World)  (hR : SRow w ra l) (hE : htE l ≠ 0) :
    Calls Tryz.prog 9 #[ndV s ia nin cin la nI cI ra l.length cR] w fun e w' => e = .returned (.int .i64 (htE l)) ∧ Below w.heap.size w w' := by
  have KH : ∀ w', SRow w' ra l → Calls Tryz.prog 16 #[.slice ra l.length cR] w' fun e w'' => e = .returned (.int .i64 (htE l)) ∧ w' = w'' := fun w' h => by
    have := heights_any ra cR l w' h
    skip
    exact this
  have KH := Lib.hid KH
  have HR := Lib.hid hR
  clear hR
  have hb : (htE l != 0) = true := by simpa using hE
  clear hE
  generalize htE l = z at *
  generalize l.length = n at *
  go_enter Tryz.func9, Tryz.ntmps9
  go_upto_region 1 with fail
  generalize hW0 : w.alloc (.cells #[.string s, .slice ia nin cin, .slice la nI cI, .slice ra n cR] 25) = W0
  have A0 : NdAt W0 w.heap.size s ia nin cin la nI cI ra n cR := by subst hW0; exact NdAt.new _ _ _ _ _ _ _ _ _ _ _
  have b0 : Below w.heap.size w W0 := by subst hW0; exact (by repeat (first | with_reducible exact Below.refl _ _ | with_reducible apply Below.drew | with_reducible refine below_drewN ?_ _ | (with_reducible refine Below.setCell ?_ ?_ _; rotate_left; focus (first | omega | (simp <;> omega))) | (with_reducible refine Below.alloc ?_ ?_ _; rotate_left; focus (first | omega | (simp <;> omega)))))
  have HB0 := Lib.hid b0
  have HR0 := Lib.hid (HR.out.below b0)
  obtain ⟨p0, p1, p2, p3⟩ := A0.cells
  have l0 := A0.lt
  clear hW0 A0 b0 HR
  go_wp2_with fail
  refine (KH.out _ HR0.out).mono ?_
  rintro e w1 ⟨rfl, rfl⟩
  go_wp2_with fail
  go_ret
  have hb := HB0.out
  exact ⟨rfl, (by have hszz := hb.size; repeat (first | with_reducible exact hb | with_reducible apply Below.drew | with_reducible refine below_drewN ?_ _ | (with_reducible refine Below.setCell ?_ ?_ _; rotate_left; focus (first | omega | (simp <;> omega))) | (with_reducible refine Below.alloc ?_ ?_ _; rotate_left; focus (first | omega | (simp <;> omega)))))⟩
end Go.Proofs.YtimhpmccmafnpaaGreat
