import Derived.Test.YtimhpmccmafnpaaGreatG20
import Derived.Test.YtimhpmccmafnpaaGreatG21
import Derived.BigQuiet
import Derived.Deep.CutBlock
import Derived.Deep.QuietTactic
import Derived.Deep.DeepCutAuto
import Derived.StillTailTactics
import Derived.IntWalk
namespace Go.Proofs.YtimhpmccmafnpaaGreat
open Go.ChangeShapes Go.WideShapes Go.ChangeAt Go.RowKit
open Ieee.Format (fin finE htE allFin allHt all_true all_false mulF subF addF Ht Bd divF rootF floorF easeF mixF)
set_option linter.unusedVariables false
open Ieee.Format (reachF)

/-- the greatest of four numbers -/
def mxF (a b c d : Int) : Int :=
  let m1 := if b > a then b else a
  let m2 := if c > m1 then c else m1
  if d > m2 then d else m2
theorem max_run (a b c d : Int) (w' : World) : (Builtin.max_ #[3, 3, 3, 3] 3 #[.int .i64 a, .int .i64 b, .int .i64 c, .int .i64 d]).run Tryz.prog w' = .ok (.int .i64 (mxF a b c d)) w' := rfl
set_option maxRecDepth 100000 in
set_option maxHeartbeats 2000000 in
theorem mar_none (s : ByteArray) (ia : Option Addr) (nin cin nI cI nR cR : Nat) (la : Option Addr) (ra : Option Addr) (w : World) (k0 : (s.toList == [115, 104, 105, 102, 116]) = false) (k1 : (s.toList == [98, 108, 117, 114]) = false) (k2 : (s.toList == [116, 104, 101, 114, 109, 97, 108]) = false) (k3 : (s.toList == [115, 109, 111, 111, 116, 104]) = false) (k4 : (s.toList == [107, 101, 114, 110, 101, 108]) = false) (k5 : (s.toList == [115, 108, 111, 112, 101]) = false) (k6 : (s.toList == [99, 117, 114, 118, 101]) = false) (k7 : (s.toList == [115, 104, 97, 100, 101]) = false) (k8 : (s.toList == [119, 97, 114, 112]) = false) :
    Calls Tryz.prog 10 #[ndV s ia nin cin la nI cI ra nR cR] w fun e w' => e = .returned (.int .i64 (0)) ∧ Below w.heap.size w w' := by
  go_enter Tryz.func10, Tryz.ntmps10
  go_upto_region 1 with fail
  generalize hW0 : w.alloc (.cells #[.string s, .slice ia nin cin, .slice la nI cI, .slice ra nR cR] 25) = W0
  have A0 : NdAt W0 w.heap.size s ia nin cin la nI cI ra nR cR := by subst hW0; exact NdAt.new _ _ _ _ _ _ _ _ _ _ _
  have b0 : Below w.heap.size w W0 := by subst hW0; exact (by repeat (first | with_reducible exact Below.refl _ _ | with_reducible apply Below.drew | with_reducible refine below_drewN ?_ _ | (with_reducible refine Below.setCell ?_ ?_ _; rotate_left; focus (first | omega | (simp <;> omega))) | (with_reducible refine Below.alloc ?_ ?_ _; rotate_left; focus (first | omega | (simp <;> omega)))))
  have HB0 := Lib.hid b0
  obtain ⟨p0, p1, p2, p3⟩ := A0.cells
  have l0 := A0.lt
  clear hW0 A0
  clear b0
  go_wp2_with fail
  go_ret
  have hb := HB0.out
  exact ⟨rfl, (by have hszz := hb.size; repeat (first | with_reducible exact hb | with_reducible apply Below.drew | with_reducible refine below_drewN ?_ _ | (with_reducible refine Below.setCell ?_ ?_ _; rotate_left; focus (first | omega | (simp <;> omega))) | (with_reducible refine Below.alloc ?_ ?_ _; rotate_left; focus (first | omega | (simp <;> omega)))))⟩
set_option maxRecDepth 100000 in
set_option maxHeartbeats 2000000 in
theorem mar_slope (s : ByteArray) (ia : Option Addr) (nin cin nI cI nR cR : Nat) (la : Option Addr) (ra : Option Addr) (w : World) (hz : s.toList = [115, 108, 111, 112, 101]) :
    Calls Tryz.prog 10 #[ndV s ia nin cin la nI cI ra nR cR] w fun e w' => e = .returned (.int .i64 (1)) ∧ Below w.heap.size w w' := by
  go_enter Tryz.func10, Tryz.ntmps10
  go_upto_region 1 with fail
  generalize hW0 : w.alloc (.cells #[.string s, .slice ia nin cin, .slice la nI cI, .slice ra nR cR] 25) = W0
  have A0 : NdAt W0 w.heap.size s ia nin cin la nI cI ra nR cR := by subst hW0; exact NdAt.new _ _ _ _ _ _ _ _ _ _ _
  have b0 : Below w.heap.size w W0 := by subst hW0; exact (by repeat (first | with_reducible exact Below.refl _ _ | with_reducible apply Below.drew | with_reducible refine below_drewN ?_ _ | (with_reducible refine Below.setCell ?_ ?_ _; rotate_left; focus (first | omega | (simp <;> omega))) | (with_reducible refine Below.alloc ?_ ?_ _; rotate_left; focus (first | omega | (simp <;> omega)))))
  have HB0 := Lib.hid b0
  obtain ⟨p0, p1, p2, p3⟩ := A0.cells
  have l0 := A0.lt
  clear hW0 A0
  clear b0
  go_wp2_with fail
  go_ret
  have hb := HB0.out
  exact ⟨rfl, (by have hszz := hb.size; repeat (first | with_reducible exact hb | with_reducible apply Below.drew | with_reducible refine below_drewN ?_ _ | (with_reducible refine Below.setCell ?_ ?_ _; rotate_left; focus (first | omega | (simp <;> omega))) | (with_reducible refine Below.alloc ?_ ?_ _; rotate_left; focus (first | omega | (simp <;> omega)))))⟩
set_option maxRecDepth 100000 in
set_option maxHeartbeats 2000000 in
theorem mar_curve (s : ByteArray) (ia : Option Addr) (nin cin nI cI nR cR : Nat) (la : Option Addr) (ra : Option Addr) (w : World) (hz : s.toList = [99, 117, 114, 118, 101]) :
    Calls Tryz.prog 10 #[ndV s ia nin cin la nI cI ra nR cR] w fun e w' => e = .returned (.int .i64 (1)) ∧ Below w.heap.size w w' := by
  go_enter Tryz.func10, Tryz.ntmps10
  go_upto_region 1 with fail
  generalize hW0 : w.alloc (.cells #[.string s, .slice ia nin cin, .slice la nI cI, .slice ra nR cR] 25) = W0
  have A0 : NdAt W0 w.heap.size s ia nin cin la nI cI ra nR cR := by subst hW0; exact NdAt.new _ _ _ _ _ _ _ _ _ _ _
  have b0 : Below w.heap.size w W0 := by subst hW0; exact (by repeat (first | with_reducible exact Below.refl _ _ | with_reducible apply Below.drew | with_reducible refine below_drewN ?_ _ | (with_reducible refine Below.setCell ?_ ?_ _; rotate_left; focus (first | omega | (simp <;> omega))) | (with_reducible refine Below.alloc ?_ ?_ _; rotate_left; focus (first | omega | (simp <;> omega)))))
  have HB0 := Lib.hid b0
  obtain ⟨p0, p1, p2, p3⟩ := A0.cells
  have l0 := A0.lt
  clear hW0 A0
  clear b0
  go_wp2_with fail
  go_ret
  have hb := HB0.out
  exact ⟨rfl, (by have hszz := hb.size; repeat (first | with_reducible exact hb | with_reducible apply Below.drew | with_reducible refine below_drewN ?_ _ | (with_reducible refine Below.setCell ?_ ?_ _; rotate_left; focus (first | omega | (simp <;> omega))) | (with_reducible refine Below.alloc ?_ ?_ _; rotate_left; focus (first | omega | (simp <;> omega)))))⟩
set_option maxRecDepth 100000 in
set_option maxHeartbeats 2000000 in
theorem mar_shade (s : ByteArray) (ia : Option Addr) (nin cin nI cI nR cR : Nat) (la : Option Addr) (ra : Option Addr) (w : World) (hz : s.toList = [115, 104, 97, 100, 101]) :
    Calls Tryz.prog 10 #[ndV s ia nin cin la nI cI ra nR cR] w fun e w' => e = .returned (.int .i64 (1)) ∧ Below w.heap.size w w' := by
  go_enter Tryz.func10, Tryz.ntmps10
  go_upto_region 1 with fail
  generalize hW0 : w.alloc (.cells #[.string s, .slice ia nin cin, .slice la nI cI, .slice ra nR cR] 25) = W0
  have A0 : NdAt W0 w.heap.size s ia nin cin la nI cI ra nR cR := by subst hW0; exact NdAt.new _ _ _ _ _ _ _ _ _ _ _
  have b0 : Below w.heap.size w W0 := by subst hW0; exact (by repeat (first | with_reducible exact Below.refl _ _ | with_reducible apply Below.drew | with_reducible refine below_drewN ?_ _ | (with_reducible refine Below.setCell ?_ ?_ _; rotate_left; focus (first | omega | (simp <;> omega))) | (with_reducible refine Below.alloc ?_ ?_ _; rotate_left; focus (first | omega | (simp <;> omega)))))
  have HB0 := Lib.hid b0
  obtain ⟨p0, p1, p2, p3⟩ := A0.cells
  have l0 := A0.lt
  clear hW0 A0
  clear b0
  go_wp2_with fail
  go_ret
  have hb := HB0.out
  exact ⟨rfl, (by have hszz := hb.size; repeat (first | with_reducible exact hb | with_reducible apply Below.drew | with_reducible refine below_drewN ?_ _ | (with_reducible refine Below.setCell ?_ ?_ _; rotate_left; focus (first | omega | (simp <;> omega))) | (with_reducible refine Below.alloc ?_ ?_ _; rotate_left; focus (first | omega | (simp <;> omega)))))⟩
set_option maxRecDepth 100000 in
set_option maxHeartbeats 2000000 in
theorem mar_blur (s : ByteArray) (ia : Option Addr) (nin cin b o cI nR cR : Nat) (ra : Option Addr) (i0 : Int) (w : World) (hz : s.toList = [98, 108, 117, 114]) (hI : ZRow w (some ⟨b, o, none⟩) [i0]) :
    Calls Tryz.prog 10 #[ndV s ia nin cin (some ⟨b, o, none⟩) 1 cI ra nR cR] w fun e w' => e = .returned (.int .i64 (i0)) ∧ Below w.heap.size w w' := by
  have HI := Lib.hid hI
  clear hI
  go_enter Tryz.func10, Tryz.ntmps10
  go_upto_region 1 with fail
  generalize hW0 : w.alloc (.cells #[.string s, .slice ia nin cin, .slice (some ⟨b, o, none⟩) 1 cI, .slice ra nR cR] 25) = W0
  have A0 : NdAt W0 w.heap.size s ia nin cin (some ⟨b, o, none⟩) 1 cI ra nR cR := by subst hW0; exact NdAt.new _ _ _ _ _ _ _ _ _ _ _
  have b0 : Below w.heap.size w W0 := by subst hW0; exact (by repeat (first | with_reducible exact Below.refl _ _ | with_reducible apply Below.drew | with_reducible refine below_drewN ?_ _ | (with_reducible refine Below.setCell ?_ ?_ _; rotate_left; focus (first | omega | (simp <;> omega))) | (with_reducible refine Below.alloc ?_ ?_ _; rotate_left; focus (first | omega | (simp <;> omega)))))
  have HB0 := Lib.hid b0
  have HI0 := Lib.hid (HI.out.below b0)
  obtain ⟨p0, p1, p2, p3⟩ := A0.cells
  have l0 := A0.lt
  clear hW0 A0 HI
  have x0 : W0.cell? ⟨b, o, none⟩ = some (.int .i64 i0) := HI0.out.at_ 0 (by simp)
  have lb : b < W0.heap.size := HI0.out.lt (by simp)
  clear b0
  go_wp2_with fail
  go_ret
  have hb := HB0.out
  exact ⟨rfl, (by have hszz := hb.size; repeat (first | with_reducible exact hb | with_reducible apply Below.drew | with_reducible refine below_drewN ?_ _ | (with_reducible refine Below.setCell ?_ ?_ _; rotate_left; focus (first | omega | (simp <;> omega))) | (with_reducible refine Below.alloc ?_ ?_ _; rotate_left; focus (first | omega | (simp <;> omega)))))⟩
set_option maxRecDepth 100000 in
set_option maxHeartbeats 2000000 in
theorem mar_smooth (s : ByteArray) (ia : Option Addr) (nin cin b o cI nR cR : Nat) (ra : Option Addr) (i0 : Int) (w : World) (hz : s.toList = [115, 109, 111, 111, 116, 104]) (hI : ZRow w (some ⟨b, o, none⟩) [i0]) :
    Calls Tryz.prog 10 #[ndV s ia nin cin (some ⟨b, o, none⟩) 1 cI ra nR cR] w fun e w' => e = .returned (.int .i64 (i0)) ∧ Below w.heap.size w w' := by
  have HI := Lib.hid hI
  clear hI
  go_enter Tryz.func10, Tryz.ntmps10
  go_upto_region 1 with fail
  generalize hW0 : w.alloc (.cells #[.string s, .slice ia nin cin, .slice (some ⟨b, o, none⟩) 1 cI, .slice ra nR cR] 25) = W0
  have A0 : NdAt W0 w.heap.size s ia nin cin (some ⟨b, o, none⟩) 1 cI ra nR cR := by subst hW0; exact NdAt.new _ _ _ _ _ _ _ _ _ _ _
  have b0 : Below w.heap.size w W0 := by subst hW0; exact (by repeat (first | with_reducible exact Below.refl _ _ | with_reducible apply Below.drew | with_reducible refine below_drewN ?_ _ | (with_reducible refine Below.setCell ?_ ?_ _; rotate_left; focus (first | omega | (simp <;> omega))) | (with_reducible refine Below.alloc ?_ ?_ _; rotate_left; focus (first | omega | (simp <;> omega)))))
  have HB0 := Lib.hid b0
  have HI0 := Lib.hid (HI.out.below b0)
  obtain ⟨p0, p1, p2, p3⟩ := A0.cells
  have l0 := A0.lt
  clear hW0 A0 HI
  have x0 : W0.cell? ⟨b, o, none⟩ = some (.int .i64 i0) := HI0.out.at_ 0 (by simp)
  have lb : b < W0.heap.size := HI0.out.lt (by simp)
  clear b0
  go_wp2_with fail
  go_ret
  have hb := HB0.out
  exact ⟨rfl, (by have hszz := hb.size; repeat (first | with_reducible exact hb | with_reducible apply Below.drew | with_reducible refine below_drewN ?_ _ | (with_reducible refine Below.setCell ?_ ?_ _; rotate_left; focus (first | omega | (simp <;> omega))) | (with_reducible refine Below.alloc ?_ ?_ _; rotate_left; focus (first | omega | (simp <;> omega)))))⟩
set_option maxRecDepth 100000 in
set_option maxHeartbeats 2000000 in
theorem mar_thermal (s : ByteArray) (ia : Option Addr) (nin cin b o cI nR cR : Nat) (ra : Option Addr) (i0 : Int) (w : World) (hz : s.toList = [116, 104, 101, 114, 109, 97, 108]) (hI : ZRow w (some ⟨b, o, none⟩) [i0]) :
    Calls Tryz.prog 10 #[ndV s ia nin cin (some ⟨b, o, none⟩) 1 cI ra nR cR] w fun e w' => e = .returned (.int .i64 (i0)) ∧ Below w.heap.size w w' := by
  have HI := Lib.hid hI
  clear hI
  go_enter Tryz.func10, Tryz.ntmps10
  go_upto_region 1 with fail
  generalize hW0 : w.alloc (.cells #[.string s, .slice ia nin cin, .slice (some ⟨b, o, none⟩) 1 cI, .slice ra nR cR] 25) = W0
  have A0 : NdAt W0 w.heap.size s ia nin cin (some ⟨b, o, none⟩) 1 cI ra nR cR := by subst hW0; exact NdAt.new _ _ _ _ _ _ _ _ _ _ _
  have b0 : Below w.heap.size w W0 := by subst hW0; exact (by repeat (first | with_reducible exact Below.refl _ _ | with_reducible apply Below.drew | with_reducible refine below_drewN ?_ _ | (with_reducible refine Below.setCell ?_ ?_ _; rotate_left; focus (first | omega | (simp <;> omega))) | (with_reducible refine Below.alloc ?_ ?_ _; rotate_left; focus (first | omega | (simp <;> omega)))))
  have HB0 := Lib.hid b0
  have HI0 := Lib.hid (HI.out.below b0)
  obtain ⟨p0, p1, p2, p3⟩ := A0.cells
  have l0 := A0.lt
  clear hW0 A0 HI
  have x0 : W0.cell? ⟨b, o, none⟩ = some (.int .i64 i0) := HI0.out.at_ 0 (by simp)
  have lb : b < W0.heap.size := HI0.out.lt (by simp)
  clear b0
  go_wp2_with fail
  go_ret
  have hb := HB0.out
  exact ⟨rfl, (by have hszz := hb.size; repeat (first | with_reducible exact hb | with_reducible apply Below.drew | with_reducible refine below_drewN ?_ _ | (with_reducible refine Below.setCell ?_ ?_ _; rotate_left; focus (first | omega | (simp <;> omega))) | (with_reducible refine Below.alloc ?_ ?_ _; rotate_left; focus (first | omega | (simp <;> omega)))))⟩
set_option maxRecDepth 100000 in
set_option maxHeartbeats 2000000 in
theorem mar_kernel (s : ByteArray) (ia : Option Addr) (nin cin b o cI nR cR : Nat) (ra : Option Addr) (i0 : Int) (w : World) (hz : s.toList = [107, 101, 114, 110, 101, 108]) (h1 : 1 ≤ i0) (h2 : i0 ≤ 15) (hI : ZRow w (some ⟨b, o, none⟩) [i0]) :
    Calls Tryz.prog 10 #[ndV s ia nin cin (some ⟨b, o, none⟩) 1 cI ra nR cR] w fun e w' => e = .returned (.int .i64 ((i0 - 1) / 2)) ∧ Below w.heap.size w w' := by
  have HI := Lib.hid hI
  clear hI
  have e1 : IntKind.i64.wrap (i0 - 1) = i0 - 1 := IntWalk.i64_in _ (by omega)
  have e2 : (i0 - 1).tdiv 2 = (i0 - 1) / 2 := Int.tdiv_eq_ediv_of_nonneg (by omega)
  have e3 : IntKind.i64.wrap ((i0 - 1) / 2) = (i0 - 1) / 2 := IntWalk.i64_in _ (by omega)
  go_enter Tryz.func10, Tryz.ntmps10
  go_upto_region 1 with fail
  generalize hW0 : w.alloc (.cells #[.string s, .slice ia nin cin, .slice (some ⟨b, o, none⟩) 1 cI, .slice ra nR cR] 25) = W0
  have A0 : NdAt W0 w.heap.size s ia nin cin (some ⟨b, o, none⟩) 1 cI ra nR cR := by subst hW0; exact NdAt.new _ _ _ _ _ _ _ _ _ _ _
  have b0 : Below w.heap.size w W0 := by subst hW0; exact (by repeat (first | with_reducible exact Below.refl _ _ | with_reducible apply Below.drew | with_reducible refine below_drewN ?_ _ | (with_reducible refine Below.setCell ?_ ?_ _; rotate_left; focus (first | omega | (simp <;> omega))) | (with_reducible refine Below.alloc ?_ ?_ _; rotate_left; focus (first | omega | (simp <;> omega)))))
  have HB0 := Lib.hid b0
  have HI0 := Lib.hid (HI.out.below b0)
  obtain ⟨p0, p1, p2, p3⟩ := A0.cells
  have l0 := A0.lt
  clear hW0 A0 HI
  have x0 : W0.cell? ⟨b, o, none⟩ = some (.int .i64 i0) := HI0.out.at_ 0 (by simp)
  have lb : b < W0.heap.size := HI0.out.lt (by simp)
  clear b0
  go_wp2_with fail
  go_ret
  have hb := HB0.out
  exact ⟨rfl, (by have hszz := hb.size; repeat (first | with_reducible exact hb | with_reducible apply Below.drew | with_reducible refine below_drewN ?_ _ | (with_reducible refine Below.setCell ?_ ?_ _; rotate_left; focus (first | omega | (simp <;> omega))) | (with_reducible refine Below.alloc ?_ ?_ _; rotate_left; focus (first | omega | (simp <;> omega)))))⟩
set_option maxRecDepth 100000 in
set_option maxHeartbeats 2000000 in
theorem mar_shift (s : ByteArray) (ia : Option Addr) (nin cin b o cI nR cR : Nat) (ra : Option Addr) (i0 i1 : Int) (w : World) (hz : s.toList = [115, 104, 105, 102, 116]) (h1 : -64 ≤ i0 ∧ i0 ≤ 64) (h2 : -64 ≤ i1 ∧ i1 ≤ 64) (hI : ZRow w (some ⟨b, o, none⟩) [i0, i1]) :
    Calls Tryz.prog 10 #[ndV s ia nin cin (some ⟨b, o, none⟩) 2 cI ra nR cR] w fun e w' => e = .returned (.int .i64 (mxF i0 (-i0) i1 (-i1))) ∧ Below w.heap.size w w' := by
  have HI := Lib.hid hI
  clear hI
  have hM := max_run i0 (-i0) i1 (-i1)
  have e1 : IntKind.i64.wrap (-i0) = -i0 := IntWalk.i64_in _ (by omega)
  have e2 : IntKind.i64.wrap (-i1) = -i1 := IntWalk.i64_in _ (by omega)
  have e3 : wrap64 (-i0) = -i0 := by unfold wrap64; omega
  have e4 : wrap64 (-i1) = -i1 := by unfold wrap64; omega
  clear h1 h2
  generalize mxF i0 (-i0) i1 (-i1) = M at *
  go_enter Tryz.func10, Tryz.ntmps10
  go_upto_region 1 with fail
  generalize hW0 : w.alloc (.cells #[.string s, .slice ia nin cin, .slice (some ⟨b, o, none⟩) 2 cI, .slice ra nR cR] 25) = W0
  have A0 : NdAt W0 w.heap.size s ia nin cin (some ⟨b, o, none⟩) 2 cI ra nR cR := by subst hW0; exact NdAt.new _ _ _ _ _ _ _ _ _ _ _
  have b0 : Below w.heap.size w W0 := by subst hW0; exact (by repeat (first | with_reducible exact Below.refl _ _ | with_reducible apply Below.drew | with_reducible refine below_drewN ?_ _ | (with_reducible refine Below.setCell ?_ ?_ _; rotate_left; focus (first | omega | (simp <;> omega))) | (with_reducible refine Below.alloc ?_ ?_ _; rotate_left; focus (first | omega | (simp <;> omega)))))
  have HB0 := Lib.hid b0
  have HI0 := Lib.hid (HI.out.below b0)
  obtain ⟨p0, p1, p2, p3⟩ := A0.cells
  have l0 := A0.lt
  clear hW0 A0 HI
  have x0 : W0.cell? ⟨b, o, none⟩ = some (.int .i64 i0) := HI0.out.at_ 0 (by simp)
  have x1 : W0.cell? ⟨b, o + 1, none⟩ = some (.int .i64 i1) := HI0.out.at_ 1 (by simp)
  have lb : b < W0.heap.size := HI0.out.lt (by simp)
  clear b0
  go_wp2_with fail
  go_quiet (fail)
  go_wp2_with fail
  go_ret
  have hb := HB0.out
  exact ⟨rfl, (by have hszz := hb.size; repeat (first | with_reducible exact hb | with_reducible apply Below.drew | with_reducible refine below_drewN ?_ _ | (with_reducible refine Below.setCell ?_ ?_ _; rotate_left; focus (first | omega | (simp <;> omega))) | (with_reducible refine Below.alloc ?_ ?_ _; rotate_left; focus (first | omega | (simp <;> omega)))))⟩
set_option maxRecDepth 100000 in
set_option maxHeartbeats 2000000 in
theorem refmar_none (s : ByteArray) (ia : Option Addr) (nin cin nI cI nR cR : Nat) (la : Option Addr) (ra : Option Addr) (w : World) (k0 : (s.toList == [115, 104, 105, 102, 116]) = false) (k1 : (s.toList == [98, 108, 117, 114]) = false) (k2 : (s.toList == [116, 104, 101, 114, 109, 97, 108]) = false) (k3 : (s.toList == [115, 109, 111, 111, 116, 104]) = false) (k4 : (s.toList == [107, 101, 114, 110, 101, 108]) = false) (k5 : (s.toList == [115, 108, 111, 112, 101]) = false) (k6 : (s.toList == [99, 117, 114, 118, 101]) = false) (k7 : (s.toList == [115, 104, 97, 100, 101]) = false) (k8 : (s.toList == [119, 97, 114, 112]) = false) :
    Calls Tryz.prog 12 #[ndV s ia nin cin la nI cI ra nR cR] w fun e w' => e = .returned (.int .i64 (0)) ∧ Below w.heap.size w w' := by
  go_enter Tryz.func12, Tryz.ntmps12
  go_upto_region 1 with fail
  generalize hW0 : w.alloc (.cells #[.string s, .slice ia nin cin, .slice la nI cI, .slice ra nR cR] 25) = W0
  have A0 : NdAt W0 w.heap.size s ia nin cin la nI cI ra nR cR := by subst hW0; exact NdAt.new _ _ _ _ _ _ _ _ _ _ _
  have b0 : Below w.heap.size w W0 := by subst hW0; exact (by repeat (first | with_reducible exact Below.refl _ _ | with_reducible apply Below.drew | with_reducible refine below_drewN ?_ _ | (with_reducible refine Below.setCell ?_ ?_ _; rotate_left; focus (first | omega | (simp <;> omega))) | (with_reducible refine Below.alloc ?_ ?_ _; rotate_left; focus (first | omega | (simp <;> omega)))))
  have HB0 := Lib.hid b0
  obtain ⟨p0, p1, p2, p3⟩ := A0.cells
  have l0 := A0.lt
  clear hW0 A0
  clear b0
  go_wp2_with fail
  go_ret
  have hb := HB0.out
  exact ⟨rfl, (by have hszz := hb.size; repeat (first | with_reducible exact hb | with_reducible apply Below.drew | with_reducible refine below_drewN ?_ _ | (with_reducible refine Below.setCell ?_ ?_ _; rotate_left; focus (first | omega | (simp <;> omega))) | (with_reducible refine Below.alloc ?_ ?_ _; rotate_left; focus (first | omega | (simp <;> omega)))))⟩
set_option maxRecDepth 100000 in
set_option maxHeartbeats 2000000 in
theorem refmar_slope (s : ByteArray) (ia : Option Addr) (nin cin nI cI nR cR : Nat) (la : Option Addr) (ra : Option Addr) (w : World) (hz : s.toList = [115, 108, 111, 112, 101]) :
    Calls Tryz.prog 12 #[ndV s ia nin cin la nI cI ra nR cR] w fun e w' => e = .returned (.int .i64 (1)) ∧ Below w.heap.size w w' := by
  go_enter Tryz.func12, Tryz.ntmps12
  go_upto_region 1 with fail
  generalize hW0 : w.alloc (.cells #[.string s, .slice ia nin cin, .slice la nI cI, .slice ra nR cR] 25) = W0
  have A0 : NdAt W0 w.heap.size s ia nin cin la nI cI ra nR cR := by subst hW0; exact NdAt.new _ _ _ _ _ _ _ _ _ _ _
  have b0 : Below w.heap.size w W0 := by subst hW0; exact (by repeat (first | with_reducible exact Below.refl _ _ | with_reducible apply Below.drew | with_reducible refine below_drewN ?_ _ | (with_reducible refine Below.setCell ?_ ?_ _; rotate_left; focus (first | omega | (simp <;> omega))) | (with_reducible refine Below.alloc ?_ ?_ _; rotate_left; focus (first | omega | (simp <;> omega)))))
  have HB0 := Lib.hid b0
  obtain ⟨p0, p1, p2, p3⟩ := A0.cells
  have l0 := A0.lt
  clear hW0 A0
  clear b0
  go_wp2_with fail
  go_ret
  have hb := HB0.out
  exact ⟨rfl, (by have hszz := hb.size; repeat (first | with_reducible exact hb | with_reducible apply Below.drew | with_reducible refine below_drewN ?_ _ | (with_reducible refine Below.setCell ?_ ?_ _; rotate_left; focus (first | omega | (simp <;> omega))) | (with_reducible refine Below.alloc ?_ ?_ _; rotate_left; focus (first | omega | (simp <;> omega)))))⟩
set_option maxRecDepth 100000 in
set_option maxHeartbeats 2000000 in
theorem refmar_curve (s : ByteArray) (ia : Option Addr) (nin cin nI cI nR cR : Nat) (la : Option Addr) (ra : Option Addr) (w : World) (hz : s.toList = [99, 117, 114, 118, 101]) :
    Calls Tryz.prog 12 #[ndV s ia nin cin la nI cI ra nR cR] w fun e w' => e = .returned (.int .i64 (1)) ∧ Below w.heap.size w w' := by
  go_enter Tryz.func12, Tryz.ntmps12
  go_upto_region 1 with fail
  generalize hW0 : w.alloc (.cells #[.string s, .slice ia nin cin, .slice la nI cI, .slice ra nR cR] 25) = W0
  have A0 : NdAt W0 w.heap.size s ia nin cin la nI cI ra nR cR := by subst hW0; exact NdAt.new _ _ _ _ _ _ _ _ _ _ _
  have b0 : Below w.heap.size w W0 := by subst hW0; exact (by repeat (first | with_reducible exact Below.refl _ _ | with_reducible apply Below.drew | with_reducible refine below_drewN ?_ _ | (with_reducible refine Below.setCell ?_ ?_ _; rotate_left; focus (first | omega | (simp <;> omega))) | (with_reducible refine Below.alloc ?_ ?_ _; rotate_left; focus (first | omega | (simp <;> omega)))))
  have HB0 := Lib.hid b0
  obtain ⟨p0, p1, p2, p3⟩ := A0.cells
  have l0 := A0.lt
  clear hW0 A0
  clear b0
  go_wp2_with fail
  go_ret
  have hb := HB0.out
  exact ⟨rfl, (by have hszz := hb.size; repeat (first | with_reducible exact hb | with_reducible apply Below.drew | with_reducible refine below_drewN ?_ _ | (with_reducible refine Below.setCell ?_ ?_ _; rotate_left; focus (first | omega | (simp <;> omega))) | (with_reducible refine Below.alloc ?_ ?_ _; rotate_left; focus (first | omega | (simp <;> omega)))))⟩
set_option maxRecDepth 100000 in
set_option maxHeartbeats 2000000 in
theorem refmar_shade (s : ByteArray) (ia : Option Addr) (nin cin nI cI nR cR : Nat) (la : Option Addr) (ra : Option Addr) (w : World) (hz : s.toList = [115, 104, 97, 100, 101]) :
    Calls Tryz.prog 12 #[ndV s ia nin cin la nI cI ra nR cR] w fun e w' => e = .returned (.int .i64 (1)) ∧ Below w.heap.size w w' := by
  go_enter Tryz.func12, Tryz.ntmps12
  go_upto_region 1 with fail
  generalize hW0 : w.alloc (.cells #[.string s, .slice ia nin cin, .slice la nI cI, .slice ra nR cR] 25) = W0
  have A0 : NdAt W0 w.heap.size s ia nin cin la nI cI ra nR cR := by subst hW0; exact NdAt.new _ _ _ _ _ _ _ _ _ _ _
  have b0 : Below w.heap.size w W0 := by subst hW0; exact (by repeat (first | with_reducible exact Below.refl _ _ | with_reducible apply Below.drew | with_reducible refine below_drewN ?_ _ | (with_reducible refine Below.setCell ?_ ?_ _; rotate_left; focus (first | omega | (simp <;> omega))) | (with_reducible refine Below.alloc ?_ ?_ _; rotate_left; focus (first | omega | (simp <;> omega)))))
  have HB0 := Lib.hid b0
  obtain ⟨p0, p1, p2, p3⟩ := A0.cells
  have l0 := A0.lt
  clear hW0 A0
  clear b0
  go_wp2_with fail
  go_ret
  have hb := HB0.out
  exact ⟨rfl, (by have hszz := hb.size; repeat (first | with_reducible exact hb | with_reducible apply Below.drew | with_reducible refine below_drewN ?_ _ | (with_reducible refine Below.setCell ?_ ?_ _; rotate_left; focus (first | omega | (simp <;> omega))) | (with_reducible refine Below.alloc ?_ ?_ _; rotate_left; focus (first | omega | (simp <;> omega)))))⟩
set_option maxRecDepth 100000 in
set_option maxHeartbeats 2000000 in
theorem refmar_blur (s : ByteArray) (ia : Option Addr) (nin cin b o cI nR cR : Nat) (ra : Option Addr) (i0 : Int) (w : World) (hz : s.toList = [98, 108, 117, 114]) (hI : ZRow w (some ⟨b, o, none⟩) [i0]) :
    Calls Tryz.prog 12 #[ndV s ia nin cin (some ⟨b, o, none⟩) 1 cI ra nR cR] w fun e w' => e = .returned (.int .i64 (i0)) ∧ Below w.heap.size w w' := by
  have HI := Lib.hid hI
  clear hI
  go_enter Tryz.func12, Tryz.ntmps12
  go_upto_region 1 with fail
  generalize hW0 : w.alloc (.cells #[.string s, .slice ia nin cin, .slice (some ⟨b, o, none⟩) 1 cI, .slice ra nR cR] 25) = W0
  have A0 : NdAt W0 w.heap.size s ia nin cin (some ⟨b, o, none⟩) 1 cI ra nR cR := by subst hW0; exact NdAt.new _ _ _ _ _ _ _ _ _ _ _
  have b0 : Below w.heap.size w W0 := by subst hW0; exact (by repeat (first | with_reducible exact Below.refl _ _ | with_reducible apply Below.drew | with_reducible refine below_drewN ?_ _ | (with_reducible refine Below.setCell ?_ ?_ _; rotate_left; focus (first | omega | (simp <;> omega))) | (with_reducible refine Below.alloc ?_ ?_ _; rotate_left; focus (first | omega | (simp <;> omega)))))
  have HB0 := Lib.hid b0
  have HI0 := Lib.hid (HI.out.below b0)
  obtain ⟨p0, p1, p2, p3⟩ := A0.cells
  have l0 := A0.lt
  clear hW0 A0 HI
  have x0 : W0.cell? ⟨b, o, none⟩ = some (.int .i64 i0) := HI0.out.at_ 0 (by simp)
  have lb : b < W0.heap.size := HI0.out.lt (by simp)
  clear b0
  go_wp2_with fail
  go_ret
  have hb := HB0.out
  exact ⟨rfl, (by have hszz := hb.size; repeat (first | with_reducible exact hb | with_reducible apply Below.drew | with_reducible refine below_drewN ?_ _ | (with_reducible refine Below.setCell ?_ ?_ _; rotate_left; focus (first | omega | (simp <;> omega))) | (with_reducible refine Below.alloc ?_ ?_ _; rotate_left; focus (first | omega | (simp <;> omega)))))⟩
set_option maxRecDepth 100000 in
set_option maxHeartbeats 2000000 in
theorem refmar_smooth (s : ByteArray) (ia : Option Addr) (nin cin b o cI nR cR : Nat) (ra : Option Addr) (i0 : Int) (w : World) (hz : s.toList = [115, 109, 111, 111, 116, 104]) (hI : ZRow w (some ⟨b, o, none⟩) [i0]) :
    Calls Tryz.prog 12 #[ndV s ia nin cin (some ⟨b, o, none⟩) 1 cI ra nR cR] w fun e w' => e = .returned (.int .i64 (i0)) ∧ Below w.heap.size w w' := by
  have HI := Lib.hid hI
  clear hI
  go_enter Tryz.func12, Tryz.ntmps12
  go_upto_region 1 with fail
  generalize hW0 : w.alloc (.cells #[.string s, .slice ia nin cin, .slice (some ⟨b, o, none⟩) 1 cI, .slice ra nR cR] 25) = W0
  have A0 : NdAt W0 w.heap.size s ia nin cin (some ⟨b, o, none⟩) 1 cI ra nR cR := by subst hW0; exact NdAt.new _ _ _ _ _ _ _ _ _ _ _
  have b0 : Below w.heap.size w W0 := by subst hW0; exact (by repeat (first | with_reducible exact Below.refl _ _ | with_reducible apply Below.drew | with_reducible refine below_drewN ?_ _ | (with_reducible refine Below.setCell ?_ ?_ _; rotate_left; focus (first | omega | (simp <;> omega))) | (with_reducible refine Below.alloc ?_ ?_ _; rotate_left; focus (first | omega | (simp <;> omega)))))
  have HB0 := Lib.hid b0
  have HI0 := Lib.hid (HI.out.below b0)
  obtain ⟨p0, p1, p2, p3⟩ := A0.cells
  have l0 := A0.lt
  clear hW0 A0 HI
  have x0 : W0.cell? ⟨b, o, none⟩ = some (.int .i64 i0) := HI0.out.at_ 0 (by simp)
  have lb : b < W0.heap.size := HI0.out.lt (by simp)
  clear b0
  go_wp2_with fail
  go_ret
  have hb := HB0.out
  exact ⟨rfl, (by have hszz := hb.size; repeat (first | with_reducible exact hb | with_reducible apply Below.drew | with_reducible refine below_drewN ?_ _ | (with_reducible refine Below.setCell ?_ ?_ _; rotate_left; focus (first | omega | (simp <;> omega))) | (with_reducible refine Below.alloc ?_ ?_ _; rotate_left; focus (first | omega | (simp <;> omega)))))⟩
set_option maxRecDepth 100000 in
set_option maxHeartbeats 2000000 in
theorem refmar_thermal (s : ByteArray) (ia : Option Addr) (nin cin b o cI nR cR : Nat) (ra : Option Addr) (i0 : Int) (w : World) (hz : s.toList = [116, 104, 101, 114, 109, 97, 108]) (hI : ZRow w (some ⟨b, o, none⟩) [i0]) :
    Calls Tryz.prog 12 #[ndV s ia nin cin (some ⟨b, o, none⟩) 1 cI ra nR cR] w fun e w' => e = .returned (.int .i64 (i0)) ∧ Below w.heap.size w w' := by
  have HI := Lib.hid hI
  clear hI
  go_enter Tryz.func12, Tryz.ntmps12
  go_upto_region 1 with fail
  generalize hW0 : w.alloc (.cells #[.string s, .slice ia nin cin, .slice (some ⟨b, o, none⟩) 1 cI, .slice ra nR cR] 25) = W0
  have A0 : NdAt W0 w.heap.size s ia nin cin (some ⟨b, o, none⟩) 1 cI ra nR cR := by subst hW0; exact NdAt.new _ _ _ _ _ _ _ _ _ _ _
  have b0 : Below w.heap.size w W0 := by subst hW0; exact (by repeat (first | with_reducible exact Below.refl _ _ | with_reducible apply Below.drew | with_reducible refine below_drewN ?_ _ | (with_reducible refine Below.setCell ?_ ?_ _; rotate_left; focus (first | omega | (simp <;> omega))) | (with_reducible refine Below.alloc ?_ ?_ _; rotate_left; focus (first | omega | (simp <;> omega)))))
  have HB0 := Lib.hid b0
  have HI0 := Lib.hid (HI.out.below b0)
  obtain ⟨p0, p1, p2, p3⟩ := A0.cells
  have l0 := A0.lt
  clear hW0 A0 HI
  have x0 : W0.cell? ⟨b, o, none⟩ = some (.int .i64 i0) := HI0.out.at_ 0 (by simp)
  have lb : b < W0.heap.size := HI0.out.lt (by simp)
  clear b0
  go_wp2_with fail
  go_ret
  have hb := HB0.out
  exact ⟨rfl, (by have hszz := hb.size; repeat (first | with_reducible exact hb | with_reducible apply Below.drew | with_reducible refine below_drewN ?_ _ | (with_reducible refine Below.setCell ?_ ?_ _; rotate_left; focus (first | omega | (simp <;> omega))) | (with_reducible refine Below.alloc ?_ ?_ _; rotate_left; focus (first | omega | (simp <;> omega)))))⟩
set_option maxRecDepth 100000 in
set_option maxHeartbeats 2000000 in
theorem refmar_kernel (s : ByteArray) (ia : Option Addr) (nin cin b o cI nR cR : Nat) (ra : Option Addr) (i0 : Int) (w : World) (hz : s.toList = [107, 101, 114, 110, 101, 108]) (h1 : 1 ≤ i0) (h2 : i0 ≤ 15) (hI : ZRow w (some ⟨b, o, none⟩) [i0]) :
    Calls Tryz.prog 12 #[ndV s ia nin cin (some ⟨b, o, none⟩) 1 cI ra nR cR] w fun e w' => e = .returned (.int .i64 ((i0 - 1) / 2)) ∧ Below w.heap.size w w' := by
  have HI := Lib.hid hI
  clear hI
  have e1 : IntKind.i64.wrap (i0 - 1) = i0 - 1 := IntWalk.i64_in _ (by omega)
  have e2 : (i0 - 1).tdiv 2 = (i0 - 1) / 2 := Int.tdiv_eq_ediv_of_nonneg (by omega)
  have e3 : IntKind.i64.wrap ((i0 - 1) / 2) = (i0 - 1) / 2 := IntWalk.i64_in _ (by omega)
  go_enter Tryz.func12, Tryz.ntmps12
  go_upto_region 1 with fail
  generalize hW0 : w.alloc (.cells #[.string s, .slice ia nin cin, .slice (some ⟨b, o, none⟩) 1 cI, .slice ra nR cR] 25) = W0
  have A0 : NdAt W0 w.heap.size s ia nin cin (some ⟨b, o, none⟩) 1 cI ra nR cR := by subst hW0; exact NdAt.new _ _ _ _ _ _ _ _ _ _ _
  have b0 : Below w.heap.size w W0 := by subst hW0; exact (by repeat (first | with_reducible exact Below.refl _ _ | with_reducible apply Below.drew | with_reducible refine below_drewN ?_ _ | (with_reducible refine Below.setCell ?_ ?_ _; rotate_left; focus (first | omega | (simp <;> omega))) | (with_reducible refine Below.alloc ?_ ?_ _; rotate_left; focus (first | omega | (simp <;> omega)))))
  have HB0 := Lib.hid b0
  have HI0 := Lib.hid (HI.out.below b0)
  obtain ⟨p0, p1, p2, p3⟩ := A0.cells
  have l0 := A0.lt
  clear hW0 A0 HI
  have x0 : W0.cell? ⟨b, o, none⟩ = some (.int .i64 i0) := HI0.out.at_ 0 (by simp)
  have lb : b < W0.heap.size := HI0.out.lt (by simp)
  clear b0
  go_wp2_with fail
  go_ret
  have hb := HB0.out
  exact ⟨rfl, (by have hszz := hb.size; repeat (first | with_reducible exact hb | with_reducible apply Below.drew | with_reducible refine below_drewN ?_ _ | (with_reducible refine Below.setCell ?_ ?_ _; rotate_left; focus (first | omega | (simp <;> omega))) | (with_reducible refine Below.alloc ?_ ?_ _; rotate_left; focus (first | omega | (simp <;> omega)))))⟩
set_option maxRecDepth 100000 in
set_option maxHeartbeats 2000000 in
theorem refmar_shift (s : ByteArray) (ia : Option Addr) (nin cin b o cI nR cR : Nat) (ra : Option Addr) (i0 i1 : Int) (w : World) (hz : s.toList = [115, 104, 105, 102, 116]) (h1 : -64 ≤ i0 ∧ i0 ≤ 64) (h2 : -64 ≤ i1 ∧ i1 ≤ 64) (hI : ZRow w (some ⟨b, o, none⟩) [i0, i1]) :
    Calls Tryz.prog 12 #[ndV s ia nin cin (some ⟨b, o, none⟩) 2 cI ra nR cR] w fun e w' => e = .returned (.int .i64 (mxF i0 (-i0) i1 (-i1))) ∧ Below w.heap.size w w' := by
  have HI := Lib.hid hI
  clear hI
  have hM := max_run i0 (-i0) i1 (-i1)
  have e1 : IntKind.i64.wrap (-i0) = -i0 := IntWalk.i64_in _ (by omega)
  have e2 : IntKind.i64.wrap (-i1) = -i1 := IntWalk.i64_in _ (by omega)
  have e3 : wrap64 (-i0) = -i0 := by unfold wrap64; omega
  have e4 : wrap64 (-i1) = -i1 := by unfold wrap64; omega
  clear h1 h2
  generalize mxF i0 (-i0) i1 (-i1) = M at *
  go_enter Tryz.func12, Tryz.ntmps12
  go_upto_region 1 with fail
  generalize hW0 : w.alloc (.cells #[.string s, .slice ia nin cin, .slice (some ⟨b, o, none⟩) 2 cI, .slice ra nR cR] 25) = W0
  have A0 : NdAt W0 w.heap.size s ia nin cin (some ⟨b, o, none⟩) 2 cI ra nR cR := by subst hW0; exact NdAt.new _ _ _ _ _ _ _ _ _ _ _
  have b0 : Below w.heap.size w W0 := by subst hW0; exact (by repeat (first | with_reducible exact Below.refl _ _ | with_reducible apply Below.drew | with_reducible refine below_drewN ?_ _ | (with_reducible refine Below.setCell ?_ ?_ _; rotate_left; focus (first | omega | (simp <;> omega))) | (with_reducible refine Below.alloc ?_ ?_ _; rotate_left; focus (first | omega | (simp <;> omega)))))
  have HB0 := Lib.hid b0
  have HI0 := Lib.hid (HI.out.below b0)
  obtain ⟨p0, p1, p2, p3⟩ := A0.cells
  have l0 := A0.lt
  clear hW0 A0 HI
  have x0 : W0.cell? ⟨b, o, none⟩ = some (.int .i64 i0) := HI0.out.at_ 0 (by simp)
  have x1 : W0.cell? ⟨b, o + 1, none⟩ = some (.int .i64 i1) := HI0.out.at_ 1 (by simp)
  have lb : b < W0.heap.size := HI0.out.lt (by simp)
  clear b0
  go_wp2_with fail
  go_quiet (fail)
  go_wp2_with fail
  go_ret
  have hb := HB0.out
  exact ⟨rfl, (by have hszz := hb.size; repeat (first | with_reducible exact hb | with_reducible apply Below.drew | with_reducible refine below_drewN ?_ _ | (with_reducible refine Below.setCell ?_ ?_ _; rotate_left; focus (first | omega | (simp <;> omega))) | (with_reducible refine Below.alloc ?_ ?_ _; rotate_left; focus (first | omega | (simp <;> omega)))))⟩
set_option maxRecDepth 100000 in
set_option maxHeartbeats 2000000 in
theorem mar_warp (s : ByteArray) (ia : Option Addr) (nin cin b o cI rb ro cR : Nat) (i0 i1 i2 i3 : Int) (r0 r1 : Nat) (w : World) (hz : s.toList = [119, 97, 114, 112]) (hI : ZRow w (some ⟨b, o, none⟩) [i0, i1, i2, i3]) (hR : SRow w (some ⟨rb, ro, none⟩) [r0, r1]) (hp : wpE i0 i2 i3 r0 r1 = 0) :
    Calls Tryz.prog 10 #[ndV s ia nin cin (some ⟨b, o, none⟩) 4 cI (some ⟨rb, ro, none⟩) 2 cR] w fun e w' => e = .returned (.int .i64 (margZ (reachF r0 (bndF i0) i3.toNat) r1)) ∧ Below w.heap.size w w' := by
  have h0 := hR.1.2 r0 (by simp)
  have h1 := hR.1.2 r1 (by simp)
  have KM : ∀ w', ZRow w' (some ⟨b, o, none⟩) [i0, i1, i2, i3] → SRow w' (some ⟨rb, ro, none⟩) [r0, r1] → _ := fun w' hI hR => mk_warp s ia nin cin b o cI rb ro 2 cR i0 i1 i2 i3 r0 r1 [r0, r1] w' hI hR rfl rfl
  have KM := Lib.hid KM
  have KC : ∀ w' : World, Calls Tryz.prog 32 #[wpV i0 (i1 % 4294967296) i2 i3 r0 r1] w' fun e w'' => e = .returned (.tuple #[.int .i64 (margZ (reachF r0 (bndF i0) i3.toNat) r1), .int .i64 0]) ∧ Below w'.heap.size w' w'' := fun w' => by
    have := marginop_any i0 (i1 % 4294967296) i2 i3 r0 r1 h0 h1 w'
    rw [hp, if_pos rfl] at this
    exact this
  have KC := Lib.hid KC
  unfold wpV at KC KM
  generalize margZ (reachF r0 (bndF i0) i3.toNat) r1 = M at *
  have HI := Lib.hid hI
  have HR := Lib.hid hR
  clear hI hR hp h0 h1
  go_enter Tryz.func10, Tryz.ntmps10
  go_upto_region 1 with fail
  generalize hW0 : w.alloc (.cells #[.string s, .slice ia nin cin, .slice (some ⟨b, o, none⟩) 4 cI, .slice (some ⟨rb, ro, none⟩) 2 cR] 25) = W0
  have A0 : NdAt W0 w.heap.size s ia nin cin (some ⟨b, o, none⟩) 4 cI (some ⟨rb, ro, none⟩) 2 cR := by subst hW0; exact NdAt.new _ _ _ _ _ _ _ _ _ _ _
  have b0 : Below w.heap.size w W0 := by subst hW0; exact (by repeat (first | with_reducible exact Below.refl _ _ | with_reducible apply Below.drew | with_reducible refine below_drewN ?_ _ | (with_reducible refine Below.setCell ?_ ?_ _; rotate_left; focus (first | omega | (simp <;> omega))) | (with_reducible refine Below.alloc ?_ ?_ _; rotate_left; focus (first | omega | (simp <;> omega)))))
  have HB0 := Lib.hid b0
  obtain ⟨p0, p1, p2, p3⟩ := A0.cells
  have l0 := A0.lt
  clear hW0 A0
  have HI0 := Lib.hid (HI.out.below b0)
  have HR0 := Lib.hid (HR.out.below b0)
  clear b0 HI HR
  go_wp2_with fail
  refine (KM.out _ HI0.out HR0.out).mono ?_
  rintro e w1 ⟨rfl, b1⟩
  have HB1 := Lib.hid (HB0.out.trans (b1.mono HB0.out.size))
  clear b1
  go_wp2_with fail
  refine (KC.out _).mono ?_
  rintro e w2 ⟨rfl, b2⟩
  have HB2 := Lib.hid (HB1.out.trans (b2.mono HB1.out.size))
  clear b2
  go_wp2_with fail
  go_ret
  have hb := HB2.out
  exact ⟨rfl, (by have hszz := hb.size; repeat (first | with_reducible exact hb | with_reducible apply Below.drew | with_reducible refine below_drewN ?_ _ | (with_reducible refine Below.setCell ?_ ?_ _; rotate_left; focus (first | omega | (simp <;> omega))) | (with_reducible refine Below.alloc ?_ ?_ _; rotate_left; focus (first | omega | (simp <;> omega)))))⟩
set_option maxRecDepth 100000 in
set_option maxHeartbeats 2000000 in
theorem refmar_warp (s : ByteArray) (ia : Option Addr) (nin cin b o cI rb ro cR : Nat) (i0 i1 i2 i3 : Int) (r0 r1 : Nat) (w : World) (hz : s.toList = [119, 97, 114, 112]) (hI : ZRow w (some ⟨b, o, none⟩) [i0, i1, i2, i3]) (hR : SRow w (some ⟨rb, ro, none⟩) [r0, r1]) (hp : wpE i0 i2 i3 r0 r1 = 0) :
    Calls Tryz.prog 12 #[ndV s ia nin cin (some ⟨b, o, none⟩) 4 cI (some ⟨rb, ro, none⟩) 2 cR] w fun e w' => e = .returned (.int .i64 (margZ (reachF r0 (bndF i0) i3.toNat) r1)) ∧ Below w.heap.size w w' := by
  have h0 := hR.1.2 r0 (by simp)
  have h1 := hR.1.2 r1 (by simp)
  have KM : ∀ w', ZRow w' (some ⟨b, o, none⟩) [i0, i1, i2, i3] → SRow w' (some ⟨rb, ro, none⟩) [r0, r1] → _ := fun w' hI hR => refmk_warp s ia nin cin b o cI rb ro 2 cR i0 i1 i2 i3 r0 r1 [r0, r1] w' hI hR rfl rfl
  have KM := Lib.hid KM
  obtain ⟨f0, f1⟩ := wpE_zero hp
  obtain ⟨n, rfl, n1, n2⟩ := frE_nat f0
  obtain ⟨c1, c2, _, c4⟩ := frE_zero f0
  have KC : ∀ w' : World, Calls Tryz.prog 35 #[wpV i0 (i1 % 4294967296) i2 n r0 r1] w' fun e w'' => e = .returned (.int .i64 (margZ (reachF r0 (bndF i0) (n : Int).toNat) r1)) ∧ Below w'.heap.size w' w'' := fun w' => by
    have := refmargin_any i0 (i1 % 4294967296) i2 n r0 r1 w' c1.1 c1.2 n1 n2 c4 c2.1 c2.2 (wsE_zero f1)
    simpa using this
  clear f0 f1 c1 c2 c4 n1 n2
  generalize (n : Int) = i3 at *
  have KC := Lib.hid KC
  unfold wpV at KC KM
  generalize margZ (reachF r0 (bndF i0) i3.toNat) r1 = M at *
  have HI := Lib.hid hI
  have HR := Lib.hid hR
  clear hI hR hp h0 h1
  go_enter Tryz.func12, Tryz.ntmps12
  go_upto_region 1 with fail
  generalize hW0 : w.alloc (.cells #[.string s, .slice ia nin cin, .slice (some ⟨b, o, none⟩) 4 cI, .slice (some ⟨rb, ro, none⟩) 2 cR] 25) = W0
  have A0 : NdAt W0 w.heap.size s ia nin cin (some ⟨b, o, none⟩) 4 cI (some ⟨rb, ro, none⟩) 2 cR := by subst hW0; exact NdAt.new _ _ _ _ _ _ _ _ _ _ _
  have b0 : Below w.heap.size w W0 := by subst hW0; exact (by repeat (first | with_reducible exact Below.refl _ _ | with_reducible apply Below.drew | with_reducible refine below_drewN ?_ _ | (with_reducible refine Below.setCell ?_ ?_ _; rotate_left; focus (first | omega | (simp <;> omega))) | (with_reducible refine Below.alloc ?_ ?_ _; rotate_left; focus (first | omega | (simp <;> omega)))))
  have HB0 := Lib.hid b0
  obtain ⟨p0, p1, p2, p3⟩ := A0.cells
  have l0 := A0.lt
  clear hW0 A0
  have HI0 := Lib.hid (HI.out.below b0)
  have HR0 := Lib.hid (HR.out.below b0)
  clear b0 HI HR
  go_wp2_with fail
  refine (KM.out _ HI0.out HR0.out).mono ?_
  rintro e w1 ⟨rfl, b1⟩
  have HB1 := Lib.hid (HB0.out.trans (b1.mono HB0.out.size))
  clear b1
  go_wp2_with fail
  refine (KC.out _).mono ?_
  rintro e w2 ⟨rfl, b2⟩
  have HB2 := Lib.hid (HB1.out.trans (b2.mono HB1.out.size))
  clear b2
  go_wp2_with fail
  go_ret
  have hb := HB2.out
  exact ⟨rfl, (by have hszz := hb.size; repeat (first | with_reducible exact hb | with_reducible apply Below.drew | with_reducible refine below_drewN ?_ _ | (with_reducible refine Below.setCell ?_ ?_ _; rotate_left; focus (first | omega | (simp <;> omega))) | (with_reducible refine Below.alloc ?_ ?_ _; rotate_left; focus (first | omega | (simp <;> omega)))))⟩
end Go.Proofs.YtimhpmccmafnpaaGreat

namespace Go.Proofs.YtimhpmccmafnpaaGreat
open Go.ChangeShapes Go.WideShapes Go.ChangeAt Go.RowKit
open Ieee.Format (fin finE htE allFin allHt all_true all_false mulF subF addF Ht Bd divF rootF floorF easeF mixF)
set_option linter.unusedVariables false

def stE (e1 e2 : Int) : Int := if e1 = 0 then e2 else e1
def stM (e1 e2 m : Int) : Int := if e1 = 0 then (if e2 = 0 then m else 0) else 0
set_option maxRecDepth 100000 in
set_option maxHeartbeats 1000000 in
theorem step_any (s : ByteArray) (ia : Option Addr) (nin cin : Nat) (la : Option Addr) (nI cI : Nat) (ra : Option Addr) (nR cR : Nat) (e1 e2 m : Int) (w : World)
    (CF : ∀ w', Below w.heap.size w w' → Calls Tryz.prog 8 #[ndV s ia nin cin la nI cI ra nR cR] w' fun e w'' => e = .returned (.int .i64 (e1)) ∧ Below w'.heap.size w' w'')
    (CN : e1 = 0 → ∀ w', Below w.heap.size w w' → Calls Tryz.prog 9 #[ndV s ia nin cin la nI cI ra nR cR] w' fun e w'' => e = .returned (.int .i64 (e2)) ∧ Below w'.heap.size w' w'')
    (CM : e1 = 0 → e2 = 0 → ∀ w', Below w.heap.size w w' → Calls Tryz.prog 10 #[ndV s ia nin cin la nI cI ra nR cR] w' fun e w'' => e = .returned (.int .i64 (m)) ∧ Below w'.heap.size w' w'') :
    Calls Tryz.prog 5 #[ndV s ia nin cin la nI cI ra nR cR] w fun e w' => e = .returned (.tuple #[.int .i64 (stM e1 e2 m), .int .i64 (stE e1 e2)]) ∧ Below w.heap.size w w' := by
  have KF := Lib.hid CF
  clear CF
  unfold stM stE
  by_cases h1 : e1 = 0
  · rw [if_pos h1, if_pos h1]
    have KN := Lib.hid (CN h1)
    subst h1
    by_cases h2 : e2 = 0
    · rw [if_pos h2]
      have KM := Lib.hid (CM rfl h2)
      subst h2
      clear CN CM
      go_enter Tryz.func5, Tryz.ntmps5
      go_upto_region 1 with fail
      generalize hW0 : w.alloc (.cells #[.string s, .slice ia nin cin, .slice la nI cI, .slice ra nR cR] 25) = W0
      have A0 : NdAt W0 w.heap.size s ia nin cin la nI cI ra nR cR := by subst hW0; exact NdAt.new _ _ _ _ _ _ _ _ _ _ _
      have b0 : Below w.heap.size w W0 := by subst hW0; exact (by repeat (first | with_reducible exact Below.refl _ _ | with_reducible apply Below.drew | with_reducible refine below_drewN ?_ _ | (with_reducible refine Below.setCell ?_ ?_ _; rotate_left; focus (first | omega | (simp <;> omega))) | (with_reducible refine Below.alloc ?_ ?_ _; rotate_left; focus (first | omega | (simp <;> omega)))))
      have HB0 := Lib.hid b0
      have HA0 := Lib.hid A0
      clear hW0 A0 b0
      obtain ⟨p0, p1, p2, p3⟩ := HA0.out.cells
      have l0 := HA0.out.lt
      go_wp2_with fail
      refine (KF.out W0 HB0.out).mono ?_
      rintro e w1 ⟨rfl, b1⟩
      have HB1 := Lib.hid (HB0.out.trans (b1.mono HB0.out.size))
      have HA1 := Lib.hid (HA0.out.below b1 HA0.out.lt)
      clear b1 p0 p1 p2 p3 l0
      obtain ⟨p0, p1, p2, p3⟩ := HA1.out.cells
      have l0 := HA1.out.lt
      go_wp2_with fail
      refine (KN.out w1 HB1.out).mono ?_
      rintro e w2 ⟨rfl, b2⟩
      have HB2 := Lib.hid (HB1.out.trans (b2.mono HB1.out.size))
      have HA2 := Lib.hid (HA1.out.below b2 HA1.out.lt)
      clear b2 p0 p1 p2 p3 l0
      obtain ⟨p0, p1, p2, p3⟩ := HA2.out.cells
      have l0 := HA2.out.lt
      go_wp2_with fail
      refine (KM.out w2 HB2.out).mono ?_
      rintro e w3 ⟨rfl, b3⟩
      have HB3 := Lib.hid (HB2.out.trans (b3.mono HB2.out.size))
      clear b3
      go_wp2_with fail
      go_ret2
      exact ⟨rfl, HB3.out⟩
    · rw [if_neg h2]
      have hb2 : (e2 != 0) = true := by simpa using h2
      clear CN CM h2
      go_enter Tryz.func5, Tryz.ntmps5
      go_upto_region 1 with fail
      generalize hW0 : w.alloc (.cells #[.string s, .slice ia nin cin, .slice la nI cI, .slice ra nR cR] 25) = W0
      have A0 : NdAt W0 w.heap.size s ia nin cin la nI cI ra nR cR := by subst hW0; exact NdAt.new _ _ _ _ _ _ _ _ _ _ _
      have b0 : Below w.heap.size w W0 := by subst hW0; exact (by repeat (first | with_reducible exact Below.refl _ _ | with_reducible apply Below.drew | with_reducible refine below_drewN ?_ _ | (with_reducible refine Below.setCell ?_ ?_ _; rotate_left; focus (first | omega | (simp <;> omega))) | (with_reducible refine Below.alloc ?_ ?_ _; rotate_left; focus (first | omega | (simp <;> omega)))))
      have HB0 := Lib.hid b0
      have HA0 := Lib.hid A0
      clear hW0 A0 b0
      obtain ⟨p0, p1, p2, p3⟩ := HA0.out.cells
      have l0 := HA0.out.lt
      go_wp2_with fail
      refine (KF.out W0 HB0.out).mono ?_
      rintro e w1 ⟨rfl, b1⟩
      have HB1 := Lib.hid (HB0.out.trans (b1.mono HB0.out.size))
      have HA1 := Lib.hid (HA0.out.below b1 HA0.out.lt)
      clear b1 p0 p1 p2 p3 l0
      obtain ⟨p0, p1, p2, p3⟩ := HA1.out.cells
      have l0 := HA1.out.lt
      go_wp2_with fail
      refine (KN.out w1 HB1.out).mono ?_
      rintro e w2 ⟨rfl, b2⟩
      have HB2 := Lib.hid (HB1.out.trans (b2.mono HB1.out.size))
      have HA2 := Lib.hid (HA1.out.below b2 HA1.out.lt)
      clear b2 p0 p1 p2 p3 l0
      obtain ⟨p0, p1, p2, p3⟩ := HA2.out.cells
      have l0 := HA2.out.lt
      go_wp2_with fail
      go_ret2
      exact ⟨rfl, HB2.out⟩
  · rw [if_neg h1, if_neg h1]
    have hb1 : (e1 != 0) = true := by simpa using h1
    clear CN CM h1
    go_enter Tryz.func5, Tryz.ntmps5
    go_upto_region 1 with fail
    generalize hW0 : w.alloc (.cells #[.string s, .slice ia nin cin, .slice la nI cI, .slice ra nR cR] 25) = W0
    have A0 : NdAt W0 w.heap.size s ia nin cin la nI cI ra nR cR := by subst hW0; exact NdAt.new _ _ _ _ _ _ _ _ _ _ _
    have b0 : Below w.heap.size w W0 := by subst hW0; exact (by repeat (first | with_reducible exact Below.refl _ _ | with_reducible apply Below.drew | with_reducible refine below_drewN ?_ _ | (with_reducible refine Below.setCell ?_ ?_ _; rotate_left; focus (first | omega | (simp <;> omega))) | (with_reducible refine Below.alloc ?_ ?_ _; rotate_left; focus (first | omega | (simp <;> omega)))))
    have HB0 := Lib.hid b0
    have HA0 := Lib.hid A0
    clear hW0 A0 b0
    obtain ⟨p0, p1, p2, p3⟩ := HA0.out.cells
    have l0 := HA0.out.lt
    go_wp2_with fail
    refine (KF.out W0 HB0.out).mono ?_
    rintro e w1 ⟨rfl, b1⟩
    have HB1 := Lib.hid (HB0.out.trans (b1.mono HB0.out.size))
    have HA1 := Lib.hid (HA0.out.below b1 HA0.out.lt)
    clear b1 p0 p1 p2 p3 l0
    obtain ⟨p0, p1, p2, p3⟩ := HA1.out.cells
    have l0 := HA1.out.lt
    go_wp2_with fail
    go_ret2
    exact ⟨rfl, HB1.out⟩
set_option maxRecDepth 100000 in
set_option maxHeartbeats 1000000 in
theorem refnode_any (s : ByteArray) (ia : Option Addr) (nin cin : Nat) (la : Option Addr) (nI cI : Nat) (ra : Option Addr) (nR cR : Nat) (e1 e2 : Int) (w : World)
    (CF : ∀ w', Below w.heap.size w w' → Calls Tryz.prog 33 #[ndV s ia nin cin la nI cI ra nR cR] w' fun e w'' => e = .returned (.int .i64 (e1)) ∧ Below w'.heap.size w' w'')
    (CN : e1 = 0 → ∀ w', Below w.heap.size w w' → Calls Tryz.prog 34 #[ndV s ia nin cin la nI cI ra nR cR] w' fun e w'' => e = .returned (.int .i64 (e2)) ∧ Below w'.heap.size w' w'') :
    Calls Tryz.prog 11 #[ndV s ia nin cin la nI cI ra nR cR] w fun e w' => e = .returned (.int .i64 (stE e1 e2)) ∧ Below w.heap.size w w' := by
  have KF := Lib.hid CF
  clear CF
  unfold stE
  by_cases h1 : e1 = 0
  · rw [if_pos h1]
    have KN := Lib.hid (CN h1)
    subst h1
    clear CN
    go_enter Tryz.func11, Tryz.ntmps11
    go_upto_region 1 with fail
    generalize hW0 : w.alloc (.cells #[.string s, .slice ia nin cin, .slice la nI cI, .slice ra nR cR] 25) = W0
    have A0 : NdAt W0 w.heap.size s ia nin cin la nI cI ra nR cR := by subst hW0; exact NdAt.new _ _ _ _ _ _ _ _ _ _ _
    have b0 : Below w.heap.size w W0 := by subst hW0; exact (by repeat (first | with_reducible exact Below.refl _ _ | with_reducible apply Below.drew | with_reducible refine below_drewN ?_ _ | (with_reducible refine Below.setCell ?_ ?_ _; rotate_left; focus (first | omega | (simp <;> omega))) | (with_reducible refine Below.alloc ?_ ?_ _; rotate_left; focus (first | omega | (simp <;> omega)))))
    have HB0 := Lib.hid b0
    have HA0 := Lib.hid A0
    clear hW0 A0 b0
    obtain ⟨p0, p1, p2, p3⟩ := HA0.out.cells
    have l0 := HA0.out.lt
    go_wp2_with fail
    refine (KF.out W0 HB0.out).mono ?_
    rintro e w1 ⟨rfl, b1⟩
    have HB1 := Lib.hid (HB0.out.trans (b1.mono HB0.out.size))
    have HA1 := Lib.hid (HA0.out.below b1 HA0.out.lt)
    clear b1 p0 p1 p2 p3 l0
    obtain ⟨p0, p1, p2, p3⟩ := HA1.out.cells
    have l0 := HA1.out.lt
    go_wp2_with fail
    refine (KN.out w1 HB1.out).mono ?_
    rintro e w2 ⟨rfl, b2⟩
    have HB2 := Lib.hid (HB1.out.trans (b2.mono HB1.out.size))
    have HA2 := Lib.hid (HA1.out.below b2 HA1.out.lt)
    clear b2 p0 p1 p2 p3 l0
    obtain ⟨p0, p1, p2, p3⟩ := HA2.out.cells
    have l0 := HA2.out.lt
    go_wp2_with fail
    go_ret
    exact ⟨rfl, HB2.out⟩
  · rw [if_neg h1]
    have hb1 : (e1 != 0) = true := by simpa using h1
    clear CN h1
    go_enter Tryz.func11, Tryz.ntmps11
    go_upto_region 1 with fail
    generalize hW0 : w.alloc (.cells #[.string s, .slice ia nin cin, .slice la nI cI, .slice ra nR cR] 25) = W0
    have A0 : NdAt W0 w.heap.size s ia nin cin la nI cI ra nR cR := by subst hW0; exact NdAt.new _ _ _ _ _ _ _ _ _ _ _
    have b0 : Below w.heap.size w W0 := by subst hW0; exact (by repeat (first | with_reducible exact Below.refl _ _ | with_reducible apply Below.drew | with_reducible refine below_drewN ?_ _ | (with_reducible refine Below.setCell ?_ ?_ _; rotate_left; focus (first | omega | (simp <;> omega))) | (with_reducible refine Below.alloc ?_ ?_ _; rotate_left; focus (first | omega | (simp <;> omega)))))
    have HB0 := Lib.hid b0
    have HA0 := Lib.hid A0
    clear hW0 A0 b0
    obtain ⟨p0, p1, p2, p3⟩ := HA0.out.cells
    have l0 := HA0.out.lt
    go_wp2_with fail
    refine (KF.out W0 HB0.out).mono ?_
    rintro e w1 ⟨rfl, b1⟩
    have HB1 := Lib.hid (HB0.out.trans (b1.mono HB0.out.size))
    have HA1 := Lib.hid (HA0.out.below b1 HA0.out.lt)
    clear b1 p0 p1 p2 p3 l0
    obtain ⟨p0, p1, p2, p3⟩ := HA1.out.cells
    have l0 := HA1.out.lt
    go_wp2_with fail
    go_ret
    exact ⟨rfl, HB1.out⟩
set_option maxRecDepth 100000 in
set_option maxHeartbeats 1000000 in
theorem refstep_any (s : ByteArray) (ia : Option Addr) (nin cin : Nat) (la : Option Addr) (nI cI : Nat) (ra : Option Addr) (nR cR : Nat) (e m : Int) (w : World)
    (CF : ∀ w', Below w.heap.size w w' → Calls Tryz.prog 11 #[ndV s ia nin cin la nI cI ra nR cR] w' fun en w'' => en = .returned (.int .i64 e) ∧ Below w'.heap.size w' w'')
    (CM : e = 0 → ∀ w', Below w.heap.size w w' → Calls Tryz.prog 12 #[ndV s ia nin cin la nI cI ra nR cR] w' fun e w'' => e = .returned (.int .i64 (m)) ∧ Below w'.heap.size w' w'') :
    Calls Tryz.prog 6 #[ndV s ia nin cin la nI cI ra nR cR] w fun en w' => en = .returned (.tuple #[.int .i64 (if e = 0 then m else 0), .int .i64 e]) ∧ Below w.heap.size w w' := by
  have KF := Lib.hid CF
  clear CF
  by_cases h1 : e = 0
  · rw [if_pos h1]
    have KN := Lib.hid (CM h1)
    subst h1
    clear CM
    go_enter Tryz.func6, Tryz.ntmps6
    go_upto_region 1 with fail
    generalize hW0 : w.alloc (.cells #[.string s, .slice ia nin cin, .slice la nI cI, .slice ra nR cR] 25) = W0
    have A0 : NdAt W0 w.heap.size s ia nin cin la nI cI ra nR cR := by subst hW0; exact NdAt.new _ _ _ _ _ _ _ _ _ _ _
    have b0 : Below w.heap.size w W0 := by subst hW0; exact (by repeat (first | with_reducible exact Below.refl _ _ | with_reducible apply Below.drew | with_reducible refine below_drewN ?_ _ | (with_reducible refine Below.setCell ?_ ?_ _; rotate_left; focus (first | omega | (simp <;> omega))) | (with_reducible refine Below.alloc ?_ ?_ _; rotate_left; focus (first | omega | (simp <;> omega)))))
    have HB0 := Lib.hid b0
    have HA0 := Lib.hid A0
    clear hW0 A0 b0
    obtain ⟨p0, p1, p2, p3⟩ := HA0.out.cells
    have l0 := HA0.out.lt
    go_wp2_with fail
    refine (KF.out W0 HB0.out).mono ?_
    rintro e w1 ⟨rfl, b1⟩
    have HB1 := Lib.hid (HB0.out.trans (b1.mono HB0.out.size))
    have HA1 := Lib.hid (HA0.out.below b1 HA0.out.lt)
    clear b1 p0 p1 p2 p3 l0
    obtain ⟨p0, p1, p2, p3⟩ := HA1.out.cells
    have l0 := HA1.out.lt
    go_wp2_with fail
    refine (KN.out w1 HB1.out).mono ?_
    rintro e w2 ⟨rfl, b2⟩
    have HB2 := Lib.hid (HB1.out.trans (b2.mono HB1.out.size))
    have HA2 := Lib.hid (HA1.out.below b2 HA1.out.lt)
    clear b2 p0 p1 p2 p3 l0
    obtain ⟨p0, p1, p2, p3⟩ := HA2.out.cells
    have l0 := HA2.out.lt
    go_wp2_with fail
    go_ret2
    exact ⟨rfl, HB2.out⟩
  · rw [if_neg h1]
    have hb1 : (e != 0) = true := by simpa using h1
    clear CM h1
    go_enter Tryz.func6, Tryz.ntmps6
    go_upto_region 1 with fail
    generalize hW0 : w.alloc (.cells #[.string s, .slice ia nin cin, .slice la nI cI, .slice ra nR cR] 25) = W0
    have A0 : NdAt W0 w.heap.size s ia nin cin la nI cI ra nR cR := by subst hW0; exact NdAt.new _ _ _ _ _ _ _ _ _ _ _
    have b0 : Below w.heap.size w W0 := by subst hW0; exact (by repeat (first | with_reducible exact Below.refl _ _ | with_reducible apply Below.drew | with_reducible refine below_drewN ?_ _ | (with_reducible refine Below.setCell ?_ ?_ _; rotate_left; focus (first | omega | (simp <;> omega))) | (with_reducible refine Below.alloc ?_ ?_ _; rotate_left; focus (first | omega | (simp <;> omega)))))
    have HB0 := Lib.hid b0
    have HA0 := Lib.hid A0
    clear hW0 A0 b0
    obtain ⟨p0, p1, p2, p3⟩ := HA0.out.cells
    have l0 := HA0.out.lt
    go_wp2_with fail
    refine (KF.out W0 HB0.out).mono ?_
    rintro en w1 ⟨rfl, b1⟩
    have HB1 := Lib.hid (HB0.out.trans (b1.mono HB0.out.size))
    have HA1 := Lib.hid (HA0.out.below b1 HA0.out.lt)
    clear b1 p0 p1 p2 p3 l0
    obtain ⟨p0, p1, p2, p3⟩ := HA1.out.cells
    have l0 := HA1.out.lt
    go_wp2_with fail
    go_ret2
    exact ⟨rfl, HB1.out⟩
/-- both sides answer alike -/
def StepP (w : World) (v : Value) : Prop := ∃ m c : Int, (∀ w', Below w.heap.size w w' → Calls Tryz.prog 5 #[v] w' fun e w'' => e = .returned (.tuple #[.int .i64 m, .int .i64 c]) ∧ Below w'.heap.size w' w'') ∧
  (∀ w', Below w.heap.size w w' → Calls Tryz.prog 6 #[v] w' fun e w'' => e = .returned (.tuple #[.int .i64 m, .int .i64 c]) ∧ Below w'.heap.size w' w'')
theorem stepP_of (s : ByteArray) (ia : Option Addr) (nin cin : Nat) (la : Option Addr) (nI cI : Nat) (ra : Option Addr) (nR cR : Nat) (e1 e2 m : Int) (w : World)
    (CF : ∀ w', Below w.heap.size w w' → Calls Tryz.prog 8 #[ndV s ia nin cin la nI cI ra nR cR] w' fun e w'' => e = .returned (.int .i64 (e1)) ∧ Below w'.heap.size w' w'')
    (RF : ∀ w', Below w.heap.size w w' → Calls Tryz.prog 33 #[ndV s ia nin cin la nI cI ra nR cR] w' fun e w'' => e = .returned (.int .i64 (e1)) ∧ Below w'.heap.size w' w'')
    (CN : e1 = 0 → ∀ w', Below w.heap.size w w' → Calls Tryz.prog 9 #[ndV s ia nin cin la nI cI ra nR cR] w' fun e w'' => e = .returned (.int .i64 (e2)) ∧ Below w'.heap.size w' w'')
    (RN : e1 = 0 → ∀ w', Below w.heap.size w w' → Calls Tryz.prog 34 #[ndV s ia nin cin la nI cI ra nR cR] w' fun e w'' => e = .returned (.int .i64 (e2)) ∧ Below w'.heap.size w' w'')
    (CM : e1 = 0 → e2 = 0 → ∀ w', Below w.heap.size w w' → Calls Tryz.prog 10 #[ndV s ia nin cin la nI cI ra nR cR] w' fun e w'' => e = .returned (.int .i64 (m)) ∧ Below w'.heap.size w' w'')
    (RM : e1 = 0 → e2 = 0 → ∀ w', Below w.heap.size w w' → Calls Tryz.prog 12 #[ndV s ia nin cin la nI cI ra nR cR] w' fun e w'' => e = .returned (.int .i64 (m)) ∧ Below w'.heap.size w' w'') : StepP w (ndV s ia nin cin la nI cI ra nR cR) := by
  refine ⟨stM e1 e2 m, stE e1 e2, fun w' hb => ?_, fun w' hb => ?_⟩
  · exact step_any s ia nin cin la nI cI ra nR cR e1 e2 m w' (fun w2 h2 => CF w2 (hb.trans (h2.mono hb.size))) (fun h w2 h2 => CN h w2 (hb.trans (h2.mono hb.size))) (fun h k w2 h2 => CM h k w2 (hb.trans (h2.mono hb.size)))
  · have e : stM e1 e2 m = if stE e1 e2 = 0 then m else 0 := by
      unfold stM stE
      by_cases h1 : e1 = 0
      · rw [if_pos h1, if_pos h1]
      · rw [if_neg h1, if_neg h1, if_neg h1]
    rw [e]
    refine refstep_any s ia nin cin la nI cI ra nR cR (stE e1 e2) m w' (fun w2 h2 => ?_) (fun h w2 h2 => ?_)
    · exact refnode_any s ia nin cin la nI cI ra nR cR e1 e2 w2 (fun w3 h3 => RF w3 ((hb.trans (h2.mono hb.size)).trans (h3.mono (hb.trans (h2.mono hb.size)).size))) (fun h w3 h3 => RN h w3 ((hb.trans (h2.mono hb.size)).trans (h3.mono (hb.trans (h2.mono hb.size)).size)))
    · have h12 : e1 = 0 ∧ e2 = 0 := by
        unfold stE at h
        by_cases h1 : e1 = 0
        · rw [if_pos h1] at h; exact ⟨h1, h⟩
        · rw [if_neg h1] at h; exact absurd h h1
      exact RM h12.1 h12.2 w2 (hb.trans (h2.mono hb.size))
end Go.Proofs.YtimhpmccmafnpaaGreat
