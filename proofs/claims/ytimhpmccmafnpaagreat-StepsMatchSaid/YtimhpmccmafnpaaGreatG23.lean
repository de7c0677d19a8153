import Derived.Test.YtimhpmccmafnpaaGreatG22
import Derived.BigQuiet
import Derived.Deep.CutBlock
import Derived.Deep.QuietTactic
import Derived.Deep.DeepCutAuto
namespace Go.Proofs.YtimhpmccmafnpaaGreat
open Go.ChangeShapes Go.WideShapes Go.ChangeAt Go.RowKit
open Ieee.Format (fin finE htE allFin allHt all_true all_false mulF subF addF Ht Bd divF rootF floorF easeF mixF)
set_option linter.unusedVariables false
open Ieee.Format (reachF)

theorem sdE_zero {i c : Int} (h : sdE i c = 0) : c = 0 := by
  unfold sdE at h
  split at h
  · exact h
  · omega
theorem shift_zero {i j : Int} (h : shiftE i j = 0) : (-64 ≤ i ∧ i ≤ 64) ∧ (-64 ≤ j ∧ j ≤ 64) := by
  unfold shiftE wB at h
  split at h
  · rename_i h1
    split at h
    · rename_i h2
      simp at h1 h2
      exact ⟨h1, h2⟩
    · omega
  · omega
theorem len1 {α : Type} {l : List α} (h : l.length = 1) : ∃ a, l = [a] := by
  match l, h with
  | [a], _ => exact ⟨a, rfl⟩
theorem len2 {α : Type} {l : List α} (h : l.length = 2) : ∃ a b, l = [a, b] := by
  match l, h with
  | [a, b], _ => exact ⟨a, b, rfl⟩
theorem len3 {α : Type} {l : List α} (h : l.length = 3) : ∃ a b c, l = [a, b, c] := by
  match l, h with
  | [a, b, c], _ => exact ⟨a, b, c, rfl⟩
theorem len4 {α : Type} {l : List α} (h : l.length = 4) : ∃ a b c d, l = [a, b, c, d] := by
  match l, h with
  | [a, b, c, d], _ => exact ⟨a, b, c, d, rfl⟩
theorem cls_noise (s : ByteArray) (ia : Option Addr) (nin cin b o cI rb ro cR : Nat) (i0 i1 i2 i3 : Int) (r0 : Nat) (w : World) (hz : s.toList = [110, 111, 105, 115, 101]) (hI : ZRow w (some ⟨b, o, none⟩) [i0, i1, i2, i3]) (hR : SRow w (some ⟨rb, ro, none⟩) [r0])
    (CF : ∀ w', Below w.heap.size w w' → Calls Tryz.prog 8 #[ndV s ia nin cin (some ⟨b, o, none⟩) 4 cI (some ⟨rb, ro, none⟩) 1 cR] w' fun e w'' => e = .returned (.int .i64 0) ∧ Below w'.heap.size w' w'')
    (RF : ∀ w', Below w.heap.size w w' → Calls Tryz.prog 33 #[ndV s ia nin cin (some ⟨b, o, none⟩) 4 cI (some ⟨rb, ro, none⟩) 1 cR] w' fun e w'' => e = .returned (.int .i64 0) ∧ Below w'.heap.size w' w'') : StepP w (ndV s ia nin cin (some ⟨b, o, none⟩) 4 cI (some ⟨rb, ro, none⟩) 1 cR) := by
  by_cases hE : htE [r0] = 0
  · exact stepP_of s ia nin cin (some ⟨b, o, none⟩) 4 cI (some ⟨rb, ro, none⟩) 1 cR 0 (sdE i1 (frE i0 i2 i3 r0)) 0 w CF RF (fun _ w' hb => num_noise s ia nin cin b o cI rb ro cR i0 i1 i2 i3 r0 w' hz (hI.below hb) (hR.below hb) hE) (fun _ w' hb => refnum_noise s ia nin cin b o cI rb ro cR i0 i1 i2 i3 r0 w' hz (hI.below hb) (hR.below hb) hE)
      (fun _ hc w' hb => mar_none s ia nin cin 4 cI 1 cR (some ⟨b, o, none⟩) (some ⟨rb, ro, none⟩) w' (by rw [hz]; rfl) (by rw [hz]; rfl) (by rw [hz]; rfl) (by rw [hz]; rfl) (by rw [hz]; rfl) (by rw [hz]; rfl) (by rw [hz]; rfl) (by rw [hz]; rfl) (by rw [hz]; rfl)) (fun _ hc w' hb => refmar_none s ia nin cin 4 cI 1 cR (some ⟨b, o, none⟩) (some ⟨rb, ro, none⟩) w' (by rw [hz]; rfl) (by rw [hz]; rfl) (by rw [hz]; rfl) (by rw [hz]; rfl) (by rw [hz]; rfl) (by rw [hz]; rfl) (by rw [hz]; rfl) (by rw [hz]; rfl) (by rw [hz]; rfl))
  · exact stepP_of s ia nin cin (some ⟨b, o, none⟩) 4 cI (some ⟨rb, ro, none⟩) 1 cR 0 (htE [r0]) 0 w CF RF (fun _ w' hb => num_bad s ia nin cin (some ⟨b, o, none⟩) 4 cI (some ⟨rb, ro, none⟩) cR [r0] w' (hR.below hb) hE) (fun _ w' hb => refnum_bad s ia nin cin (some ⟨b, o, none⟩) 4 cI (some ⟨rb, ro, none⟩) cR [r0] w' (hR.below hb) hE)
      (fun _ hc => absurd hc hE) (fun _ hc => absurd hc hE)
theorem cls_warp (s : ByteArray) (ia : Option Addr) (nin cin b o cI rb ro cR : Nat) (i0 i1 i2 i3 : Int) (r0 r1 : Nat) (w : World) (hz : s.toList = [119, 97, 114, 112]) (hI : ZRow w (some ⟨b, o, none⟩) [i0, i1, i2, i3]) (hR : SRow w (some ⟨rb, ro, none⟩) [r0, r1])
    (CF : ∀ w', Below w.heap.size w w' → Calls Tryz.prog 8 #[ndV s ia nin cin (some ⟨b, o, none⟩) 4 cI (some ⟨rb, ro, none⟩) 2 cR] w' fun e w'' => e = .returned (.int .i64 0) ∧ Below w'.heap.size w' w'')
    (RF : ∀ w', Below w.heap.size w w' → Calls Tryz.prog 33 #[ndV s ia nin cin (some ⟨b, o, none⟩) 4 cI (some ⟨rb, ro, none⟩) 2 cR] w' fun e w'' => e = .returned (.int .i64 0) ∧ Below w'.heap.size w' w'') : StepP w (ndV s ia nin cin (some ⟨b, o, none⟩) 4 cI (some ⟨rb, ro, none⟩) 2 cR) := by
  by_cases hE : htE [r0, r1] = 0
  · exact stepP_of s ia nin cin (some ⟨b, o, none⟩) 4 cI (some ⟨rb, ro, none⟩) 2 cR 0 (sdE i1 (wpE i0 i2 i3 r0 r1)) (margZ (reachF r0 (bndF i0) i3.toNat) r1) w CF RF (fun _ w' hb => num_warp s ia nin cin b o cI rb ro cR i0 i1 i2 i3 r0 r1 w' hz (hI.below hb) (hR.below hb) hE) (fun _ w' hb => refnum_warp s ia nin cin b o cI rb ro cR i0 i1 i2 i3 r0 r1 w' hz (hI.below hb) (hR.below hb) hE)
      (fun _ hc w' hb => mar_warp s ia nin cin b o cI rb ro cR i0 i1 i2 i3 r0 r1 w' hz (hI.below hb) (hR.below hb) (sdE_zero hc)) (fun _ hc w' hb => refmar_warp s ia nin cin b o cI rb ro cR i0 i1 i2 i3 r0 r1 w' hz (hI.below hb) (hR.below hb) (sdE_zero hc))
  · exact stepP_of s ia nin cin (some ⟨b, o, none⟩) 4 cI (some ⟨rb, ro, none⟩) 2 cR 0 (htE [r0, r1]) 0 w CF RF (fun _ w' hb => num_bad s ia nin cin (some ⟨b, o, none⟩) 4 cI (some ⟨rb, ro, none⟩) cR [r0, r1] w' (hR.below hb) hE) (fun _ w' hb => refnum_bad s ia nin cin (some ⟨b, o, none⟩) 4 cI (some ⟨rb, ro, none⟩) cR [r0, r1] w' (hR.below hb) hE)
      (fun _ hc => absurd hc hE) (fun _ hc => absurd hc hE)
theorem cls_stamp (s : ByteArray) (ia : Option Addr) (nin cin b o cI rb ro cR : Nat) (i0 i1 i2 i3 : Int) (r0 : Nat) (w : World) (hz : s.toList = [115, 116, 97, 109, 112]) (hI : ZRow w (some ⟨b, o, none⟩) [i0, i1, i2, i3]) (hR : SRow w (some ⟨rb, ro, none⟩) [r0])
    (CF : ∀ w', Below w.heap.size w w' → Calls Tryz.prog 8 #[ndV s ia nin cin (some ⟨b, o, none⟩) 4 cI (some ⟨rb, ro, none⟩) 1 cR] w' fun e w'' => e = .returned (.int .i64 0) ∧ Below w'.heap.size w' w'')
    (RF : ∀ w', Below w.heap.size w w' → Calls Tryz.prog 33 #[ndV s ia nin cin (some ⟨b, o, none⟩) 4 cI (some ⟨rb, ro, none⟩) 1 cR] w' fun e w'' => e = .returned (.int .i64 0) ∧ Below w'.heap.size w' w'') : StepP w (ndV s ia nin cin (some ⟨b, o, none⟩) 4 cI (some ⟨rb, ro, none⟩) 1 cR) := by
  by_cases hE : htE [r0] = 0
  · exact stepP_of s ia nin cin (some ⟨b, o, none⟩) 4 cI (some ⟨rb, ro, none⟩) 1 cR 0 (brushE i0 i1 i2 i3 r0) 0 w CF RF (fun _ w' hb => num_stamp s ia nin cin b o cI rb ro cR i0 i1 i2 i3 r0 w' hz (hI.below hb) (hR.below hb) hE) (fun _ w' hb => refnum_stamp s ia nin cin b o cI rb ro cR i0 i1 i2 i3 r0 w' hz (hI.below hb) (hR.below hb) hE)
      (fun _ hc w' hb => mar_none s ia nin cin 4 cI 1 cR (some ⟨b, o, none⟩) (some ⟨rb, ro, none⟩) w' (by rw [hz]; rfl) (by rw [hz]; rfl) (by rw [hz]; rfl) (by rw [hz]; rfl) (by rw [hz]; rfl) (by rw [hz]; rfl) (by rw [hz]; rfl) (by rw [hz]; rfl) (by rw [hz]; rfl)) (fun _ hc w' hb => refmar_none s ia nin cin 4 cI 1 cR (some ⟨b, o, none⟩) (some ⟨rb, ro, none⟩) w' (by rw [hz]; rfl) (by rw [hz]; rfl) (by rw [hz]; rfl) (by rw [hz]; rfl) (by rw [hz]; rfl) (by rw [hz]; rfl) (by rw [hz]; rfl) (by rw [hz]; rfl) (by rw [hz]; rfl))
  · exact stepP_of s ia nin cin (some ⟨b, o, none⟩) 4 cI (some ⟨rb, ro, none⟩) 1 cR 0 (htE [r0]) 0 w CF RF (fun _ w' hb => num_bad s ia nin cin (some ⟨b, o, none⟩) 4 cI (some ⟨rb, ro, none⟩) cR [r0] w' (hR.below hb) hE) (fun _ w' hb => refnum_bad s ia nin cin (some ⟨b, o, none⟩) 4 cI (some ⟨rb, ro, none⟩) cR [r0] w' (hR.below hb) hE)
      (fun _ hc => absurd hc hE) (fun _ hc => absurd hc hE)
theorem cls_fault (s : ByteArray) (ia : Option Addr) (nin cin b o cI rb ro cR : Nat) (i0 i1 i2 i3 : Int) (r0 : Nat) (w : World) (hz : s.toList = [102, 97, 117, 108, 116]) (hI : ZRow w (some ⟨b, o, none⟩) [i0, i1, i2, i3]) (hR : SRow w (some ⟨rb, ro, none⟩) [r0])
    (CF : ∀ w', Below w.heap.size w w' → Calls Tryz.prog 8 #[ndV s ia nin cin (some ⟨b, o, none⟩) 4 cI (some ⟨rb, ro, none⟩) 1 cR] w' fun e w'' => e = .returned (.int .i64 0) ∧ Below w'.heap.size w' w'')
    (RF : ∀ w', Below w.heap.size w w' → Calls Tryz.prog 33 #[ndV s ia nin cin (some ⟨b, o, none⟩) 4 cI (some ⟨rb, ro, none⟩) 1 cR] w' fun e w'' => e = .returned (.int .i64 0) ∧ Below w'.heap.size w' w'') : StepP w (ndV s ia nin cin (some ⟨b, o, none⟩) 4 cI (some ⟨rb, ro, none⟩) 1 cR) := by
  by_cases hE : htE [r0] = 0
  · exact stepP_of s ia nin cin (some ⟨b, o, none⟩) 4 cI (some ⟨rb, ro, none⟩) 1 cR 0 (faultE i0 i1 i2 i3 r0) 0 w CF RF (fun _ w' hb => num_fault s ia nin cin b o cI rb ro cR i0 i1 i2 i3 r0 w' hz (hI.below hb) (hR.below hb) hE) (fun _ w' hb => refnum_fault s ia nin cin b o cI rb ro cR i0 i1 i2 i3 r0 w' hz (hI.below hb) (hR.below hb) hE)
      (fun _ hc w' hb => mar_none s ia nin cin 4 cI 1 cR (some ⟨b, o, none⟩) (some ⟨rb, ro, none⟩) w' (by rw [hz]; rfl) (by rw [hz]; rfl) (by rw [hz]; rfl) (by rw [hz]; rfl) (by rw [hz]; rfl) (by rw [hz]; rfl) (by rw [hz]; rfl) (by rw [hz]; rfl) (by rw [hz]; rfl)) (fun _ hc w' hb => refmar_none s ia nin cin 4 cI 1 cR (some ⟨b, o, none⟩) (some ⟨rb, ro, none⟩) w' (by rw [hz]; rfl) (by rw [hz]; rfl) (by rw [hz]; rfl) (by rw [hz]; rfl) (by rw [hz]; rfl) (by rw [hz]; rfl) (by rw [hz]; rfl) (by rw [hz]; rfl) (by rw [hz]; rfl))
  · exact stepP_of s ia nin cin (some ⟨b, o, none⟩) 4 cI (some ⟨rb, ro, none⟩) 1 cR 0 (htE [r0]) 0 w CF RF (fun _ w' hb => num_bad s ia nin cin (some ⟨b, o, none⟩) 4 cI (some ⟨rb, ro, none⟩) cR [r0] w' (hR.below hb) hE) (fun _ w' hb => refnum_bad s ia nin cin (some ⟨b, o, none⟩) 4 cI (some ⟨rb, ro, none⟩) cR [r0] w' (hR.below hb) hE)
      (fun _ hc => absurd hc hE) (fun _ hc => absurd hc hE)
theorem cls_fold (s : ByteArray) (ia : Option Addr) (nin cin b o cI rb ro cR : Nat) (i0 i1 i2 : Int) (r0 : Nat) (w : World) (hz : s.toList = [102, 111, 108, 100]) (hI : ZRow w (some ⟨b, o, none⟩) [i0, i1, i2]) (hR : SRow w (some ⟨rb, ro, none⟩) [r0])
    (CF : ∀ w', Below w.heap.size w w' → Calls Tryz.prog 8 #[ndV s ia nin cin (some ⟨b, o, none⟩) 3 cI (some ⟨rb, ro, none⟩) 1 cR] w' fun e w'' => e = .returned (.int .i64 0) ∧ Below w'.heap.size w' w'')
    (RF : ∀ w', Below w.heap.size w w' → Calls Tryz.prog 33 #[ndV s ia nin cin (some ⟨b, o, none⟩) 3 cI (some ⟨rb, ro, none⟩) 1 cR] w' fun e w'' => e = .returned (.int .i64 0) ∧ Below w'.heap.size w' w'') : StepP w (ndV s ia nin cin (some ⟨b, o, none⟩) 3 cI (some ⟨rb, ro, none⟩) 1 cR) := by
  by_cases hE : htE [r0] = 0
  · exact stepP_of s ia nin cin (some ⟨b, o, none⟩) 3 cI (some ⟨rb, ro, none⟩) 1 cR 0 (foldE i0 i1 i2 r0) 0 w CF RF (fun _ w' hb => num_fold s ia nin cin b o cI rb ro cR i0 i1 i2 r0 w' hz (hI.below hb) (hR.below hb) hE) (fun _ w' hb => refnum_fold s ia nin cin b o cI rb ro cR i0 i1 i2 r0 w' hz (hI.below hb) (hR.below hb) hE)
      (fun _ hc w' hb => mar_none s ia nin cin 3 cI 1 cR (some ⟨b, o, none⟩) (some ⟨rb, ro, none⟩) w' (by rw [hz]; rfl) (by rw [hz]; rfl) (by rw [hz]; rfl) (by rw [hz]; rfl) (by rw [hz]; rfl) (by rw [hz]; rfl) (by rw [hz]; rfl) (by rw [hz]; rfl) (by rw [hz]; rfl)) (fun _ hc w' hb => refmar_none s ia nin cin 3 cI 1 cR (some ⟨b, o, none⟩) (some ⟨rb, ro, none⟩) w' (by rw [hz]; rfl) (by rw [hz]; rfl) (by rw [hz]; rfl) (by rw [hz]; rfl) (by rw [hz]; rfl) (by rw [hz]; rfl) (by rw [hz]; rfl) (by rw [hz]; rfl) (by rw [hz]; rfl))
  · exact stepP_of s ia nin cin (some ⟨b, o, none⟩) 3 cI (some ⟨rb, ro, none⟩) 1 cR 0 (htE [r0]) 0 w CF RF (fun _ w' hb => num_bad s ia nin cin (some ⟨b, o, none⟩) 3 cI (some ⟨rb, ro, none⟩) cR [r0] w' (hR.below hb) hE) (fun _ w' hb => refnum_bad s ia nin cin (some ⟨b, o, none⟩) 3 cI (some ⟨rb, ro, none⟩) cR [r0] w' (hR.below hb) hE)
      (fun _ hc => absurd hc hE) (fun _ hc => absurd hc hE)
theorem cls_thermal (s : ByteArray) (ia : Option Addr) (nin cin b o cI rb ro cR : Nat) (i0 : Int) (r0 r1 : Nat) (w : World) (hz : s.toList = [116, 104, 101, 114, 109, 97, 108]) (hI : ZRow w (some ⟨b, o, none⟩) [i0]) (hR : SRow w (some ⟨rb, ro, none⟩) [r0, r1])
    (CF : ∀ w', Below w.heap.size w w' → Calls Tryz.prog 8 #[ndV s ia nin cin (some ⟨b, o, none⟩) 1 cI (some ⟨rb, ro, none⟩) 2 cR] w' fun e w'' => e = .returned (.int .i64 0) ∧ Below w'.heap.size w' w'')
    (RF : ∀ w', Below w.heap.size w w' → Calls Tryz.prog 33 #[ndV s ia nin cin (some ⟨b, o, none⟩) 1 cI (some ⟨rb, ro, none⟩) 2 cR] w' fun e w'' => e = .returned (.int .i64 0) ∧ Below w'.heap.size w' w'') : StepP w (ndV s ia nin cin (some ⟨b, o, none⟩) 1 cI (some ⟨rb, ro, none⟩) 2 cR) := by
  by_cases hE : htE [r0, r1] = 0
  · exact stepP_of s ia nin cin (some ⟨b, o, none⟩) 1 cI (some ⟨rb, ro, none⟩) 2 cR 0 (wearE r0 r1 i0) i0 w CF RF (fun _ w' hb => num_thermal s ia nin cin b o cI rb ro cR i0 r0 r1 w' hz (hI.below hb) (hR.below hb) hE) (fun _ w' hb => refnum_thermal s ia nin cin b o cI rb ro cR i0 r0 r1 w' hz (hI.below hb) (hR.below hb) hE)
      (fun _ hc w' hb => mar_thermal s ia nin cin b o cI 2 cR (some ⟨rb, ro, none⟩) i0 w' hz (hI.below hb)) (fun _ hc w' hb => refmar_thermal s ia nin cin b o cI 2 cR (some ⟨rb, ro, none⟩) i0 w' hz (hI.below hb))
  · exact stepP_of s ia nin cin (some ⟨b, o, none⟩) 1 cI (some ⟨rb, ro, none⟩) 2 cR 0 (htE [r0, r1]) 0 w CF RF (fun _ w' hb => num_bad s ia nin cin (some ⟨b, o, none⟩) 1 cI (some ⟨rb, ro, none⟩) cR [r0, r1] w' (hR.below hb) hE) (fun _ w' hb => refnum_bad s ia nin cin (some ⟨b, o, none⟩) 1 cI (some ⟨rb, ro, none⟩) cR [r0, r1] w' (hR.below hb) hE)
      (fun _ hc => absurd hc hE) (fun _ hc => absurd hc hE)
theorem cls_shift (s : ByteArray) (ia : Option Addr) (nin cin b o cI cR : Nat) (ra : Option Addr) (i0 i1 : Int) (w : World) (hz : s.toList = [115, 104, 105, 102, 116]) (hI : ZRow w (some ⟨b, o, none⟩) [i0, i1]) (hR : SRow w ra [])
    (CF : ∀ w', Below w.heap.size w w' → Calls Tryz.prog 8 #[ndV s ia nin cin (some ⟨b, o, none⟩) 2 cI ra 0 cR] w' fun e w'' => e = .returned (.int .i64 0) ∧ Below w'.heap.size w' w'')
    (RF : ∀ w', Below w.heap.size w w' → Calls Tryz.prog 33 #[ndV s ia nin cin (some ⟨b, o, none⟩) 2 cI ra 0 cR] w' fun e w'' => e = .returned (.int .i64 0) ∧ Below w'.heap.size w' w'') : StepP w (ndV s ia nin cin (some ⟨b, o, none⟩) 2 cI ra 0 cR) := by
  by_cases hE : htE [] = 0
  · exact stepP_of s ia nin cin (some ⟨b, o, none⟩) 2 cI ra 0 cR 0 (shiftE i0 i1) (mxF i0 (-i0) i1 (-i1)) w CF RF (fun _ w' hb => num_shift s ia nin cin b o cI cR ra i0 i1 w' hz (hI.below hb) (hR.below hb) hE) (fun _ w' hb => refnum_shift s ia nin cin b o cI cR ra i0 i1 w' hz (hI.below hb) (hR.below hb) hE)
      (fun _ hc w' hb => mar_shift s ia nin cin b o cI 0 cR ra i0 i1 w' hz (shift_zero hc).1 (shift_zero hc).2 (hI.below hb)) (fun _ hc w' hb => refmar_shift s ia nin cin b o cI 0 cR ra i0 i1 w' hz (shift_zero hc).1 (shift_zero hc).2 (hI.below hb))
  · exact stepP_of s ia nin cin (some ⟨b, o, none⟩) 2 cI ra 0 cR 0 (htE []) 0 w CF RF (fun _ w' hb => num_bad s ia nin cin (some ⟨b, o, none⟩) 2 cI ra cR [] w' (hR.below hb) hE) (fun _ w' hb => refnum_bad s ia nin cin (some ⟨b, o, none⟩) 2 cI ra cR [] w' (hR.below hb) hE)
      (fun _ hc => absurd hc hE) (fun _ hc => absurd hc hE)
theorem cls_blur (s : ByteArray) (ia : Option Addr) (nin cin b o cI cR : Nat) (ra : Option Addr) (i0 : Int) (w : World) (hz : s.toList = [98, 108, 117, 114]) (hI : ZRow w (some ⟨b, o, none⟩) [i0]) (hR : SRow w ra [])
    (CF : ∀ w', Below w.heap.size w w' → Calls Tryz.prog 8 #[ndV s ia nin cin (some ⟨b, o, none⟩) 1 cI ra 0 cR] w' fun e w'' => e = .returned (.int .i64 0) ∧ Below w'.heap.size w' w'')
    (RF : ∀ w', Below w.heap.size w w' → Calls Tryz.prog 33 #[ndV s ia nin cin (some ⟨b, o, none⟩) 1 cI ra 0 cR] w' fun e w'' => e = .returned (.int .i64 0) ∧ Below w'.heap.size w' w'') : StepP w (ndV s ia nin cin (some ⟨b, o, none⟩) 1 cI ra 0 cR) := by
  by_cases hE : htE [] = 0
  · exact stepP_of s ia nin cin (some ⟨b, o, none⟩) 1 cI ra 0 cR 0 (rngE i0 16) i0 w CF RF (fun _ w' hb => num_blur s ia nin cin b o cI cR ra i0 w' hz (hI.below hb) (hR.below hb) hE) (fun _ w' hb => refnum_blur s ia nin cin b o cI cR ra i0 w' hz (hI.below hb) (hR.below hb) hE)
      (fun _ hc w' hb => mar_blur s ia nin cin b o cI 0 cR ra i0 w' hz (hI.below hb)) (fun _ hc w' hb => refmar_blur s ia nin cin b o cI 0 cR ra i0 w' hz (hI.below hb))
  · exact stepP_of s ia nin cin (some ⟨b, o, none⟩) 1 cI ra 0 cR 0 (htE []) 0 w CF RF (fun _ w' hb => num_bad s ia nin cin (some ⟨b, o, none⟩) 1 cI ra cR [] w' (hR.below hb) hE) (fun _ w' hb => refnum_bad s ia nin cin (some ⟨b, o, none⟩) 1 cI ra cR [] w' (hR.below hb) hE)
      (fun _ hc => absurd hc hE) (fun _ hc => absurd hc hE)
theorem cls_smooth (s : ByteArray) (ia : Option Addr) (nin cin b o cI cR : Nat) (ra : Option Addr) (i0 : Int) (w : World) (hz : s.toList = [115, 109, 111, 111, 116, 104]) (hI : ZRow w (some ⟨b, o, none⟩) [i0]) (hR : SRow w ra [])
    (CF : ∀ w', Below w.heap.size w w' → Calls Tryz.prog 8 #[ndV s ia nin cin (some ⟨b, o, none⟩) 1 cI ra 0 cR] w' fun e w'' => e = .returned (.int .i64 0) ∧ Below w'.heap.size w' w'')
    (RF : ∀ w', Below w.heap.size w w' → Calls Tryz.prog 33 #[ndV s ia nin cin (some ⟨b, o, none⟩) 1 cI ra 0 cR] w' fun e w'' => e = .returned (.int .i64 0) ∧ Below w'.heap.size w' w'') : StepP w (ndV s ia nin cin (some ⟨b, o, none⟩) 1 cI ra 0 cR) := by
  by_cases hE : htE [] = 0
  · exact stepP_of s ia nin cin (some ⟨b, o, none⟩) 1 cI ra 0 cR 0 (rngE i0 64) i0 w CF RF (fun _ w' hb => num_smooth s ia nin cin b o cI cR ra i0 w' hz (hI.below hb) (hR.below hb) hE) (fun _ w' hb => refnum_smooth s ia nin cin b o cI cR ra i0 w' hz (hI.below hb) (hR.below hb) hE)
      (fun _ hc w' hb => mar_smooth s ia nin cin b o cI 0 cR ra i0 w' hz (hI.below hb)) (fun _ hc w' hb => refmar_smooth s ia nin cin b o cI 0 cR ra i0 w' hz (hI.below hb))
  · exact stepP_of s ia nin cin (some ⟨b, o, none⟩) 1 cI ra 0 cR 0 (htE []) 0 w CF RF (fun _ w' hb => num_bad s ia nin cin (some ⟨b, o, none⟩) 1 cI ra cR [] w' (hR.below hb) hE) (fun _ w' hb => refnum_bad s ia nin cin (some ⟨b, o, none⟩) 1 cI ra cR [] w' (hR.below hb) hE)
      (fun _ hc => absurd hc hE) (fun _ hc => absurd hc hE)
theorem cls_speckle (s : ByteArray) (ia : Option Addr) (nin cin b o cI rb ro cR : Nat) (i0 : Int) (r0 : Nat) (w : World) (hz : s.toList = [115, 112, 101, 99, 107, 108, 101]) (hI : ZRow w (some ⟨b, o, none⟩) [i0]) (hR : SRow w (some ⟨rb, ro, none⟩) [r0])
    (CF : ∀ w', Below w.heap.size w w' → Calls Tryz.prog 8 #[ndV s ia nin cin (some ⟨b, o, none⟩) 1 cI (some ⟨rb, ro, none⟩) 1 cR] w' fun e w'' => e = .returned (.int .i64 0) ∧ Below w'.heap.size w' w'')
    (RF : ∀ w', Below w.heap.size w w' → Calls Tryz.prog 33 #[ndV s ia nin cin (some ⟨b, o, none⟩) 1 cI (some ⟨rb, ro, none⟩) 1 cR] w' fun e w'' => e = .returned (.int .i64 0) ∧ Below w'.heap.size w' w'') : StepP w (ndV s ia nin cin (some ⟨b, o, none⟩) 1 cI (some ⟨rb, ro, none⟩) 1 cR) := by
  by_cases hE : htE [r0] = 0
  · exact stepP_of s ia nin cin (some ⟨b, o, none⟩) 1 cI (some ⟨rb, ro, none⟩) 1 cR 0 (sdE i0 (shareE r0)) 0 w CF RF (fun _ w' hb => num_speckle s ia nin cin b o cI rb ro cR i0 r0 w' hz (hI.below hb) (hR.below hb) hE) (fun _ w' hb => refnum_speckle s ia nin cin b o cI rb ro cR i0 r0 w' hz (hI.below hb) (hR.below hb) hE)
      (fun _ hc w' hb => mar_none s ia nin cin 1 cI 1 cR (some ⟨b, o, none⟩) (some ⟨rb, ro, none⟩) w' (by rw [hz]; rfl) (by rw [hz]; rfl) (by rw [hz]; rfl) (by rw [hz]; rfl) (by rw [hz]; rfl) (by rw [hz]; rfl) (by rw [hz]; rfl) (by rw [hz]; rfl) (by rw [hz]; rfl)) (fun _ hc w' hb => refmar_none s ia nin cin 1 cI 1 cR (some ⟨b, o, none⟩) (some ⟨rb, ro, none⟩) w' (by rw [hz]; rfl) (by rw [hz]; rfl) (by rw [hz]; rfl) (by rw [hz]; rfl) (by rw [hz]; rfl) (by rw [hz]; rfl) (by rw [hz]; rfl) (by rw [hz]; rfl) (by rw [hz]; rfl))
  · exact stepP_of s ia nin cin (some ⟨b, o, none⟩) 1 cI (some ⟨rb, ro, none⟩) 1 cR 0 (htE [r0]) 0 w CF RF (fun _ w' hb => num_bad s ia nin cin (some ⟨b, o, none⟩) 1 cI (some ⟨rb, ro, none⟩) cR [r0] w' (hR.below hb) hE) (fun _ w' hb => refnum_bad s ia nin cin (some ⟨b, o, none⟩) 1 cI (some ⟨rb, ro, none⟩) cR [r0] w' (hR.below hb) hE)
      (fun _ hc => absurd hc hE) (fun _ hc => absurd hc hE)
theorem cls_clamp (s : ByteArray) (ia : Option Addr) (nin cin cI rb ro cR : Nat) (la : Option Addr) (r0 r1 : Nat) (w : World) (hz : s.toList = [99, 108, 97, 109, 112]) (hI : ZRow w la []) (hR : SRow w (some ⟨rb, ro, none⟩) [r0, r1])
    (CF : ∀ w', Below w.heap.size w w' → Calls Tryz.prog 8 #[ndV s ia nin cin la 0 cI (some ⟨rb, ro, none⟩) 2 cR] w' fun e w'' => e = .returned (.int .i64 0) ∧ Below w'.heap.size w' w'')
    (RF : ∀ w', Below w.heap.size w w' → Calls Tryz.prog 33 #[ndV s ia nin cin la 0 cI (some ⟨rb, ro, none⟩) 2 cR] w' fun e w'' => e = .returned (.int .i64 0) ∧ Below w'.heap.size w' w'') : StepP w (ndV s ia nin cin la 0 cI (some ⟨rb, ro, none⟩) 2 cR) := by
  by_cases hE : htE [r0, r1] = 0
  · exact stepP_of s ia nin cin la 0 cI (some ⟨rb, ro, none⟩) 2 cR 0 (clampC r0 r1) 0 w CF RF (fun _ w' hb => num_clamp s ia nin cin cI rb ro cR la r0 r1 w' hz (hI.below hb) (hR.below hb) hE) (fun _ w' hb => refnum_clamp s ia nin cin cI rb ro cR la r0 r1 w' hz (hI.below hb) (hR.below hb) hE)
      (fun _ hc w' hb => mar_none s ia nin cin 0 cI 2 cR la (some ⟨rb, ro, none⟩) w' (by rw [hz]; rfl) (by rw [hz]; rfl) (by rw [hz]; rfl) (by rw [hz]; rfl) (by rw [hz]; rfl) (by rw [hz]; rfl) (by rw [hz]; rfl) (by rw [hz]; rfl) (by rw [hz]; rfl)) (fun _ hc w' hb => refmar_none s ia nin cin 0 cI 2 cR la (some ⟨rb, ro, none⟩) w' (by rw [hz]; rfl) (by rw [hz]; rfl) (by rw [hz]; rfl) (by rw [hz]; rfl) (by rw [hz]; rfl) (by rw [hz]; rfl) (by rw [hz]; rfl) (by rw [hz]; rfl) (by rw [hz]; rfl))
  · exact stepP_of s ia nin cin la 0 cI (some ⟨rb, ro, none⟩) 2 cR 0 (htE [r0, r1]) 0 w CF RF (fun _ w' hb => num_bad s ia nin cin la 0 cI (some ⟨rb, ro, none⟩) cR [r0, r1] w' (hR.below hb) hE) (fun _ w' hb => refnum_bad s ia nin cin la 0 cI (some ⟨rb, ro, none⟩) cR [r0, r1] w' (hR.below hb) hE)
      (fun _ hc => absurd hc hE) (fun _ hc => absurd hc hE)
theorem cls_select (s : ByteArray) (ia : Option Addr) (nin cin cI rb ro cR : Nat) (la : Option Addr) (r0 r1 r2 : Nat) (w : World) (hz : s.toList = [115, 101, 108, 101, 99, 116]) (hI : ZRow w la []) (hR : SRow w (some ⟨rb, ro, none⟩) [r0, r1, r2])
    (CF : ∀ w', Below w.heap.size w w' → Calls Tryz.prog 8 #[ndV s ia nin cin la 0 cI (some ⟨rb, ro, none⟩) 3 cR] w' fun e w'' => e = .returned (.int .i64 0) ∧ Below w'.heap.size w' w'')
    (RF : ∀ w', Below w.heap.size w w' → Calls Tryz.prog 33 #[ndV s ia nin cin la 0 cI (some ⟨rb, ro, none⟩) 3 cR] w' fun e w'' => e = .returned (.int .i64 0) ∧ Below w'.heap.size w' w'') : StepP w (ndV s ia nin cin la 0 cI (some ⟨rb, ro, none⟩) 3 cR) := by
  by_cases hE : htE [r0, r1, r2] = 0
  · exact stepP_of s ia nin cin la 0 cI (some ⟨rb, ro, none⟩) 3 cR 0 (selC r0 r1 r2) 0 w CF RF (fun _ w' hb => num_select s ia nin cin cI rb ro cR la r0 r1 r2 w' hz (hI.below hb) (hR.below hb) hE) (fun _ w' hb => refnum_select s ia nin cin cI rb ro cR la r0 r1 r2 w' hz (hI.below hb) (hR.below hb) hE)
      (fun _ hc w' hb => mar_none s ia nin cin 0 cI 3 cR la (some ⟨rb, ro, none⟩) w' (by rw [hz]; rfl) (by rw [hz]; rfl) (by rw [hz]; rfl) (by rw [hz]; rfl) (by rw [hz]; rfl) (by rw [hz]; rfl) (by rw [hz]; rfl) (by rw [hz]; rfl) (by rw [hz]; rfl)) (fun _ hc w' hb => refmar_none s ia nin cin 0 cI 3 cR la (some ⟨rb, ro, none⟩) w' (by rw [hz]; rfl) (by rw [hz]; rfl) (by rw [hz]; rfl) (by rw [hz]; rfl) (by rw [hz]; rfl) (by rw [hz]; rfl) (by rw [hz]; rfl) (by rw [hz]; rfl) (by rw [hz]; rfl))
  · exact stepP_of s ia nin cin la 0 cI (some ⟨rb, ro, none⟩) 3 cR 0 (htE [r0, r1, r2]) 0 w CF RF (fun _ w' hb => num_bad s ia nin cin la 0 cI (some ⟨rb, ro, none⟩) cR [r0, r1, r2] w' (hR.below hb) hE) (fun _ w' hb => refnum_bad s ia nin cin la 0 cI (some ⟨rb, ro, none⟩) cR [r0, r1, r2] w' (hR.below hb) hE)
      (fun _ hc => absurd hc hE) (fun _ hc => absurd hc hE)
theorem cls_terrace (s : ByteArray) (ia : Option Addr) (nin cin cI rb ro cR : Nat) (la : Option Addr) (r0 r1 : Nat) (w : World) (hz : s.toList = [116, 101, 114, 114, 97, 99, 101]) (hI : ZRow w la []) (hR : SRow w (some ⟨rb, ro, none⟩) [r0, r1])
    (CF : ∀ w', Below w.heap.size w w' → Calls Tryz.prog 8 #[ndV s ia nin cin la 0 cI (some ⟨rb, ro, none⟩) 2 cR] w' fun e w'' => e = .returned (.int .i64 0) ∧ Below w'.heap.size w' w'')
    (RF : ∀ w', Below w.heap.size w w' → Calls Tryz.prog 33 #[ndV s ia nin cin la 0 cI (some ⟨rb, ro, none⟩) 2 cR] w' fun e w'' => e = .returned (.int .i64 0) ∧ Below w'.heap.size w' w'') : StepP w (ndV s ia nin cin la 0 cI (some ⟨rb, ro, none⟩) 2 cR) := by
  by_cases hE : htE [r0, r1] = 0
  · exact stepP_of s ia nin cin la 0 cI (some ⟨rb, ro, none⟩) 2 cR 0 (terC r0 r1) 0 w CF RF (fun _ w' hb => num_terrace s ia nin cin cI rb ro cR la r0 r1 w' hz (hI.below hb) (hR.below hb) hE) (fun _ w' hb => refnum_terrace s ia nin cin cI rb ro cR la r0 r1 w' hz (hI.below hb) (hR.below hb) hE)
      (fun _ hc w' hb => mar_none s ia nin cin 0 cI 2 cR la (some ⟨rb, ro, none⟩) w' (by rw [hz]; rfl) (by rw [hz]; rfl) (by rw [hz]; rfl) (by rw [hz]; rfl) (by rw [hz]; rfl) (by rw [hz]; rfl) (by rw [hz]; rfl) (by rw [hz]; rfl) (by rw [hz]; rfl)) (fun _ hc w' hb => refmar_none s ia nin cin 0 cI 2 cR la (some ⟨rb, ro, none⟩) w' (by rw [hz]; rfl) (by rw [hz]; rfl) (by rw [hz]; rfl) (by rw [hz]; rfl) (by rw [hz]; rfl) (by rw [hz]; rfl) (by rw [hz]; rfl) (by rw [hz]; rfl) (by rw [hz]; rfl))
  · exact stepP_of s ia nin cin la 0 cI (some ⟨rb, ro, none⟩) 2 cR 0 (htE [r0, r1]) 0 w CF RF (fun _ w' hb => num_bad s ia nin cin la 0 cI (some ⟨rb, ro, none⟩) cR [r0, r1] w' (hR.below hb) hE) (fun _ w' hb => refnum_bad s ia nin cin la 0 cI (some ⟨rb, ro, none⟩) cR [r0, r1] w' (hR.below hb) hE)
      (fun _ hc => absurd hc hE) (fun _ hc => absurd hc hE)
theorem cls_dither (s : ByteArray) (ia : Option Addr) (nin cin b o cI rb ro cR : Nat) (i0 : Int) (r0 : Nat) (w : World) (hz : s.toList = [100, 105, 116, 104, 101, 114]) (hI : ZRow w (some ⟨b, o, none⟩) [i0]) (hR : SRow w (some ⟨rb, ro, none⟩) [r0])
    (CF : ∀ w', Below w.heap.size w w' → Calls Tryz.prog 8 #[ndV s ia nin cin (some ⟨b, o, none⟩) 1 cI (some ⟨rb, ro, none⟩) 1 cR] w' fun e w'' => e = .returned (.int .i64 0) ∧ Below w'.heap.size w' w'')
    (RF : ∀ w', Below w.heap.size w w' → Calls Tryz.prog 33 #[ndV s ia nin cin (some ⟨b, o, none⟩) 1 cI (some ⟨rb, ro, none⟩) 1 cR] w' fun e w'' => e = .returned (.int .i64 0) ∧ Below w'.heap.size w' w'') : StepP w (ndV s ia nin cin (some ⟨b, o, none⟩) 1 cI (some ⟨rb, ro, none⟩) 1 cR) := by
  by_cases hE : htE [r0] = 0
  · exact stepP_of s ia nin cin (some ⟨b, o, none⟩) 1 cI (some ⟨rb, ro, none⟩) 1 cR 0 (sdE i0 (dithE r0)) 0 w CF RF (fun _ w' hb => num_dither s ia nin cin b o cI rb ro cR i0 r0 w' hz (hI.below hb) (hR.below hb) hE) (fun _ w' hb => refnum_dither s ia nin cin b o cI rb ro cR i0 r0 w' hz (hI.below hb) (hR.below hb) hE)
      (fun _ hc w' hb => mar_none s ia nin cin 1 cI 1 cR (some ⟨b, o, none⟩) (some ⟨rb, ro, none⟩) w' (by rw [hz]; rfl) (by rw [hz]; rfl) (by rw [hz]; rfl) (by rw [hz]; rfl) (by rw [hz]; rfl) (by rw [hz]; rfl) (by rw [hz]; rfl) (by rw [hz]; rfl) (by rw [hz]; rfl)) (fun _ hc w' hb => refmar_none s ia nin cin 1 cI 1 cR (some ⟨b, o, none⟩) (some ⟨rb, ro, none⟩) w' (by rw [hz]; rfl) (by rw [hz]; rfl) (by rw [hz]; rfl) (by rw [hz]; rfl) (by rw [hz]; rfl) (by rw [hz]; rfl) (by rw [hz]; rfl) (by rw [hz]; rfl) (by rw [hz]; rfl))
  · exact stepP_of s ia nin cin (some ⟨b, o, none⟩) 1 cI (some ⟨rb, ro, none⟩) 1 cR 0 (htE [r0]) 0 w CF RF (fun _ w' hb => num_bad s ia nin cin (some ⟨b, o, none⟩) 1 cI (some ⟨rb, ro, none⟩) cR [r0] w' (hR.below hb) hE) (fun _ w' hb => refnum_bad s ia nin cin (some ⟨b, o, none⟩) 1 cI (some ⟨rb, ro, none⟩) cR [r0] w' (hR.below hb) hE)
      (fun _ hc => absurd hc hE) (fun _ hc => absurd hc hE)
theorem cls_shade (s : ByteArray) (ia : Option Addr) (nin cin b o cI cR : Nat) (ra : Option Addr) (i0 i1 i2 : Int) (w : World) (hz : s.toList = [115, 104, 97, 100, 101]) (hI : ZRow w (some ⟨b, o, none⟩) [i0, i1, i2]) (hR : SRow w ra [])
    (CF : ∀ w', Below w.heap.size w w' → Calls Tryz.prog 8 #[ndV s ia nin cin (some ⟨b, o, none⟩) 3 cI ra 0 cR] w' fun e w'' => e = .returned (.int .i64 0) ∧ Below w'.heap.size w' w'')
    (RF : ∀ w', Below w.heap.size w w' → Calls Tryz.prog 33 #[ndV s ia nin cin (some ⟨b, o, none⟩) 3 cI ra 0 cR] w' fun e w'' => e = .returned (.int .i64 0) ∧ Below w'.heap.size w' w'') : StepP w (ndV s ia nin cin (some ⟨b, o, none⟩) 3 cI ra 0 cR) := by
  by_cases hE : htE [] = 0
  · exact stepP_of s ia nin cin (some ⟨b, o, none⟩) 3 cI ra 0 cR 0 (lightE i0 i1 i2) 1 w CF RF (fun _ w' hb => num_shade s ia nin cin b o cI cR ra i0 i1 i2 w' hz (hI.below hb) (hR.below hb) hE) (fun _ w' hb => refnum_shade s ia nin cin b o cI cR ra i0 i1 i2 w' hz (hI.below hb) (hR.below hb) hE)
      (fun _ hc w' hb => mar_shade s ia nin cin 3 cI 0 cR (some ⟨b, o, none⟩) ra w' hz) (fun _ hc w' hb => refmar_shade s ia nin cin 3 cI 0 cR (some ⟨b, o, none⟩) ra w' hz)
  · exact stepP_of s ia nin cin (some ⟨b, o, none⟩) 3 cI ra 0 cR 0 (htE []) 0 w CF RF (fun _ w' hb => num_bad s ia nin cin (some ⟨b, o, none⟩) 3 cI ra cR [] w' (hR.below hb) hE) (fun _ w' hb => refnum_bad s ia nin cin (some ⟨b, o, none⟩) 3 cI ra cR [] w' (hR.below hb) hE)
      (fun _ hc => absurd hc hE) (fun _ hc => absurd hc hE)
theorem cls_plain (s : ByteArray) (ia : Option Addr) (nin cin : Nat) (la : Option Addr) (nI cI : Nat) (ra : Option Addr) (cR : Nat) (l : List Nat) (m : Int) (w : World) (k0 : (s.toList == [110, 111, 105, 115, 101]) = false) (k1 : (s.toList == [119, 97, 114, 112]) = false) (k2 : (s.toList == [115, 112, 101, 99, 107, 108, 101]) = false) (k3 : (s.toList == [100, 105, 116, 104, 101, 114]) = false) (k4 : (s.toList == [115, 116, 97, 109, 112]) = false) (k5 : (s.toList == [102, 97, 117, 108, 116]) = false) (k6 : (s.toList == [102, 111, 108, 100]) = false) (k7 : (s.toList == [116, 104, 101, 114, 109, 97, 108]) = false) (k8 : (s.toList == [115, 104, 105, 102, 116]) = false) (k9 : (s.toList == [98, 108, 117, 114]) = false) (k10 : (s.toList == [115, 109, 111, 111, 116, 104]) = false) (k11 : (s.toList == [99, 108, 97, 109, 112]) = false) (k12 : (s.toList == [115, 101, 108, 101, 99, 116]) = false) (k13 : (s.toList == [116, 101, 114, 114, 97, 99, 101]) = false) (k14 : (s.toList == [115, 104, 97, 100, 101]) = false) (hR : SRow w ra l)
    (CF : ∀ w', Below w.heap.size w w' → Calls Tryz.prog 8 #[ndV s ia nin cin la nI cI ra l.length cR] w' fun e w'' => e = .returned (.int .i64 0) ∧ Below w'.heap.size w' w'')
    (RF : ∀ w', Below w.heap.size w w' → Calls Tryz.prog 33 #[ndV s ia nin cin la nI cI ra l.length cR] w' fun e w'' => e = .returned (.int .i64 0) ∧ Below w'.heap.size w' w'')
    (CM : ∀ w', Below w.heap.size w w' → Calls Tryz.prog 10 #[ndV s ia nin cin la nI cI ra l.length cR] w' fun e w'' => e = .returned (.int .i64 m) ∧ Below w'.heap.size w' w'')
    (RM : ∀ w', Below w.heap.size w w' → Calls Tryz.prog 12 #[ndV s ia nin cin la nI cI ra l.length cR] w' fun e w'' => e = .returned (.int .i64 m) ∧ Below w'.heap.size w' w'') : StepP w (ndV s ia nin cin la nI cI ra l.length cR) := by
  by_cases hE : htE l = 0
  · exact stepP_of s ia nin cin la nI cI ra l.length cR 0 0 m w CF RF (fun _ w' hb => num_plain s ia nin cin la nI cI ra cR l w' k0 k1 k2 k3 k4 k5 k6 k7 k8 k9 k10 k11 k12 k13 k14 (hR.below hb) hE) (fun _ w' hb => refnum_plain s ia nin cin la nI cI ra cR l w' k0 k1 k2 k3 k4 k5 k6 k7 k8 k9 k10 k11 k12 k13 k14 (hR.below hb) hE) (fun _ _ => CM) (fun _ _ => RM)
  · exact stepP_of s ia nin cin la nI cI ra l.length cR 0 (htE l) 0 w CF RF (fun _ w' hb => num_bad s ia nin cin la nI cI ra cR l w' (hR.below hb) hE) (fun _ w' hb => refnum_bad s ia nin cin la nI cI ra cR l w' (hR.below hb) hE)
      (fun _ hc => absurd hc hE) (fun _ hc => absurd hc hE)
set_option maxHeartbeats 2000000 in
theorem steps_all (s : ByteArray) (hs : s.size ≤ maxLen) (ia : Option Addr) (nin cin : Nat) (la : Option Addr) (nI cI : Nat) (ra : Option Addr) (nR cR : Nat) (w : World)
    (hI : nI ≤ 4 → ∃ I : List Int, I.length = nI ∧ ZRow w la I) (hR : nR ≤ 225 → ∃ L : List Nat, L.length = nR ∧ SRow w ra L) : StepP w (ndV s ia nin cin la nI cI ra nR cR) := by
  by_cases hk : s.toList = kwKernel
  · by_cases h1 : nI = 1
    · obtain ⟨I, hl, hI⟩ := hI (by omega)
      subst h1
      obtain ⟨k, rfl⟩ := len1 hl
      obtain ⟨b, o, rfl⟩ := hI.some
      by_cases he : fmE s.toList nin 1 nR k = 0
      · have hz := hk
        have he2 := he
        rw [hk] at he2
        unfold fmE at he2
        obtain ⟨f1, f2, f3, f4⟩ := kern_fm
        rw [f1, f2, f4, if_neg (by decide)] at he2
        by_cases e1 : (nin : Int) ≠ 1
        · rw [if_pos e1] at he2; omega
        · rw [if_neg e1, if_neg (by simp), if_pos (by rfl)] at he2
          cases hS : sideB k with
          | false => rw [hS, if_pos rfl] at he2; omega
          | true =>
            rw [hS, if_neg (by decide)] at he2
            have hq : (nR : Int) = k * k := by
              by_cases hq : (nR : Int) = k * k
              · exact hq
              · rw [if_pos hq] at he2; omega
            unfold sideB at hS
            simp at hS
            have m1 := Int.mul_le_mul hS.1.2 hS.1.2 (by omega) (by omega : (0 : Int) ≤ 15)
            obtain ⟨L, rfl, hR2⟩ := hR (by omega)
            refine cls_plain s ia nin cin (some ⟨b, o, none⟩) 1 cI ra cR L ((k - 1) / 2) w (by rw [hz]; rfl) (by rw [hz]; rfl) (by rw [hz]; rfl) (by rw [hz]; rfl) (by rw [hz]; rfl) (by rw [hz]; rfl) (by rw [hz]; rfl) (by rw [hz]; rfl) (by rw [hz]; rfl) (by rw [hz]; rfl) (by rw [hz]; rfl) (by rw [hz]; rfl) (by rw [hz]; rfl) (by rw [hz]; rfl) (by rw [hz]; rfl) hR2 (fun w' hb => ?_) (fun w' hb => ?_) (fun w' hb => ?_) (fun w' hb => ?_)
            · have := checkform_k1 s hs ia nin cin b o cI ra L.length cR hk k w' (hI.below hb)
              rw [he] at this; exact this
            · have := refcount_k1 s ia nin cin b o cI ra L.length cR hk k w' (hI.below hb)
              rw [he] at this; exact this
            · exact mar_kernel s ia nin cin b o cI L.length cR ra k w' hk hS.1.1 hS.1.2 (hI.below hb)
            · exact refmar_kernel s ia nin cin b o cI L.length cR ra k w' hk hS.1.1 hS.1.2 (hI.below hb)
      · exact stepP_of s ia nin cin (some ⟨b, o, none⟩) 1 cI ra nR cR _ 0 0 w (fun w' hb => checkform_k1 s hs ia nin cin b o cI ra nR cR hk k w' (hI.below hb)) (fun w' hb => refcount_k1 s ia nin cin b o cI ra nR cR hk k w' (hI.below hb))
          (fun h => absurd h he) (fun h => absurd h he) (fun h => absurd h he) (fun h => absurd h he)
    · have he : fmE s.toList nin nI nR 0 ≠ 0 := by
        rw [hk]
        obtain ⟨f1, f2, f3, f4⟩ := kern_fm
        unfold fmE
        rw [f1, f2, f4, if_neg (by decide)]
        by_cases h : (nin : Int) = 1
        · rw [if_neg (by omega), if_pos (by omega)]; decide
        · rw [if_pos h]; decide
      exact stepP_of s ia nin cin la nI cI ra nR cR _ 0 0 w (fun w' hb => checkform_k s hs ia nin cin la nI cI ra nR cR hk h1 0 w') (fun w' hb => refcount_k s ia nin cin la nI cI ra nR cR hk h1 0 w')
        (fun h => absurd h he) (fun h => absurd h he) (fun h => absurd h he) (fun h => absurd h he)
  · have hz0 : (s.toList == kwKernel) = false := by simpa using hk
    have CF : ∀ w', Below w.heap.size w w' → Calls Tryz.prog 8 #[ndV s ia nin cin la nI cI ra nR cR] w' fun e w'' => e = .returned (.int .i64 (fmE s.toList nin nI nR 0)) ∧ Below w'.heap.size w' w'' := fun w' hb => checkform_o s hs ia nin cin la nI cI ra nR cR hz0 w'
    have RF : ∀ w', Below w.heap.size w w' → Calls Tryz.prog 33 #[ndV s ia nin cin la nI cI ra nR cR] w' fun e w'' => e = .returned (.int .i64 (fmE s.toList nin nI nR 0)) ∧ Below w'.heap.size w' w'' := fun w' hb => refcount_o s ia nin cin la nI cI ra nR cR hz0 w'
    by_cases he : fmE s.toList nin nI nR 0 = 0
    · rw [he] at CF RF
      unfold fmE at he
      rcases fmT_all s.toList with ⟨x, hx, hz, e⟩ | ⟨e, _⟩
      · obtain ⟨f1, f2, f3, f4⟩ := fm_of e
        rw [f1, f2, f3, f4, hz0] at he
        have q2 : (nI : Int) = x.2.2.1 ∧ (nR : Int) = x.2.2.2 := by
          rw [if_neg (by decide)] at he
          by_cases g1 : (nin : Int) ≠ x.2.1
          · rw [if_pos g1] at he; omega
          · rw [if_neg g1] at he
            by_cases g2 : (nI : Int) = x.2.2.1
            · rw [if_neg (by simpa using g2), if_neg (by decide)] at he
              by_cases g3 : (nR : Int) = x.2.2.2
              · exact ⟨g2, g3⟩
              · rw [if_pos g3] at he; omega
            · rw [if_pos g2] at he; omega
        clear he e f1 f2 f3 f4
        simp only [tabS, List.mem_cons, List.not_mem_nil, or_false] at hx
        rcases hx with rfl | rfl | rfl | rfl | rfl | rfl | rfl | rfl | rfl | rfl | rfl | rfl | rfl | rfl | rfl | rfl | rfl | rfl | rfl | rfl | rfl | rfl | rfl | rfl | rfl | rfl | rfl | rfl
        · dsimp only at q2 hz
          obtain rfl : nI = 0 := by omega
          obtain rfl : nR = 1 := by omega
          obtain ⟨I, hl, hI⟩ := hI (by omega)
          obtain ⟨L, hl2, hR⟩ := hR (by omega)
          obtain rfl := List.length_eq_zero_iff.1 hl
          obtain ⟨r0, rfl⟩ := len1 hl2
          obtain ⟨rb, ro, rfl⟩ : ∃ rb ro, ra = some (Addr.mk rb ro none) := by
            rcases hR.2 with h | ⟨rb, ro, h, _⟩
            · cases h
            · exact ⟨rb, ro, h⟩
          exact cls_plain s ia nin cin la 0 cI (some ⟨rb, ro, none⟩) cR [r0] 0 w (by rw [hz]; rfl) (by rw [hz]; rfl) (by rw [hz]; rfl) (by rw [hz]; rfl) (by rw [hz]; rfl) (by rw [hz]; rfl) (by rw [hz]; rfl) (by rw [hz]; rfl) (by rw [hz]; rfl) (by rw [hz]; rfl) (by rw [hz]; rfl) (by rw [hz]; rfl) (by rw [hz]; rfl) (by rw [hz]; rfl) (by rw [hz]; rfl) hR CF RF (fun w' hb => mar_none s ia nin cin 0 cI 1 cR la (some ⟨rb, ro, none⟩) w' (by rw [hz]; rfl) (by rw [hz]; rfl) (by rw [hz]; rfl) (by rw [hz]; rfl) (by rw [hz]; rfl) (by rw [hz]; rfl) (by rw [hz]; rfl) (by rw [hz]; rfl) (by rw [hz]; rfl)) (fun w' hb => refmar_none s ia nin cin 0 cI 1 cR la (some ⟨rb, ro, none⟩) w' (by rw [hz]; rfl) (by rw [hz]; rfl) (by rw [hz]; rfl) (by rw [hz]; rfl) (by rw [hz]; rfl) (by rw [hz]; rfl) (by rw [hz]; rfl) (by rw [hz]; rfl) (by rw [hz]; rfl))
        · dsimp only at q2 hz
          obtain rfl : nI = 4 := by omega
          obtain rfl : nR = 1 := by omega
          obtain ⟨I, hl, hI⟩ := hI (by omega)
          obtain ⟨L, hl2, hR⟩ := hR (by omega)
          obtain ⟨i0, i1, i2, i3, rfl⟩ := len4 hl
          obtain ⟨b, o, rfl⟩ := hI.some
          obtain ⟨r0, rfl⟩ := len1 hl2
          obtain ⟨rb, ro, rfl⟩ : ∃ rb ro, ra = some (Addr.mk rb ro none) := by
            rcases hR.2 with h | ⟨rb, ro, h, _⟩
            · cases h
            · exact ⟨rb, ro, h⟩
          exact cls_noise s ia nin cin b o cI rb ro cR i0 i1 i2 i3 r0 w hz hI hR CF RF
        · dsimp only at q2 hz
          obtain rfl : nI = 1 := by omega
          obtain rfl : nR = 1 := by omega
          obtain ⟨I, hl, hI⟩ := hI (by omega)
          obtain ⟨L, hl2, hR⟩ := hR (by omega)
          obtain ⟨i0, rfl⟩ := len1 hl
          obtain ⟨b, o, rfl⟩ := hI.some
          obtain ⟨r0, rfl⟩ := len1 hl2
          obtain ⟨rb, ro, rfl⟩ : ∃ rb ro, ra = some (Addr.mk rb ro none) := by
            rcases hR.2 with h | ⟨rb, ro, h, _⟩
            · cases h
            · exact ⟨rb, ro, h⟩
          exact cls_speckle s ia nin cin b o cI rb ro cR i0 r0 w hz hI hR CF RF
        · dsimp only at q2 hz
          obtain rfl : nI = 0 := by omega
          obtain rfl : nR = 0 := by omega
          obtain ⟨I, hl, hI⟩ := hI (by omega)
          obtain ⟨L, hl2, hR⟩ := hR (by omega)
          obtain rfl := List.length_eq_zero_iff.1 hl
          obtain rfl := List.length_eq_zero_iff.1 hl2
          exact cls_plain s ia nin cin la 0 cI ra cR [] 0 w (by rw [hz]; rfl) (by rw [hz]; rfl) (by rw [hz]; rfl) (by rw [hz]; rfl) (by rw [hz]; rfl) (by rw [hz]; rfl) (by rw [hz]; rfl) (by rw [hz]; rfl) (by rw [hz]; rfl) (by rw [hz]; rfl) (by rw [hz]; rfl) (by rw [hz]; rfl) (by rw [hz]; rfl) (by rw [hz]; rfl) (by rw [hz]; rfl) hR CF RF (fun w' hb => mar_none s ia nin cin 0 cI 0 cR la ra w' (by rw [hz]; rfl) (by rw [hz]; rfl) (by rw [hz]; rfl) (by rw [hz]; rfl) (by rw [hz]; rfl) (by rw [hz]; rfl) (by rw [hz]; rfl) (by rw [hz]; rfl) (by rw [hz]; rfl)) (fun w' hb => refmar_none s ia nin cin 0 cI 0 cR la ra w' (by rw [hz]; rfl) (by rw [hz]; rfl) (by rw [hz]; rfl) (by rw [hz]; rfl) (by rw [hz]; rfl) (by rw [hz]; rfl) (by rw [hz]; rfl) (by rw [hz]; rfl) (by rw [hz]; rfl))
        · dsimp only at q2 hz
          obtain rfl : nI = 0 := by omega
          obtain rfl : nR = 0 := by omega
          obtain ⟨I, hl, hI⟩ := hI (by omega)
          obtain ⟨L, hl2, hR⟩ := hR (by omega)
          obtain rfl := List.length_eq_zero_iff.1 hl
          obtain rfl := List.length_eq_zero_iff.1 hl2
          exact cls_plain s ia nin cin la 0 cI ra cR [] 0 w (by rw [hz]; rfl) (by rw [hz]; rfl) (by rw [hz]; rfl) (by rw [hz]; rfl) (by rw [hz]; rfl) (by rw [hz]; rfl) (by rw [hz]; rfl) (by rw [hz]; rfl) (by rw [hz]; rfl) (by rw [hz]; rfl) (by rw [hz]; rfl) (by rw [hz]; rfl) (by rw [hz]; rfl) (by rw [hz]; rfl) (by rw [hz]; rfl) hR CF RF (fun w' hb => mar_none s ia nin cin 0 cI 0 cR la ra w' (by rw [hz]; rfl) (by rw [hz]; rfl) (by rw [hz]; rfl) (by rw [hz]; rfl) (by rw [hz]; rfl) (by rw [hz]; rfl) (by rw [hz]; rfl) (by rw [hz]; rfl) (by rw [hz]; rfl)) (fun w' hb => refmar_none s ia nin cin 0 cI 0 cR la ra w' (by rw [hz]; rfl) (by rw [hz]; rfl) (by rw [hz]; rfl) (by rw [hz]; rfl) (by rw [hz]; rfl) (by rw [hz]; rfl) (by rw [hz]; rfl) (by rw [hz]; rfl) (by rw [hz]; rfl))
        · dsimp only at q2 hz
          obtain rfl : nI = 0 := by omega
          obtain rfl : nR = 0 := by omega
          obtain ⟨I, hl, hI⟩ := hI (by omega)
          obtain ⟨L, hl2, hR⟩ := hR (by omega)
          obtain rfl := List.length_eq_zero_iff.1 hl
          obtain rfl := List.length_eq_zero_iff.1 hl2
          exact cls_plain s ia nin cin la 0 cI ra cR [] 0 w (by rw [hz]; rfl) (by rw [hz]; rfl) (by rw [hz]; rfl) (by rw [hz]; rfl) (by rw [hz]; rfl) (by rw [hz]; rfl) (by rw [hz]; rfl) (by rw [hz]; rfl) (by rw [hz]; rfl) (by rw [hz]; rfl) (by rw [hz]; rfl) (by rw [hz]; rfl) (by rw [hz]; rfl) (by rw [hz]; rfl) (by rw [hz]; rfl) hR CF RF (fun w' hb => mar_none s ia nin cin 0 cI 0 cR la ra w' (by rw [hz]; rfl) (by rw [hz]; rfl) (by rw [hz]; rfl) (by rw [hz]; rfl) (by rw [hz]; rfl) (by rw [hz]; rfl) (by rw [hz]; rfl) (by rw [hz]; rfl) (by rw [hz]; rfl)) (fun w' hb => refmar_none s ia nin cin 0 cI 0 cR la ra w' (by rw [hz]; rfl) (by rw [hz]; rfl) (by rw [hz]; rfl) (by rw [hz]; rfl) (by rw [hz]; rfl) (by rw [hz]; rfl) (by rw [hz]; rfl) (by rw [hz]; rfl) (by rw [hz]; rfl))
        · dsimp only at q2 hz
          obtain rfl : nI = 0 := by omega
          obtain rfl : nR = 0 := by omega
          obtain ⟨I, hl, hI⟩ := hI (by omega)
          obtain ⟨L, hl2, hR⟩ := hR (by omega)
          obtain rfl := List.length_eq_zero_iff.1 hl
          obtain rfl := List.length_eq_zero_iff.1 hl2
          exact cls_plain s ia nin cin la 0 cI ra cR [] 0 w (by rw [hz]; rfl) (by rw [hz]; rfl) (by rw [hz]; rfl) (by rw [hz]; rfl) (by rw [hz]; rfl) (by rw [hz]; rfl) (by rw [hz]; rfl) (by rw [hz]; rfl) (by rw [hz]; rfl) (by rw [hz]; rfl) (by rw [hz]; rfl) (by rw [hz]; rfl) (by rw [hz]; rfl) (by rw [hz]; rfl) (by rw [hz]; rfl) hR CF RF (fun w' hb => mar_none s ia nin cin 0 cI 0 cR la ra w' (by rw [hz]; rfl) (by rw [hz]; rfl) (by rw [hz]; rfl) (by rw [hz]; rfl) (by rw [hz]; rfl) (by rw [hz]; rfl) (by rw [hz]; rfl) (by rw [hz]; rfl) (by rw [hz]; rfl)) (fun w' hb => refmar_none s ia nin cin 0 cI 0 cR la ra w' (by rw [hz]; rfl) (by rw [hz]; rfl) (by rw [hz]; rfl) (by rw [hz]; rfl) (by rw [hz]; rfl) (by rw [hz]; rfl) (by rw [hz]; rfl) (by rw [hz]; rfl) (by rw [hz]; rfl))
        · dsimp only at q2 hz
          obtain rfl : nI = 0 := by omega
          obtain rfl : nR = 0 := by omega
          obtain ⟨I, hl, hI⟩ := hI (by omega)
          obtain ⟨L, hl2, hR⟩ := hR (by omega)
          obtain rfl := List.length_eq_zero_iff.1 hl
          obtain rfl := List.length_eq_zero_iff.1 hl2
          exact cls_plain s ia nin cin la 0 cI ra cR [] 0 w (by rw [hz]; rfl) (by rw [hz]; rfl) (by rw [hz]; rfl) (by rw [hz]; rfl) (by rw [hz]; rfl) (by rw [hz]; rfl) (by rw [hz]; rfl) (by rw [hz]; rfl) (by rw [hz]; rfl) (by rw [hz]; rfl) (by rw [hz]; rfl) (by rw [hz]; rfl) (by rw [hz]; rfl) (by rw [hz]; rfl) (by rw [hz]; rfl) hR CF RF (fun w' hb => mar_none s ia nin cin 0 cI 0 cR la ra w' (by rw [hz]; rfl) (by rw [hz]; rfl) (by rw [hz]; rfl) (by rw [hz]; rfl) (by rw [hz]; rfl) (by rw [hz]; rfl) (by rw [hz]; rfl) (by rw [hz]; rfl) (by rw [hz]; rfl)) (fun w' hb => refmar_none s ia nin cin 0 cI 0 cR la ra w' (by rw [hz]; rfl) (by rw [hz]; rfl) (by rw [hz]; rfl) (by rw [hz]; rfl) (by rw [hz]; rfl) (by rw [hz]; rfl) (by rw [hz]; rfl) (by rw [hz]; rfl) (by rw [hz]; rfl))
        · dsimp only at q2 hz
          obtain rfl : nI = 0 := by omega
          obtain rfl : nR = 0 := by omega
          obtain ⟨I, hl, hI⟩ := hI (by omega)
          obtain ⟨L, hl2, hR⟩ := hR (by omega)
          obtain rfl := List.length_eq_zero_iff.1 hl
          obtain rfl := List.length_eq_zero_iff.1 hl2
          exact cls_plain s ia nin cin la 0 cI ra cR [] 0 w (by rw [hz]; rfl) (by rw [hz]; rfl) (by rw [hz]; rfl) (by rw [hz]; rfl) (by rw [hz]; rfl) (by rw [hz]; rfl) (by rw [hz]; rfl) (by rw [hz]; rfl) (by rw [hz]; rfl) (by rw [hz]; rfl) (by rw [hz]; rfl) (by rw [hz]; rfl) (by rw [hz]; rfl) (by rw [hz]; rfl) (by rw [hz]; rfl) hR CF RF (fun w' hb => mar_none s ia nin cin 0 cI 0 cR la ra w' (by rw [hz]; rfl) (by rw [hz]; rfl) (by rw [hz]; rfl) (by rw [hz]; rfl) (by rw [hz]; rfl) (by rw [hz]; rfl) (by rw [hz]; rfl) (by rw [hz]; rfl) (by rw [hz]; rfl)) (fun w' hb => refmar_none s ia nin cin 0 cI 0 cR la ra w' (by rw [hz]; rfl) (by rw [hz]; rfl) (by rw [hz]; rfl) (by rw [hz]; rfl) (by rw [hz]; rfl) (by rw [hz]; rfl) (by rw [hz]; rfl) (by rw [hz]; rfl) (by rw [hz]; rfl))
        · dsimp only at q2 hz
          obtain rfl : nI = 0 := by omega
          obtain rfl : nR = 0 := by omega
          obtain ⟨I, hl, hI⟩ := hI (by omega)
          obtain ⟨L, hl2, hR⟩ := hR (by omega)
          obtain rfl := List.length_eq_zero_iff.1 hl
          obtain rfl := List.length_eq_zero_iff.1 hl2
          exact cls_plain s ia nin cin la 0 cI ra cR [] 0 w (by rw [hz]; rfl) (by rw [hz]; rfl) (by rw [hz]; rfl) (by rw [hz]; rfl) (by rw [hz]; rfl) (by rw [hz]; rfl) (by rw [hz]; rfl) (by rw [hz]; rfl) (by rw [hz]; rfl) (by rw [hz]; rfl) (by rw [hz]; rfl) (by rw [hz]; rfl) (by rw [hz]; rfl) (by rw [hz]; rfl) (by rw [hz]; rfl) hR CF RF (fun w' hb => mar_none s ia nin cin 0 cI 0 cR la ra w' (by rw [hz]; rfl) (by rw [hz]; rfl) (by rw [hz]; rfl) (by rw [hz]; rfl) (by rw [hz]; rfl) (by rw [hz]; rfl) (by rw [hz]; rfl) (by rw [hz]; rfl) (by rw [hz]; rfl)) (fun w' hb => refmar_none s ia nin cin 0 cI 0 cR la ra w' (by rw [hz]; rfl) (by rw [hz]; rfl) (by rw [hz]; rfl) (by rw [hz]; rfl) (by rw [hz]; rfl) (by rw [hz]; rfl) (by rw [hz]; rfl) (by rw [hz]; rfl) (by rw [hz]; rfl))
        · dsimp only at q2 hz
          obtain rfl : nI = 0 := by omega
          obtain rfl : nR = 2 := by omega
          obtain ⟨I, hl, hI⟩ := hI (by omega)
          obtain ⟨L, hl2, hR⟩ := hR (by omega)
          obtain rfl := List.length_eq_zero_iff.1 hl
          obtain ⟨r0, r1, rfl⟩ := len2 hl2
          obtain ⟨rb, ro, rfl⟩ : ∃ rb ro, ra = some (Addr.mk rb ro none) := by
            rcases hR.2 with h | ⟨rb, ro, h, _⟩
            · cases h
            · exact ⟨rb, ro, h⟩
          exact cls_plain s ia nin cin la 0 cI (some ⟨rb, ro, none⟩) cR [r0, r1] 0 w (by rw [hz]; rfl) (by rw [hz]; rfl) (by rw [hz]; rfl) (by rw [hz]; rfl) (by rw [hz]; rfl) (by rw [hz]; rfl) (by rw [hz]; rfl) (by rw [hz]; rfl) (by rw [hz]; rfl) (by rw [hz]; rfl) (by rw [hz]; rfl) (by rw [hz]; rfl) (by rw [hz]; rfl) (by rw [hz]; rfl) (by rw [hz]; rfl) hR CF RF (fun w' hb => mar_none s ia nin cin 0 cI 2 cR la (some ⟨rb, ro, none⟩) w' (by rw [hz]; rfl) (by rw [hz]; rfl) (by rw [hz]; rfl) (by rw [hz]; rfl) (by rw [hz]; rfl) (by rw [hz]; rfl) (by rw [hz]; rfl) (by rw [hz]; rfl) (by rw [hz]; rfl)) (fun w' hb => refmar_none s ia nin cin 0 cI 2 cR la (some ⟨rb, ro, none⟩) w' (by rw [hz]; rfl) (by rw [hz]; rfl) (by rw [hz]; rfl) (by rw [hz]; rfl) (by rw [hz]; rfl) (by rw [hz]; rfl) (by rw [hz]; rfl) (by rw [hz]; rfl) (by rw [hz]; rfl))
        · dsimp only at q2 hz
          obtain rfl : nI = 0 := by omega
          obtain rfl : nR = 2 := by omega
          obtain ⟨I, hl, hI⟩ := hI (by omega)
          obtain ⟨L, hl2, hR⟩ := hR (by omega)
          obtain rfl := List.length_eq_zero_iff.1 hl
          obtain ⟨r0, r1, rfl⟩ := len2 hl2
          obtain ⟨rb, ro, rfl⟩ : ∃ rb ro, ra = some (Addr.mk rb ro none) := by
            rcases hR.2 with h | ⟨rb, ro, h, _⟩
            · cases h
            · exact ⟨rb, ro, h⟩
          exact cls_clamp s ia nin cin cI rb ro cR la r0 r1 w hz hI hR CF RF
        · dsimp only at q2 hz
          obtain rfl : nI = 0 := by omega
          obtain rfl : nR = 0 := by omega
          obtain ⟨I, hl, hI⟩ := hI (by omega)
          obtain ⟨L, hl2, hR⟩ := hR (by omega)
          obtain rfl := List.length_eq_zero_iff.1 hl
          obtain rfl := List.length_eq_zero_iff.1 hl2
          exact cls_plain s ia nin cin la 0 cI ra cR [] 0 w (by rw [hz]; rfl) (by rw [hz]; rfl) (by rw [hz]; rfl) (by rw [hz]; rfl) (by rw [hz]; rfl) (by rw [hz]; rfl) (by rw [hz]; rfl) (by rw [hz]; rfl) (by rw [hz]; rfl) (by rw [hz]; rfl) (by rw [hz]; rfl) (by rw [hz]; rfl) (by rw [hz]; rfl) (by rw [hz]; rfl) (by rw [hz]; rfl) hR CF RF (fun w' hb => mar_none s ia nin cin 0 cI 0 cR la ra w' (by rw [hz]; rfl) (by rw [hz]; rfl) (by rw [hz]; rfl) (by rw [hz]; rfl) (by rw [hz]; rfl) (by rw [hz]; rfl) (by rw [hz]; rfl) (by rw [hz]; rfl) (by rw [hz]; rfl)) (fun w' hb => refmar_none s ia nin cin 0 cI 0 cR la ra w' (by rw [hz]; rfl) (by rw [hz]; rfl) (by rw [hz]; rfl) (by rw [hz]; rfl) (by rw [hz]; rfl) (by rw [hz]; rfl) (by rw [hz]; rfl) (by rw [hz]; rfl) (by rw [hz]; rfl))
        · dsimp only at q2 hz
          obtain rfl : nI = 0 := by omega
          obtain rfl : nR = 3 := by omega
          obtain ⟨I, hl, hI⟩ := hI (by omega)
          obtain ⟨L, hl2, hR⟩ := hR (by omega)
          obtain rfl := List.length_eq_zero_iff.1 hl
          obtain ⟨r0, r1, r2, rfl⟩ := len3 hl2
          obtain ⟨rb, ro, rfl⟩ : ∃ rb ro, ra = some (Addr.mk rb ro none) := by
            rcases hR.2 with h | ⟨rb, ro, h, _⟩
            · cases h
            · exact ⟨rb, ro, h⟩
          exact cls_select s ia nin cin cI rb ro cR la r0 r1 r2 w hz hI hR CF RF
        · dsimp only at q2 hz
          obtain rfl : nI = 0 := by omega
          obtain rfl : nR = 2 := by omega
          obtain ⟨I, hl, hI⟩ := hI (by omega)
          obtain ⟨L, hl2, hR⟩ := hR (by omega)
          obtain rfl := List.length_eq_zero_iff.1 hl
          obtain ⟨r0, r1, rfl⟩ := len2 hl2
          obtain ⟨rb, ro, rfl⟩ : ∃ rb ro, ra = some (Addr.mk rb ro none) := by
            rcases hR.2 with h | ⟨rb, ro, h, _⟩
            · cases h
            · exact ⟨rb, ro, h⟩
          exact cls_terrace s ia nin cin cI rb ro cR la r0 r1 w hz hI hR CF RF
        · dsimp only at q2 hz
          obtain rfl : nI = 1 := by omega
          obtain rfl : nR = 1 := by omega
          obtain ⟨I, hl, hI⟩ := hI (by omega)
          obtain ⟨L, hl2, hR⟩ := hR (by omega)
          obtain ⟨i0, rfl⟩ := len1 hl
          obtain ⟨b, o, rfl⟩ := hI.some
          obtain ⟨r0, rfl⟩ := len1 hl2
          obtain ⟨rb, ro, rfl⟩ : ∃ rb ro, ra = some (Addr.mk rb ro none) := by
            rcases hR.2 with h | ⟨rb, ro, h, _⟩
            · cases h
            · exact ⟨rb, ro, h⟩
          exact cls_dither s ia nin cin b o cI rb ro cR i0 r0 w hz hI hR CF RF
        · dsimp only at q2 hz
          obtain rfl : nI = 4 := by omega
          obtain rfl : nR = 1 := by omega
          obtain ⟨I, hl, hI⟩ := hI (by omega)
          obtain ⟨L, hl2, hR⟩ := hR (by omega)
          obtain ⟨i0, i1, i2, i3, rfl⟩ := len4 hl
          obtain ⟨b, o, rfl⟩ := hI.some
          obtain ⟨r0, rfl⟩ := len1 hl2
          obtain ⟨rb, ro, rfl⟩ : ∃ rb ro, ra = some (Addr.mk rb ro none) := by
            rcases hR.2 with h | ⟨rb, ro, h, _⟩
            · cases h
            · exact ⟨rb, ro, h⟩
          exact cls_stamp s ia nin cin b o cI rb ro cR i0 i1 i2 i3 r0 w hz hI hR CF RF
        · dsimp only at q2 hz
          obtain rfl : nI = 4 := by omega
          obtain rfl : nR = 1 := by omega
          obtain ⟨I, hl, hI⟩ := hI (by omega)
          obtain ⟨L, hl2, hR⟩ := hR (by omega)
          obtain ⟨i0, i1, i2, i3, rfl⟩ := len4 hl
          obtain ⟨b, o, rfl⟩ := hI.some
          obtain ⟨r0, rfl⟩ := len1 hl2
          obtain ⟨rb, ro, rfl⟩ : ∃ rb ro, ra = some (Addr.mk rb ro none) := by
            rcases hR.2 with h | ⟨rb, ro, h, _⟩
            · cases h
            · exact ⟨rb, ro, h⟩
          exact cls_fault s ia nin cin b o cI rb ro cR i0 i1 i2 i3 r0 w hz hI hR CF RF
        · dsimp only at q2 hz
          obtain rfl : nI = 3 := by omega
          obtain rfl : nR = 1 := by omega
          obtain ⟨I, hl, hI⟩ := hI (by omega)
          obtain ⟨L, hl2, hR⟩ := hR (by omega)
          obtain ⟨i0, i1, i2, rfl⟩ := len3 hl
          obtain ⟨b, o, rfl⟩ := hI.some
          obtain ⟨r0, rfl⟩ := len1 hl2
          obtain ⟨rb, ro, rfl⟩ : ∃ rb ro, ra = some (Addr.mk rb ro none) := by
            rcases hR.2 with h | ⟨rb, ro, h, _⟩
            · cases h
            · exact ⟨rb, ro, h⟩
          exact cls_fold s ia nin cin b o cI rb ro cR i0 i1 i2 r0 w hz hI hR CF RF
        · dsimp only at q2 hz
          obtain rfl : nI = 2 := by omega
          obtain rfl : nR = 0 := by omega
          obtain ⟨I, hl, hI⟩ := hI (by omega)
          obtain ⟨L, hl2, hR⟩ := hR (by omega)
          obtain ⟨i0, i1, rfl⟩ := len2 hl
          obtain ⟨b, o, rfl⟩ := hI.some
          obtain rfl := List.length_eq_zero_iff.1 hl2
          exact cls_shift s ia nin cin b o cI cR ra i0 i1 w hz hI hR CF RF
        · dsimp only at q2 hz
          obtain rfl : nI = 1 := by omega
          obtain rfl : nR = 0 := by omega
          obtain ⟨I, hl, hI⟩ := hI (by omega)
          obtain ⟨L, hl2, hR⟩ := hR (by omega)
          obtain ⟨i0, rfl⟩ := len1 hl
          obtain ⟨b, o, rfl⟩ := hI.some
          obtain rfl := List.length_eq_zero_iff.1 hl2
          exact cls_blur s ia nin cin b o cI cR ra i0 w hz hI hR CF RF
        · exact absurd hz hk
        · dsimp only at q2 hz
          obtain rfl : nI = 0 := by omega
          obtain rfl : nR = 0 := by omega
          obtain ⟨I, hl, hI⟩ := hI (by omega)
          obtain ⟨L, hl2, hR⟩ := hR (by omega)
          obtain rfl := List.length_eq_zero_iff.1 hl
          obtain rfl := List.length_eq_zero_iff.1 hl2
          exact cls_plain s ia nin cin la 0 cI ra cR [] 1 w (by rw [hz]; rfl) (by rw [hz]; rfl) (by rw [hz]; rfl) (by rw [hz]; rfl) (by rw [hz]; rfl) (by rw [hz]; rfl) (by rw [hz]; rfl) (by rw [hz]; rfl) (by rw [hz]; rfl) (by rw [hz]; rfl) (by rw [hz]; rfl) (by rw [hz]; rfl) (by rw [hz]; rfl) (by rw [hz]; rfl) (by rw [hz]; rfl) hR CF RF (fun w' hb => mar_slope s ia nin cin 0 cI 0 cR la ra w' hz) (fun w' hb => refmar_slope s ia nin cin 0 cI 0 cR la ra w' hz)
        · dsimp only at q2 hz
          obtain rfl : nI = 0 := by omega
          obtain rfl : nR = 0 := by omega
          obtain ⟨I, hl, hI⟩ := hI (by omega)
          obtain ⟨L, hl2, hR⟩ := hR (by omega)
          obtain rfl := List.length_eq_zero_iff.1 hl
          obtain rfl := List.length_eq_zero_iff.1 hl2
          exact cls_plain s ia nin cin la 0 cI ra cR [] 1 w (by rw [hz]; rfl) (by rw [hz]; rfl) (by rw [hz]; rfl) (by rw [hz]; rfl) (by rw [hz]; rfl) (by rw [hz]; rfl) (by rw [hz]; rfl) (by rw [hz]; rfl) (by rw [hz]; rfl) (by rw [hz]; rfl) (by rw [hz]; rfl) (by rw [hz]; rfl) (by rw [hz]; rfl) (by rw [hz]; rfl) (by rw [hz]; rfl) hR CF RF (fun w' hb => mar_curve s ia nin cin 0 cI 0 cR la ra w' hz) (fun w' hb => refmar_curve s ia nin cin 0 cI 0 cR la ra w' hz)
        · dsimp only at q2 hz
          obtain rfl : nI = 3 := by omega
          obtain rfl : nR = 0 := by omega
          obtain ⟨I, hl, hI⟩ := hI (by omega)
          obtain ⟨L, hl2, hR⟩ := hR (by omega)
          obtain ⟨i0, i1, i2, rfl⟩ := len3 hl
          obtain ⟨b, o, rfl⟩ := hI.some
          obtain rfl := List.length_eq_zero_iff.1 hl2
          exact cls_shade s ia nin cin b o cI cR ra i0 i1 i2 w hz hI hR CF RF
        · dsimp only at q2 hz
          obtain rfl : nI = 1 := by omega
          obtain rfl : nR = 2 := by omega
          obtain ⟨I, hl, hI⟩ := hI (by omega)
          obtain ⟨L, hl2, hR⟩ := hR (by omega)
          obtain ⟨i0, rfl⟩ := len1 hl
          obtain ⟨b, o, rfl⟩ := hI.some
          obtain ⟨r0, r1, rfl⟩ := len2 hl2
          obtain ⟨rb, ro, rfl⟩ : ∃ rb ro, ra = some (Addr.mk rb ro none) := by
            rcases hR.2 with h | ⟨rb, ro, h, _⟩
            · cases h
            · exact ⟨rb, ro, h⟩
          exact cls_thermal s ia nin cin b o cI rb ro cR i0 r0 r1 w hz hI hR CF RF
        · dsimp only at q2 hz
          obtain rfl : nI = 1 := by omega
          obtain rfl : nR = 0 := by omega
          obtain ⟨I, hl, hI⟩ := hI (by omega)
          obtain ⟨L, hl2, hR⟩ := hR (by omega)
          obtain ⟨i0, rfl⟩ := len1 hl
          obtain ⟨b, o, rfl⟩ := hI.some
          obtain rfl := List.length_eq_zero_iff.1 hl2
          exact cls_smooth s ia nin cin b o cI cR ra i0 w hz hI hR CF RF
        · dsimp only at q2 hz
          obtain rfl : nI = 4 := by omega
          obtain rfl : nR = 2 := by omega
          obtain ⟨I, hl, hI⟩ := hI (by omega)
          obtain ⟨L, hl2, hR⟩ := hR (by omega)
          obtain ⟨i0, i1, i2, i3, rfl⟩ := len4 hl
          obtain ⟨b, o, rfl⟩ := hI.some
          obtain ⟨r0, r1, rfl⟩ := len2 hl2
          obtain ⟨rb, ro, rfl⟩ : ∃ rb ro, ra = some (Addr.mk rb ro none) := by
            rcases hR.2 with h | ⟨rb, ro, h, _⟩
            · cases h
            · exact ⟨rb, ro, h⟩
          exact cls_warp s ia nin cin b o cI rb ro cR i0 i1 i2 i3 r0 r1 w hz hI hR CF RF
      · obtain ⟨f1, f2, f3, f4⟩ := fm_none e
        rw [f4, if_pos rfl] at he
        omega
    · exact stepP_of s ia nin cin la nI cI ra nR cR _ 0 0 w CF RF (fun h => absurd h he) (fun h => absurd h he) (fun h => absurd h he) (fun h => absurd h he)

set_option maxRecDepth 100000 in
set_option maxHeartbeats 1000000 in
theorem steps_law (s : ByteArray) (ia : Option Addr) (nin cin : Nat) (la : Option Addr) (nI cI : Nat) (ra : Option Addr) (nR cR : Nat) (w : World) (hP : StepP w (ndV s ia nin cin la nI cI ra nR cR)) :
    Calls Tryz.prog 3 #[ndV s ia nin cin la nI cI ra nR cR] w fun e w' => e = .returned (.bool true) ∧ Below w.heap.size w w' := by
  obtain ⟨m, c, KS, KR⟩ := hP
  have KS := Lib.hid KS
  have KR := Lib.hid KR
  go_enter Tryz.func3, Tryz.ntmps3
  go_upto_region 1 with fail
  generalize hW0 : w.alloc (.cells #[.string s, .slice ia nin cin, .slice la nI cI, .slice ra nR cR] 25) = W0
  have A0 : NdAt W0 w.heap.size s ia nin cin la nI cI ra nR cR := by subst hW0; exact NdAt.new _ _ _ _ _ _ _ _ _ _ _
  have b0 : Below w.heap.size w W0 := by subst hW0; exact (by repeat (first | with_reducible exact Below.refl _ _ | with_reducible apply Below.drew | with_reducible refine below_drewN ?_ _ | (with_reducible refine Below.setCell ?_ ?_ _; rotate_left; focus (first | omega | (simp <;> omega))) | (with_reducible refine Below.alloc ?_ ?_ _; rotate_left; focus (first | omega | (simp <;> omega)))))
  have HB0 := Lib.hid b0
  have HA0 := Lib.hid A0
  clear hW0 A0 b0
  go_wp2_with fail
  refine (landed_bel _).mono ?_
  rintro e w1 ⟨rfl, b1⟩
  have HB1 := Lib.hid (HB0.out.trans (b1.mono HB0.out.size))
  have HA1 := Lib.hid (HA0.out.below b1 HA0.out.lt)
  clear b1
  obtain ⟨p0, p1, p2, p3⟩ := HA1.out.cells
  have l0 := HA1.out.lt
  go_wp2_with fail
  refine (KS.out w1 HB1.out).mono ?_
  rintro e w2 ⟨rfl, b2⟩
  have HB2 := Lib.hid (HB1.out.trans (b2.mono HB1.out.size))
  have HA2 := Lib.hid (HA1.out.below b2 HA1.out.lt)
  clear b2 p0 p1 p2 p3 l0
  obtain ⟨p0, p1, p2, p3⟩ := HA2.out.cells
  have l0 := HA2.out.lt
  go_wp2_with fail
  refine (KR.out w2 HB2.out).mono ?_
  rintro e w3 ⟨rfl, b3⟩
  have HB3 := Lib.hid (HB2.out.trans (b3.mono HB2.out.size))
  clear b3
  go_wp2_with fail
  go_ret
  exact ⟨rfl, HB3.out⟩
end Go.Proofs.YtimhpmccmafnpaaGreat
