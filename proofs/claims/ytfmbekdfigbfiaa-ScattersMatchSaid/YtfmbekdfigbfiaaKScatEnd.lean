import Derived.Test.YtfmbekdfigbfiaaKScatGood
import Derived.Test.YtfmbekdfigbfiaaKAgg5
namespace Go.Proofs.Ytfmbekdfigbfiaa
open Go.ChangeShapes Go.WideShapes Go.ChangeAt Go.RowKit
open Ieee.Format (fin finE htE allFin allHt all_true all_false mulF subF addF Ht Bd divF rootF floorF easeF mixF)
set_option linter.unusedVariables false
open Wide

theorem scatters_law (seed c : Int) (sh : Nat) (ap X Y A B T0 T1 T2 T3 : Int) (w : World) (hs : sh < 4294967296) :
    Calls Try.prog 7 #[scV seed c sh ap, reg X Y A B, reg T0 T1 T2 T3] w fun e w' => e = .returned (.bool true) ∧ Below w.heap.size w w' := by
  obtain ⟨p, hp, eA⟩ := and31 A
  obtain ⟨q, hq, eB⟩ := and31 B
  obtain ⟨u, hu, eU⟩ := and15s T2
  obtain ⟨v, hv, eV⟩ := and15s T3
  have cp : 1 + (p : Int) = ((1 + p : Nat) : Int) := by omega
  have cq : 1 + (q : Int) = ((1 + q : Nat) : Int) := by omega
  have cu : 1 + (u : Int) = ((1 + u : Nat) : Int) := by omega
  have cv : 1 + (v : Int) = ((1 + v : Nat) : Int) := by omega
  have KC1 : Hid (∀ w, Calls Try.prog 45 #[scV seed c sh ap] w fun e w' => e = .returned (.int .i64 (scE c sh ap)) ∧ Below w.heap.size w w') := Lib.hid (fun w => chksc_any seed c sh ap hs w)
  have KC2 : Hid (∀ w, Calls Try.prog 44 #[scV seed c sh ap] w fun e w' => e = .returned (.int .i64 (scE c sh ap)) ∧ Below w.heap.size w w') := Lib.hid (fun w => refchksc_any seed c sh ap hs w)
  by_cases h0 : scE c sh ap = 0
  · obtain ⟨c1, c2, a0, a2, _⟩ := scE_zero h0
    rw [h0] at KC1 KC2
    by_cases hc : chk X Y (1 + p : Nat) (1 + q : Nat) = 0
    · obtain ⟨z1, z2, z3, z4, z5, z6, z7, z8, _⟩ := chk_zero hc
      refine scat_good seed c sh ap X Y A B T0 T1 T2 T3 p q u v hp hq hu hv eA eB eU eV w a0 (by omega) (by omega) (by omega) (by omega) (by omega) (srt (scL seed c sh ap X Y (1 + p) (1 + q))) (scL_len c1 c2 hc (by omega) (by omega)) (fun d hd => ?_) (scL_apart h0) KC1 KC2 ?_ ?_ ?_ ?_
      · have := scL_in hd
        omega
      · rw [cp, cq]; exact fun w => scatter_ok seed c sh ap X Y (1 + p) (1 + q) hs h0 hc (by omega) (by omega) w
      · rw [cp, cq]; exact fun w => refscatter_ok seed c sh ap X Y (1 + p) (1 + q) hs h0 hc (by omega) (by omega) w
      · rw [cp, cq]; exact fun w => by have := check2 X Y (1 + p : Nat) (1 + q : Nat) w; rw [hc] at this; exact this
      · rw [cp, cq, cu, cv]
        intro hok
        obtain ⟨x, y, p2, q2, hR, hc2, hp2, hq2, s1, s2, s3, s4⟩ := cm_sub hc (by omega) (by omega) hok
        obtain ⟨u1, u2, u3, u4, u5, u6, u7, u8, _⟩ := chk_zero hc2
        exact ⟨x, y, p2, q2, srt (scL seed c sh ap x y p2 q2), hR, by omega, hp2, by omega, hq2, by omega, by omega, by omega, by omega, scL_len c1 c2 hc2 hp2 hq2, scL_sub h0 hc hc2 (by omega) (by omega) hp2 hq2 s1 s2 s3 s4, fun w => scatter_ok seed c sh ap x y p2 q2 hs h0 hc2 hp2 hq2 w⟩
    · refine scat_bad2 seed c sh ap X Y A B T0 T1 T2 T3 p q hp hq eA eB (chk X Y (1 + p : Nat) (1 + q : Nat)) (by simpa using hc) (by simpa using hc) w KC1 KC2 ?_ ?_
      · rw [cp, cq]; exact fun w => scatter_bad2 seed c sh ap X Y (1 + p : Nat) (1 + q : Nat) hs h0 hc w
      · rw [cp, cq]; exact fun w => check2 X Y (1 + p : Nat) (1 + q : Nat) w
  · exact scat_bad1 seed c sh ap X Y A B T0 T1 T2 T3 p q hp hq eA eB (scE c sh ap) (by simpa using h0) (by simpa using h0) w KC1 KC2 (Lib.hid (fun w => scatter_bad1 seed c sh ap X Y (1 + (p : Int)) (1 + (q : Int)) hs h0 w))
end Go.Proofs.Ytfmbekdfigbfiaa
