import Derived.Test.YtimhpmccmafnpaaGreatG23
import Derived.Lib.SmallJoins
import Derived.OpenShut
import Derived.WalkLawsBesides
import Derived.Deep.Slices
import Derived.Deep.Fields
import Derived.ChangeSame
namespace Go.Proofs.YtimhpmccmafnpaaGreat
open Go.ChangeShapes Go.WideShapes Go.ChangeAt Go.RowKit
open Ieee.Format (fin finE htE allFin allHt all_true all_false mulF subF addF Ht Bd divF rootF floorF easeF mixF)
set_option linter.unusedVariables false
open Go.Joins Go.Deep

theorem cellsNode : Tryz.prog.cellsOf 25 = 4 := by kernel_rfl
theorem single_of {H : Type} {enc : TypeId × Value → H} {W : World} {fuel : Nat} {v : Value} {y : DataW H × List MemPlace}
    (h : DataW.trod enc Tryz.prog W 0 (fun _ => true) true fuel 46 [v] = some y) : ∃ b, v = .float .f32 b ∧ b < 4294967296 := by
  cases fuel with
  | zero => simp [DataW.trod] at h
  | succ n =>
    simp only [DataW.trod, Tryz.underlying46] at h
    cases v with
    | float k b =>
      by_cases hk : k = .f32 ∧ (Lit.float .f32 b).wf = true
      · obtain ⟨rfl, hw⟩ := hk
        refine ⟨b, rfl, ?_⟩
        unfold Lit.wf at hw
        have := of_decide_eq_true hw
        simpa using this
      · simp [hk] at h
    | _ => simp at h
theorem singles_of {H : Type} {enc : TypeId × Value → H} {W : World} {fuel : Nat} {v : Value} {y : DataW H × List MemPlace}
    (h : DataW.trod enc Tryz.prog W 0 (fun _ => true) true fuel 23 [v] = some y) : ∃ a n cap, v = .slice a n cap ∧ (n ≤ 225 → ∃ L : List Nat, L.length = n ∧ SRow W a L) := by
  rcases Go.Deep.open_slice1 Tryz.underlying23 (by kernel_rfl) h with ⟨hcs, _⟩ | ⟨a, len, cap, m, n, V, D, Pl, hcs, _, hl, hm, hmm, hx, hc⟩
  · simp at hcs
    subst hcs
    exact ⟨none, 0, 0, rfl, fun _ => ⟨[], rfl, ⟨by simp, by simp⟩, .inl rfl⟩⟩
  · simp at hcs
    subst hcs
    obtain rfl : m = cap := by simpa using hmm
    have hf : ∀ i, i < m → ∃ b, V i = .float .f32 b ∧ b < 4294967296 := fun i hi => single_of (hc i hi).2
    let g : Nat → Nat := fun i => match V i with | .float _ b => b | _ => 0
    have hg : ∀ i, i < m → V i = .float .f32 (g i) ∧ g i < 4294967296 := by
      intro i hi
      obtain ⟨b, hb, hlt⟩ := hf i hi
      refine ⟨?_, ?_⟩ <;> (show _) <;> simp only [g, hb] <;> first | rfl | exact hlt
    have hlen : ((List.range len).map g).length = len := by simp
    refine ⟨some a, len, m, rfl, fun h225 => ⟨(List.range len).map g, hlen, ⟨by rw [hlen]; omega, ?_⟩, ?_⟩⟩
    · intro x hx
      obtain ⟨i, hi, rfl⟩ := List.mem_map.1 hx
      exact (hg i (by have := List.mem_range.1 hi; omega)).2
    · by_cases h0 : len = 0
      · subst h0; exact .inl rfl
      · right
        obtain ⟨b, off, spot⟩ := a
        have hspot : spot = none := by simpa [Addr.add] using World.cell?_spot (hc 0 (by omega)).1
        subst hspot
        refine ⟨b, off, rfl, fun i hi => ?_⟩
        rw [hlen] at hi
        have h1 := (hc i (by omega)).1
        rw [Go.WideShapes.add_plain, (hg i (by omega)).1] at h1
        rw [h1]
        simp [List.getD_eq_getElem?_getD, List.getElem?_map, List.getElem?_range hi]
theorem ints_of {H : Type} {enc : TypeId × Value → H} {W : World} {fuel : Nat} {v : Value} {y : DataW H × List MemPlace}
    (h : DataW.trod enc Tryz.prog W 0 (fun _ => true) true fuel 22 [v] = some y) : ∃ a n cap, v = .slice a n cap ∧ (n ≤ 4 → ∃ I : List Int, I.length = n ∧ ZRow W a I) := by
  rcases Go.Deep.open_slice1 Tryz.underlying22 (by kernel_rfl) h with ⟨hcs, _⟩ | ⟨a, len, cap, m, n, V, D, Pl, hcs, _, hl, hm, hmm, hx, hc⟩
  · simp at hcs
    subst hcs
    exact ⟨none, 0, 0, rfl, fun _ => ⟨[], rfl, by simp, .inl rfl⟩⟩
  · simp at hcs
    subst hcs
    obtain rfl : m = cap := by simpa using hmm
    have hf : ∀ i, i < m → ∃ b, V i = .int .i64 b := fun i hi => by
      obtain ⟨b, hb, _⟩ := DataW.trod_int Tryz.underlying3 (hc i hi).2
      exact ⟨b, by simpa using hb⟩
    let g : Nat → Int := fun i => match V i with | .int _ b => b | _ => 0
    have hg : ∀ i, i < m → V i = .int .i64 (g i) := by
      intro i hi
      obtain ⟨b, hb⟩ := hf i hi
      show V i = _
      simp only [g, hb]
    have hlen : ((List.range len).map g).length = len := by simp
    refine ⟨some a, len, m, rfl, fun h4 => ⟨(List.range len).map g, hlen, by rw [hlen]; omega, ?_⟩⟩
    by_cases h0 : len = 0
    · subst h0; exact .inl rfl
    · right
      obtain ⟨b, off, spot⟩ := a
      have hspot : spot = none := by simpa [Addr.add] using World.cell?_spot (hc 0 (by omega)).1
      subst hspot
      refine ⟨b, off, rfl, fun i hi => ?_⟩
      rw [hlen] at hi
      have h1 := (hc i (by omega)).1
      rw [Go.WideShapes.add_plain, hg i (by omega)] at h1
      rw [h1]
      simp [List.getD_eq_getElem?_getD, List.getElem?_map, List.getElem?_range hi]
theorem slice_of {H : Type} {enc : TypeId × Value → H} {W : World} {fuel : Nat} {v : Value} {y : DataW H × List MemPlace}
    (h : DataW.trod enc Tryz.prog W 0 (fun _ => true) true fuel 22 [v] = some y) : ∃ a n cap, v = .slice a n cap := by
  obtain ⟨a, n, cap, e, _⟩ := ints_of h
  exact ⟨a, n, cap, e⟩
set_option maxRecDepth 100000 in
/-- a node that came in -/
theorem open_node {H : Type} {enc : TypeId × Value → H} {W : World} {r : Reach} {b0 : Nat} {v : Value} {d : DataW H} {p : List MemPlace}
    (hv : Value.okWide Tryz.prog W r b0 25 v) (h : DataW.Trod enc Tryz.prog W 0 (fun _ => true) true 25 v d p) :
    ∃ (s : ByteArray) (ia : Option Addr) (nin cin : Nat) (la : Option Addr) (nI cI : Nat) (ra : Option Addr) (nR cR : Nat), v = ndV s ia nin cin la nI cI ra nR cR ∧ s.size ≤ maxLen ∧
      (nI ≤ 4 → ∃ I : List Int, I.length = nI ∧ ZRow W la I) ∧ (nR ≤ 225 → ∃ L : List Nat, L.length = nR ∧ SRow W ra L) := by
  obtain ⟨c0, c1, c2, c3, y0, y1, y2, y3, m, rfl, _, _, h0, h1, h2, h3⟩ := Joins.open_agg4 Tryz.underlying25 (by kernel_rfl) cellsNode hv h
  obtain ⟨s, e0, _, hs⟩ := DataW.trod_string Tryz.underlying9 h0
  obtain ⟨ia, nin, cin, rfl⟩ := slice_of h1
  obtain ⟨la, nI, cI, rfl, hI⟩ := ints_of h2
  obtain ⟨ra, nR, cR, rfl, hR⟩ := singles_of h3
  simp at e0
  subst e0
  exact ⟨s, ia, nin, cin, la, nI, cI, ra, nR, cR, rfl, hs, hI, hR⟩
theorem steps_whole (s : ByteArray) (ia : Option Addr) (nin cin : Nat) (la : Option Addr) (nI cI : Nat) (ra : Option Addr) (nR cR : Nat) (w : World) (hs : s.size ≤ maxLen)
    (hI : nI ≤ 4 → ∃ I : List Int, I.length = nI ∧ ZRow w la I) (hR : nR ≤ 225 → ∃ L : List Nat, L.length = nR ∧ SRow w ra L) :
    Calls Tryz.prog 3 #[ndV s ia nin cin la nI cI ra nR cR] w fun e w' => e = .returned (.bool true) ∧ Below w.heap.size w w' :=
  steps_law s ia nin cin la nI cI ra nR cR w (steps_all s hs ia nin cin la nI cI ra nR cR w hI hR)
end Go.Proofs.YtimhpmccmafnpaaGreat
