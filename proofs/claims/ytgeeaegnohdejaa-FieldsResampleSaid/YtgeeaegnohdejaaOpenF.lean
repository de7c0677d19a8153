import Derived.Test.YtgeeaegnohdejaaFit
import Derived.Lib.SmallJoins
import Derived.Deep.Slices
import Derived.OpenShut
import Derived.WalkLawsBesides
namespace Go.Proofs.Ytgeeaegnohdejaa
open Go.ChangeShapes Go.WideShapes Go.ChangeAt Go.RowKit
set_option linter.unusedVariables false

theorem trod_single {H : Type} {enc : TypeId × Value → H} {W : World} {fuel : Nat} {v : Value} {y : DataW H × List MemPlace}
    (h : DataW.trod enc Try.prog W 0 (fun _ => true) true fuel /-T-/24 [v] = some y) : ∃ b, v = .float .f32 b ∧ b < 4294967296 := by
  cases fuel with
  | zero => simp [DataW.trod] at h
  | succ n =>
    simp only [DataW.trod, Try.underlying24] at h
    cases v with
    | float k b =>
      by_cases hk : k = .f32 ∧ (Lit.float .f32 b).wf = true
      · obtain ⟨rfl, hw⟩ := hk
        exact ⟨b, rfl, by simpa [Lit.wf] using hw⟩
      · simp [hk] at h
    | _ => simp at h

theorem row_of {H : Type} {enc : TypeId × Value → H} {W : World} {fuel : Nat} {v : Value} {y : DataW H × List MemPlace}
    (h : DataW.trod enc Try.prog W 0 (fun _ => true) true fuel /-T-/64 [v] = some y) : ∃ a l cap, v = .slice a l.length cap ∧ Row63 W a l := by
  rcases Go.Deep.open_slice1 Try.underlying64 (by kernel_rfl) h with ⟨hcs, _⟩ | ⟨a, len, cap, m, n, V, D, Pl, hcs, _, hl, hm, hmm, hx, hc⟩
  · simp at hcs
    subst hcs
    exact ⟨none, [], 0, rfl, ⟨by simp, by simp⟩, .inl rfl⟩
  · simp at hcs
    subst hcs
    obtain rfl : m = cap := by simpa using hmm
    unfold maxLen at hm
    have hf : ∀ i, i < m → ∃ b, V i = .float .f32 b ∧ b < 4294967296 := fun i hi => trod_single (hc i hi).2
    let g : Nat → Nat := fun i => match V i with | .float _ b => b | _ => 0
    have hg : ∀ i, i < m → V i = .float .f32 (g i) ∧ g i < 4294967296 := by
      intro i hi
      obtain ⟨b, hb, hlt⟩ := hf i hi
      refine ⟨?_, ?_⟩ <;> (show _) <;> simp only [g, hb] <;> first | rfl | exact hlt
    have hlen : ((List.range len).map g).length = len := by simp
    refine ⟨some a, (List.range len).map g, m, by rw [hlen], ⟨by rw [hlen]; omega, ?_⟩, ?_⟩
    · intro x hx
      obtain ⟨i, hi, rfl⟩ := List.mem_map.1 hx
      exact (hg i (by have := List.mem_range.1 hi; omega)).2
    · by_cases h0 : len = 0
      · subst h0; exact .inl rfl
      · right
        obtain ⟨b, off, spot⟩ := a
        have hspot : spot = none := by simpa [Addr.add] using World.cell?_spot (hc 0 (by omega)).1
        subst hspot
        refine ⟨b, off, rfl, fun i hi => ?_⟩
        rw [hlen] at hi
        have h1 := (hc i (by omega)).1
        rw [Go.WideShapes.add_plain, (hg i (by omega)).1] at h1
        rw [h1]
        simp [List.getD_eq_getElem?_getD, List.getElem?_map, List.getElem?_range hi]

theorem array5 {α : Type} {cs : Array α} (h : cs.size = 5) : ∃ c0 c1 c2 c3 c4, cs = #[c0, c1, c2, c3, c4] := by
  obtain ⟨l⟩ := cs
  match l, h with
  | [c0, c1, c2, c3, c4], _ => exact ⟨c0, c1, c2, c3, c4, rfl⟩
theorem cells66 : Try.prog.cellsOf /-T-/66 = 5 := by kernel_rfl
theorem cells30 : Try.prog.cellsOf /-T-/30 = 4 := by kernel_rfl
theorem cells64 : Try.prog.cellsOf /-T-/64 = 1 := by kernel_rfl
theorem cells3 : Try.prog.cellsOf /-T-/3 = 1 := by kernel_rfl

set_option maxRecDepth 100000 in
/-- a field that came in -/
theorem open_field {H : Type} {enc : TypeId × Value → H} {W : World} {r : Reach} {b0 : Nat} {v : Value} {d : DataW H} {p : List MemPlace}
    (hv : Value.okWide Try.prog W r b0 /-T-/66 v) (h : DataW.Trod enc Try.prog W 0 (fun _ => true) true /-T-/66 v d p) :
    ∃ (X Y A B : Int) (a : Option Addr) (l : List Nat) (cap : Nat), v = fldV X Y A B a l.length cap ∧ Row63 W a l ∧ ((Lit.int .i64 X).wf = true ∧ (Lit.int .i64 Y).wf = true ∧ (Lit.int .i64 A).wf = true ∧ (Lit.int .i64 B).wf = true) := by
  obtain ⟨cs, rfl, hsz⟩ := okWide_struct Try.underlying66 hv
  obtain ⟨c0, c1, c2, c3, c4, rfl⟩ := array5 (hsz.trans cells66)
  obtain ⟨fuel, hf⟩ := h
  obtain ⟨y0, y1, n, hx, _, h0, h1⟩ := trod_struct2 Try.underlying66 hf
  simp only [Value.cells, cells30, cells64] at h0 h1
  obtain ⟨a, l, cap, e4, hr⟩ := row_of (v := c4) (by simpa using h1)
  obtain ⟨z0, z1, z2, z3, n2, hx2, _, g0, g1, g2, g3⟩ := Joins.trod_struct4 Try.underlying30 h0
  simp only [cells3] at g0 g1 g2 g3
  obtain ⟨X, e0, _, wx⟩ := DataW.trod_int Try.underlying3 g0
  obtain ⟨Y, e1, _, wy⟩ := DataW.trod_int Try.underlying3 g1
  obtain ⟨A, e2, _, wa⟩ := DataW.trod_int Try.underlying3 g2
  obtain ⟨B, e3, _, wb⟩ := DataW.trod_int Try.underlying3 g3
  simp at e0 e1 e2 e3
  subst e0 e1 e2 e3 e4
  exact ⟨X, Y, A, B, a, l, cap, rfl, hr, wx, wy, wa, wb⟩
end Go.Proofs.Ytgeeaegnohdejaa
