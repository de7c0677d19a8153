import Derived.Test.YtiiogjjjgoeghaaG14
import Derived.Test.YtiiogjjjgoeghaaG05
import Derived.Lib.SmallJoins
namespace Go.Proofs.Ytiiogjjjgoeghaa
open Go.ChangeShapes Go.WideShapes Go.ChangeAt Go.RowKit
open Ieee.Format (fin finE htE allFin allHt all_true all_false mulF subF addF Ht Bd divF rootF floorF easeF mixF)
set_option linter.unusedVariables false
set_option linter.unusedSimpArgs false
open Go.Joins Go.Deep

theorem row_cap {H : Type} {enc : TypeId × Value → H} {W : World} {fuel : Nat} {a : Option Addr} {len cap : Nat} {y : DataW H × List MemPlace}
    (h : DataW.trod enc Try.prog W 0 (fun _ => true) true fuel 24 [.slice a len cap] = some y) : len ≤ cap := by
  rcases DataW.trod_slice Try.underlying24 h with ⟨hcs, _⟩ | ⟨a', len', cap', e, r, m, _, hcs, _, _, hl, _⟩
  · simp at hcs
    omega
  · simp at hcs
    omega
set_option maxRecDepth 100000 in
/-- a field that came in, with its row's room -/
theorem open_fieldc {H : Type} {enc : TypeId × Value → H} {W : World} {r : Reach} {b0 : Nat} {v : Value} {d : DataW H} {p : List MemPlace}
    (hv : Value.okWide Try.prog W r b0 26 v) (h : DataW.Trod enc Try.prog W 0 (fun _ => true) true 26 v d p) :
    ∃ (X Y A B : Int) (a : Option Addr) (l : List Nat) (cap : Nat), v = fldV X Y A B a l.length cap ∧ Row63 W a l ∧ l.length ≤ cap := by
  obtain ⟨cs, rfl, hsz⟩ := okWide_struct Try.underlying26 hv
  obtain ⟨c0, c1, c2, c3, c4, rfl⟩ := array5 (hsz.trans cells66)
  obtain ⟨fuel, hf⟩ := h
  obtain ⟨y0, y1, n, hx, _, h0, h1⟩ := trod_struct2 Try.underlying26 hf
  simp only [Value.cells, cells30, cells64] at h0 h1
  obtain ⟨a, l, cap, e4, hr⟩ := row_of (v := c4) (by simpa using h1)
  have hcap : l.length ≤ cap := by
    subst e4
    exact row_cap (by simpa using h1)
  obtain ⟨z0, z1, z2, z3, n2, hx2, _, g0, g1, g2, g3⟩ := Joins.trod_struct4 Try.underlying23 h0
  simp only [cells3] at g0 g1 g2 g3
  obtain ⟨X, e0, _, wx⟩ := DataW.trod_int Try.underlying3 g0
  obtain ⟨Y, e1, _, wy⟩ := DataW.trod_int Try.underlying3 g1
  obtain ⟨A, e2, _, wa⟩ := DataW.trod_int Try.underlying3 g2
  obtain ⟨B, e3, _, wb⟩ := DataW.trod_int Try.underlying3 g3
  simp at e0 e1 e2 e3
  subst e0 e1 e2 e3 e4
  exact ⟨X, Y, A, B, a, l, cap, rfl, hr, hcap⟩
section
variable {H : Type} {enc : TypeId × Value → H} {P : Program} {w : World} {base : Nat} {spare : Nat → Bool} {held : Bool}
theorem open_agg7 {r : Reach} {b0 : Nat} {t : TypeId} {f0 f1 f2 f3 f4 f5 f6 : Field} {v : Value} {d : DataW H} {p : List MemPlace} (hs : P.underlying t = some (.struct #[f0, f1, f2, f3, f4, f5, f6])) (hone : oneCellFields P #[f0, f1, f2, f3, f4, f5, f6] = true) (hC : P.cellsOf t = 7)
    (hv : Value.okWide P w r b0 t v) (h : DataW.Trod enc P w base spare held t v d p) :
    ∃ (v0 v1 v2 v3 v4 v5 v6 : Value) (y0 y1 y2 y3 y4 y5 y6 : DataW H × List MemPlace) (n : Nat), v = .agg #[v0, v1, v2, v3, v4, v5, v6] ∧ d = .agg [y0.1, y1.1, y2.1, y3.1, y4.1, y5.1, y6.1] ∧ p = y0.2 ++ (y1.2 ++ (y2.2 ++ (y3.2 ++ (y4.2 ++ (y5.2 ++ (y6.2)))))) ∧
      DataW.trod enc P w base spare held n f0.type [v0] = some y0 ∧ DataW.trod enc P w base spare held n f1.type [v1] = some y1 ∧ DataW.trod enc P w base spare held n f2.type [v2] = some y2 ∧ DataW.trod enc P w base spare held n f3.type [v3] = some y3 ∧ DataW.trod enc P w base spare held n f4.type [v4] = some y4 ∧ DataW.trod enc P w base spare held n f5.type [v5] = some y5 ∧ DataW.trod enc P w base spare held n f6.type [v6] = some y6 := by
  obtain ⟨cs, rfl, hsz⟩ := okWide_struct hs hv
  obtain ⟨l⟩ := cs
  match l, hsz.trans hC with
  | [c0, c1, c2, c3, c4, c5, c6], _ =>
    obtain ⟨fuel, hf⟩ := h
    obtain ⟨xs, n, _, hx, _, hlen, hg⟩ := DataW.trod_struct hs hf
    obtain ⟨o0, k0⟩ := hone_of hone 0 f0 rfl
    obtain ⟨o1, k1⟩ := hone_of hone 1 f1 rfl
    obtain ⟨o2, k2⟩ := hone_of hone 2 f2 rfl
    obtain ⟨o3, k3⟩ := hone_of hone 3 f3 rfl
    obtain ⟨o4, k4⟩ := hone_of hone 4 f4 rfl
    obtain ⟨o5, k5⟩ := hone_of hone 5 f5 rfl
    obtain ⟨o6, k6⟩ := hone_of hone 6 f6 rfl
    match xs, hlen with
    | [y0, y1, y2, y3, y4, y5, y6], _ =>
      simp only [Prod.mk.injEq] at hx
      exact ⟨c0, c1, c2, c3, c4, c5, c6, y0, y1, y2, y3, y4, y5, y6, n, rfl, by simpa using hx.1, by simpa using hx.2, by simpa [Value.cells, o0, k0] using hg 0 f0 rfl, by simpa [Value.cells, o1, k1] using hg 1 f1 rfl, by simpa [Value.cells, o2, k2] using hg 2 f2 rfl, by simpa [Value.cells, o3, k3] using hg 3 f3 rfl, by simpa [Value.cells, o4, k4] using hg 4 f4 rfl, by simpa [Value.cells, o5, k5] using hg 5 f5 rfl, by simpa [Value.cells, o6, k6] using hg 6 f6 rfl⟩
end
theorem ry_wf {r : Ieee.Format.Ry} (h0 : r.X < 4294967296) (h1 : r.Y < 4294967296) (h2 : r.H < 4294967296) (h3 : r.DX < 4294967296) (h4 : r.DY < 4294967296) (h5 : r.DH < 4294967296) (h6 : r.Mo < 4294967296) : ∀ x ∈ ryL r, x < 4294967296 := by
  intro x hx
  simp only [ryL, List.mem_cons, List.not_mem_nil, or_false] at hx
  rcases hx with rfl | rfl | rfl | rfl | rfl | rfl | rfl <;> assumption
/-- the law, of a ray's words -/
theorem rays_whole (X Y W H : Int) (a : Option Addr) (l : List Nat) (c : Nat) (x0 x1 x2 x3 x4 x5 x6 : Nat) (w : World) (hl : Row63 w a l) (hc : l.length ≤ c) (h0 : x0 < 4294967296) (h1 : x1 < 4294967296) (h2 : x2 < 4294967296) (h3 : x3 < 4294967296) (h4 : x4 < 4294967296) (h5 : x5 < 4294967296) (h6 : x6 < 4294967296) :
    Calls Try.prog 3 #[fldV X Y W H a l.length c, .agg #[.float .f32 x0, .float .f32 x1, .float .f32 x2, .float .f32 x3, .float .f32 x4, .float .f32 x5, .float .f32 x6]] w fun e w' => e = .returned (.bool true) ∧ Below w.heap.size w w' :=
  rays_law X Y W H a c l ⟨x0, x1, x2, x3, x4, x5, x6⟩ w hl hc (ry_wf h0 h1 h2 h3 h4 h5 h6)
end Go.Proofs.Ytiiogjjjgoeghaa
