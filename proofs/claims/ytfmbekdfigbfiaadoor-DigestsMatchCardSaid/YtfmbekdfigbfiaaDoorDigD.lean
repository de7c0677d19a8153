import Derived.Test.YtfmbekdfigbfiaaDoorDigC
import Derived.LaidMore
import Derived.Lay
import Derived.MakeChecks
import Derived.Stop.Joined
namespace Go.Proofs.YtfmbekdfigbfiaaDoor
open Go.ChangeShapes Go.WideShapes Go.ChangeAt Go.RowKit
/-- the cell of the library's table that the digests read, as the row lays it -/
theorem tab_cell {W : World} (h : laidMetH Tryd.prog Rows.digestsMatchRow.laid W) : W.cell? ⟨3, 15, none⟩ = some (.int .u8 4) := by
  rw [MakeChecks.laidMetH_plain _ _ _ (by kernel_rfl)] at h
  obtain ⟨ps, ⟨_, _, _, _, _, _, _, _, _, _, ⟨g, t, cs, fuel, p, q, hg, ht, hv, hd, _, _⟩, _⟩, _, _⟩ := h
  obtain rfl := Option.some.inj ((show Tryd.prog.globalNamed "math/bits.deBruijn64tab" = some 3 by kernel_rfl).symm.trans hg)
  obtain rfl := Option.some.inj ((show (Tryd.prog.globals[3]?).map (·.type) = some 65 by kernel_rfl).symm.trans ht)
  obtain ⟨xs, m, _, ex, _, hl, hel⟩ := DataW.trod_array Tryd.underlying65 hd
  have c5 : Tryd.prog.cellsOf 5 = 1 := by kernel_rfl
  have hE := hel 15 (by omega)
  rw [c5, Nat.mul_one, List.getElem?_eq_getElem (by omega)] at hE
  obtain ⟨z, e1, e2, _⟩ := DataW.trod_int Tryd.underlying5 hE
  have e3 : Rows.laid_math_bits_deBruijn64tab = .agg (xs.map (·.1)) := (Prod.mk.inj ex).1
  unfold Rows.laid_math_bits_deBruijn64tab at e3
  have e4 := DataW.agg.inj e3
  have e5 : (xs.map (·.1))[15]? = some (.lit (.int .u8 4) : DataW Unit) := by rw [← e4]; rfl
  rw [List.getElem?_map, List.getElem?_eq_getElem (by omega : 15 < xs.length), Option.map_some, e2] at e5
  have hz : z = 4 := by
    simp only [Option.some.injEq, DataW.lit.injEq, Lit.int.injEq, true_and] at e5
    exact e5
  subst hz
  rw [World.var?_cell hg hv 15]
  have : cs.toList[15]? = some (.int .u8 4) := by
    have h0 : ((cs.toList.drop 15).take 1)[0]? = some (.int .u8 4) := by rw [e1]; rfl
    simpa using h0
  simpa using this
end Go.Proofs.YtfmbekdfigbfiaaDoor
