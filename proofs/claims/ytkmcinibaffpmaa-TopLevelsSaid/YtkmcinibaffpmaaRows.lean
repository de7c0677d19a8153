/-
  No cell of these rows narrows 'for every input' (looked for: loops, veiled, ifaces, maps, wideKeys, modest, calm, conditions, laid).
  DERIVED. THE GIVEN ROWS OF THIS SEAT. 10 by the template 'for every input the law returns true; each argument reads behind the call as it read before'; 0 by the template 'total and deterministic' (their statements: YtkmcinibaffpmaaTotals.lean).
  GIVEN WITH THE SEED: the statements are not yours to turn. If you find one false, say at which input.
  Laid BY PROGRAM, IN A SANDBOX (cutbox-rows.mjs): the forced cells as the released guide's own fill.sh prints them over the translation f2501995ee32d16c… (all of the seat's roots in one cut). By AI agents, Wed Nov 11 2026. No macro, syntax, notation, axiom, sorry.
-/
import Derived.Test.YtkmcinibaffpmaaChecked
import GoSem.Claim
import GoSem.ClaimJoined
import GoSem.ClaimMapViews
import Derived.JoinedTies
import Derived.KernelRfl
namespace Go.Proofs.Ytkmcinibaffpmaa
/- THE CELL 'sum', in the pinned program and in every row, IS THE sha256 OF THE DUMP (.gsa) THAT YtkmcinibaffpmaaProg.lean LOADS. Nothing in Lean hashes anything: it is a label: what it is worth is what the hold of that sum in a sandbox is worth. -/
noncomputable def Try.pinned : Pinned := { name := "ytkmcinibaffpmaa", sum := "f2501995ee32d16c372102e0c76e233a9d066bdb2212f5bb04044df7589b6091", checked := Try.checked }
namespace Rows
def none {H : Type} : Left H := { results := [], args := [] }

/-- 'tarnlaw1.SumsMatch': WHATEVER THE INPUT: true; the input reads as it did. -/
def sumsMatchSpec : ChangeSpec := { name := "sumsMatch", fn := fun _ => fun
  | [d1, d2] => { results := [.lit (.bool true)], args := [d1, d2] }
  | _ => none }
def sumsMatchRow : OpenClaim := { program := "ytkmcinibaffpmaa", sum := "f2501995ee32d16c372102e0c76e233a9d066bdb2212f5bb04044df7589b6091", func := "tarnfell/tarnlaw1.SumsMatch", spec := "sumsMatch", inPlace := ["math.Float64bits", "math.Float64frombits", "math.Float32bits", "math.Float32frombits", "math/bits.Add64"], recurses := true, plainKeys := false, apart := false }
def SumsMatchSaid : Prop := sumsMatchRow.holds Try.pinned (OpenSpec.ofChange sumsMatchSpec)

/-- ITS FALSE NEIGHBOUR: 'it returns false'. Refute it at one input. -/
def sumsMatchWrong : ChangeSpec := { name := "sumsMatch", fn := fun _ => fun
  | [d1, d2] => { results := [.lit (.bool false)], args := [d1, d2] }
  | _ => none }
def SumsMatchWrongFalsely : Prop := sumsMatchRow.holds Try.pinned (OpenSpec.ofChange sumsMatchWrong)

/-- 'tarntop.TopLevels': WHATEVER THE INPUT: true; the input reads as it did. -/
def topLevelsSpec : ChangeSpec := { name := "topLevels", fn := fun _ => fun
  | [d1, d2] => { results := [.lit (.bool true)], args := [d1, d2] }
  | _ => none }
def topLevelsRow : OpenClaim := { program := "ytkmcinibaffpmaa", sum := "f2501995ee32d16c372102e0c76e233a9d066bdb2212f5bb04044df7589b6091", func := "tarnfell/tarntop.TopLevels", spec := "topLevels", inPlace := ["math.Float64bits", "math.Float64frombits"], unfollowed := true, recurses := true, plainKeys := false, apart := false }
def TopLevelsSaid : Prop := topLevelsRow.holds Try.pinned (OpenSpec.ofChange topLevelsSpec)

/-- ITS FALSE NEIGHBOUR: 'it returns false'. Refute it at one input. -/
def topLevelsWrong : ChangeSpec := { name := "topLevels", fn := fun _ => fun
  | [d1, d2] => { results := [.lit (.bool false)], args := [d1, d2] }
  | _ => none }
def TopLevelsWrongFalsely : Prop := topLevelsRow.holds Try.pinned (OpenSpec.ofChange topLevelsWrong)

/-- 'tarntop.TopRays': WHATEVER THE INPUT: true; the input reads as it did. -/
def topRaysSpec : ChangeSpec := { name := "topRays", fn := fun _ => fun
  | [d1, d2] => { results := [.lit (.bool true)], args := [d1, d2] }
  | _ => none }
def topRaysRow : OpenClaim := { program := "ytkmcinibaffpmaa", sum := "f2501995ee32d16c372102e0c76e233a9d066bdb2212f5bb04044df7589b6091", func := "tarnfell/tarntop.TopRays", spec := "topRays", recurses := true, plainKeys := false, apart := false }
def TopRaysSaid : Prop := topRaysRow.holds Try.pinned (OpenSpec.ofChange topRaysSpec)

/-- ITS FALSE NEIGHBOUR: 'it returns false'. Refute it at one input. -/
def topRaysWrong : ChangeSpec := { name := "topRays", fn := fun _ => fun
  | [d1, d2] => { results := [.lit (.bool false)], args := [d1, d2] }
  | _ => none }
def TopRaysWrongFalsely : Prop := topRaysRow.holds Try.pinned (OpenSpec.ofChange topRaysWrong)

/-- 'tarnlaw1.ThermalKeeps': WHATEVER THE INPUT: true; the input reads as it did. -/
def thermalKeepsSpec : ChangeSpec := { name := "thermalKeeps", fn := fun _ => fun
  | [d1, d2] => { results := [.lit (.bool true)], args := [d1, d2] }
  | _ => none }
def thermalKeepsRow : OpenClaim := { program := "ytkmcinibaffpmaa", sum := "f2501995ee32d16c372102e0c76e233a9d066bdb2212f5bb04044df7589b6091", func := "tarnfell/tarnlaw1.ThermalKeeps", spec := "thermalKeeps", inPlace := ["math.Float64bits", "math.Float64frombits", "math.Float32bits", "math.Float32frombits", "math/bits.Add64"], unfollowed := true, recurses := true, plainKeys := false, apart := false }
def ThermalKeepsSaid : Prop := thermalKeepsRow.holds Try.pinned (OpenSpec.ofChange thermalKeepsSpec)

/-- ITS FALSE NEIGHBOUR: 'it returns false'. Refute it at one input. -/
def thermalKeepsWrong : ChangeSpec := { name := "thermalKeeps", fn := fun _ => fun
  | [d1, d2] => { results := [.lit (.bool false)], args := [d1, d2] }
  | _ => none }
def ThermalKeepsWrongFalsely : Prop := thermalKeepsRow.holds Try.pinned (OpenSpec.ofChange thermalKeepsWrong)

/-- 'tarnlaw1.EditsApply': WHATEVER THE INPUT: true; the input reads as it did. -/
def editsApplySpec : ChangeSpec := { name := "editsApply", fn := fun _ => fun
  | [d1, d2, d3] => { results := [.lit (.bool true)], args := [d1, d2, d3] }
  | _ => none }
def editsApplyRow : OpenClaim := { program := "ytkmcinibaffpmaa", sum := "f2501995ee32d16c372102e0c76e233a9d066bdb2212f5bb04044df7589b6091", func := "tarnfell/tarnlaw1.EditsApply", spec := "editsApply", inPlace := ["math.Float64bits", "math.Float64frombits", "math.Float32bits", "math.Float32frombits", "math.sqrt"], unfollowed := true, recurses := true, plainKeys := false, apart := false }
def EditsApplySaid : Prop := editsApplyRow.holds Try.pinned (OpenSpec.ofChange editsApplySpec)

/-- ITS FALSE NEIGHBOUR: 'it returns false'. Refute it at one input. -/
def editsApplyWrong : ChangeSpec := { name := "editsApply", fn := fun _ => fun
  | [d1, d2, d3] => { results := [.lit (.bool false)], args := [d1, d2, d3] }
  | _ => none }
def EditsApplyWrongFalsely : Prop := editsApplyRow.holds Try.pinned (OpenSpec.ofChange editsApplyWrong)

/-- 'tarnlaw1.StatisticsMatch': WHATEVER THE INPUT: true; the input reads as it did. -/
def statisticsMatchSpec : ChangeSpec := { name := "statisticsMatch", fn := fun _ => fun
  | [d1, d2, d3, d4] => { results := [.lit (.bool true)], args := [d1, d2, d3, d4] }
  | _ => none }
def statisticsMatchRow : OpenClaim := { program := "ytkmcinibaffpmaa", sum := "f2501995ee32d16c372102e0c76e233a9d066bdb2212f5bb04044df7589b6091", func := "tarnfell/tarnlaw1.StatisticsMatch", spec := "statisticsMatch", inPlace := ["math.Float64bits", "math.Float64frombits", "math.Float32bits", "math.Float32frombits", "math.archFloor", "math.archTrunc"], unfollowed := true, recurses := true, plainKeys := false, apart := false }
def StatisticsMatchSaid : Prop := statisticsMatchRow.holds Try.pinned (OpenSpec.ofChange statisticsMatchSpec)

/-- ITS FALSE NEIGHBOUR: 'it returns false'. Refute it at one input. -/
def statisticsMatchWrong : ChangeSpec := { name := "statisticsMatch", fn := fun _ => fun
  | [d1, d2, d3, d4] => { results := [.lit (.bool false)], args := [d1, d2, d3, d4] }
  | _ => none }
def StatisticsMatchWrongFalsely : Prop := statisticsMatchRow.holds Try.pinned (OpenSpec.ofChange statisticsMatchWrong)

/-- 'tarntop.TopMeshes': WHATEVER THE INPUT: true; the input reads as it did. -/
def topMeshesSpec : ChangeSpec := { name := "topMeshes", fn := fun _ => fun
  | [d1, d2] => { results := [.lit (.bool true)], args := [d1, d2] }
  | _ => none }
def topMeshesRow : OpenClaim := { program := "ytkmcinibaffpmaa", sum := "f2501995ee32d16c372102e0c76e233a9d066bdb2212f5bb04044df7589b6091", func := "tarnfell/tarntop.TopMeshes", spec := "topMeshes", inPlace := ["math.Float64bits", "math.Float64frombits"], unfollowed := true, recurses := true, plainKeys := false, apart := false }
def TopMeshesSaid : Prop := topMeshesRow.holds Try.pinned (OpenSpec.ofChange topMeshesSpec)

/-- ITS FALSE NEIGHBOUR: 'it returns false'. Refute it at one input. -/
def topMeshesWrong : ChangeSpec := { name := "topMeshes", fn := fun _ => fun
  | [d1, d2] => { results := [.lit (.bool false)], args := [d1, d2] }
  | _ => none }
def TopMeshesWrongFalsely : Prop := topMeshesRow.holds Try.pinned (OpenSpec.ofChange topMeshesWrong)

/-- 'tarnlaw1.LatticeMatches': WHATEVER THE INPUT: true; the input reads as it did. -/
def latticeMatchesSpec : ChangeSpec := { name := "latticeMatches", fn := fun _ => fun
  | [d1, d2, d3, d4] => { results := [.lit (.bool true)], args := [d1, d2, d3, d4] }
  | _ => none }
def latticeMatchesRow : OpenClaim := { program := "ytkmcinibaffpmaa", sum := "f2501995ee32d16c372102e0c76e233a9d066bdb2212f5bb04044df7589b6091", func := "tarnfell/tarnlaw1.LatticeMatches", spec := "latticeMatches", inPlace := ["math.Float32bits", "math.sqrt"], unfollowed := true, recurses := true, plainKeys := false, apart := false }
def LatticeMatchesSaid : Prop := latticeMatchesRow.holds Try.pinned (OpenSpec.ofChange latticeMatchesSpec)

/-- ITS FALSE NEIGHBOUR: 'it returns false'. Refute it at one input. -/
def latticeMatchesWrong : ChangeSpec := { name := "latticeMatches", fn := fun _ => fun
  | [d1, d2, d3, d4] => { results := [.lit (.bool false)], args := [d1, d2, d3, d4] }
  | _ => none }
def LatticeMatchesWrongFalsely : Prop := latticeMatchesRow.holds Try.pinned (OpenSpec.ofChange latticeMatchesWrong)

/-- 'tarnlaw1.FractalsMatch': WHATEVER THE INPUT: true; the input reads as it did. -/
def fractalsMatchSpec : ChangeSpec := { name := "fractalsMatch", fn := fun _ => fun
  | [d1, d2, d3, d4] => { results := [.lit (.bool true)], args := [d1, d2, d3, d4] }
  | _ => none }
def fractalsMatchRow : OpenClaim := { program := "ytkmcinibaffpmaa", sum := "f2501995ee32d16c372102e0c76e233a9d066bdb2212f5bb04044df7589b6091", func := "tarnfell/tarnlaw1.FractalsMatch", spec := "fractalsMatch", inPlace := ["math.Float64bits", "math.Float64frombits", "math.Float32bits", "math.Float32frombits", "math.sqrt"], unfollowed := true, recurses := true, plainKeys := false, apart := false }
def FractalsMatchSaid : Prop := fractalsMatchRow.holds Try.pinned (OpenSpec.ofChange fractalsMatchSpec)

/-- ITS FALSE NEIGHBOUR: 'it returns false'. Refute it at one input. -/
def fractalsMatchWrong : ChangeSpec := { name := "fractalsMatch", fn := fun _ => fun
  | [d1, d2, d3, d4] => { results := [.lit (.bool false)], args := [d1, d2, d3, d4] }
  | _ => none }
def FractalsMatchWrongFalsely : Prop := fractalsMatchRow.holds Try.pinned (OpenSpec.ofChange fractalsMatchWrong)

/-- 'tarnlaw1.ScattersMatch': WHATEVER THE INPUT: true; the input reads as it did. -/
def scattersMatchSpec : ChangeSpec := { name := "scattersMatch", fn := fun _ => fun
  | [d1, d2, d3] => { results := [.lit (.bool true)], args := [d1, d2, d3] }
  | _ => none }
def scattersMatchRow : OpenClaim := { program := "ytkmcinibaffpmaa", sum := "f2501995ee32d16c372102e0c76e233a9d066bdb2212f5bb04044df7589b6091", func := "tarnfell/tarnlaw1.ScattersMatch", spec := "scattersMatch", inPlace := ["math.Float64bits", "math.Float64frombits", "math.Float32bits", "math.Float32frombits"], unfollowed := true, recurses := true, plainKeys := false, apart := false }
def ScattersMatchSaid : Prop := scattersMatchRow.holds Try.pinned (OpenSpec.ofChange scattersMatchSpec)

/-- ITS FALSE NEIGHBOUR: 'it returns false'. Refute it at one input. -/
def scattersMatchWrong : ChangeSpec := { name := "scattersMatch", fn := fun _ => fun
  | [d1, d2, d3] => { results := [.lit (.bool false)], args := [d1, d2, d3] }
  | _ => none }
def ScattersMatchWrongFalsely : Prop := scattersMatchRow.holds Try.pinned (OpenSpec.ofChange scattersMatchWrong)

/- THE SECOND FORM. 'bulk': how many values and letters a reading holds, each counted each time it is reached (what is shared counts as often as it is met; a slice's spare places count too). A statement '..UptoSaid' is the law's where the arguments, and the package variables that the reading takes, are together of bulk at most 1048576: NARROWER than '..Said'. Prove '..Said' where nothing that the law and all that it calls make is longer than what came in: it says more and counts as full. Else prove '..UptoSaid'. A law counts once. -/
mutual
def uptoBulk {H : Type} : DataW H → Nat
  | .lit (.string bytes) => bytes.length + 1
  | .lit _ => 1
  | .nil => 1
  | .ptr d => uptoBulk d + 1
  | .slice elems spare => uptoBulkAll elems + uptoBulkAll spare + 1
  | .agg parts => uptoBulkAll parts + 1
  | .iface _ d => uptoBulk d + 1
  | .map entries => uptoBulkEntries entries + 1
  | .held _ => 1
def uptoBulkAll {H : Type} : List (DataW H) → Nat
  | [] => 0
  | d :: r => uptoBulk d + uptoBulkAll r
def uptoBulkEntries {H : Type} : List (Lit × DataW H) → Nat
  | [] => 0
  | x :: r => uptoBulkEntry x + uptoBulkEntries r
def uptoBulkEntry {H : Type} : Lit × DataW H → Nat
  | (.string bytes, d) => bytes.length + uptoBulk d + 1
  | (_, d) => uptoBulk d + 1
 end
def uptoSmall : (H : Type) → List (DataW H) → Bool := fun _ ds => decide (uptoBulkAll ds ≤ 1048576)
def OpenSpec.upto (s : _root_.Go.ChangeSpec) : _root_.Go.OpenSpec := { _root_.Go.OpenSpec.ofChange s with cond := some uptoSmall }

/-- 'tarnlaw1.SumsMatch', WHERE WHAT IT READS IS OF BULK AT MOST 1048576: true; the input reads as it did. -/
def sumsMatchUptoRow : OpenClaim := { program := "ytkmcinibaffpmaa", sum := "f2501995ee32d16c372102e0c76e233a9d066bdb2212f5bb04044df7589b6091", func := "tarnfell/tarnlaw1.SumsMatch", spec := "sumsMatch", inPlace := ["math.Float64bits", "math.Float64frombits", "math.Float32bits", "math.Float32frombits", "math/bits.Add64"], recurses := true, plainKeys := false, apart := false, narrowed := true }
def SumsMatchUptoSaid : Prop := sumsMatchUptoRow.holds Try.pinned (OpenSpec.upto sumsMatchSpec)

/-- 'tarntop.TopLevels', WHERE WHAT IT READS IS OF BULK AT MOST 1048576: true; the input reads as it did. -/
def topLevelsUptoRow : OpenClaim := { program := "ytkmcinibaffpmaa", sum := "f2501995ee32d16c372102e0c76e233a9d066bdb2212f5bb04044df7589b6091", func := "tarnfell/tarntop.TopLevels", spec := "topLevels", inPlace := ["math.Float64bits", "math.Float64frombits"], unfollowed := true, recurses := true, plainKeys := false, apart := false, narrowed := true }
def TopLevelsUptoSaid : Prop := topLevelsUptoRow.holds Try.pinned (OpenSpec.upto topLevelsSpec)

/-- 'tarntop.TopRays', WHERE WHAT IT READS IS OF BULK AT MOST 1048576: true; the input reads as it did. -/
def topRaysUptoRow : OpenClaim := { program := "ytkmcinibaffpmaa", sum := "f2501995ee32d16c372102e0c76e233a9d066bdb2212f5bb04044df7589b6091", func := "tarnfell/tarntop.TopRays", spec := "topRays", recurses := true, plainKeys := false, apart := false, narrowed := true }
def TopRaysUptoSaid : Prop := topRaysUptoRow.holds Try.pinned (OpenSpec.upto topRaysSpec)

/-- 'tarnlaw1.ThermalKeeps', WHERE WHAT IT READS IS OF BULK AT MOST 1048576: true; the input reads as it did. -/
def thermalKeepsUptoRow : OpenClaim := { program := "ytkmcinibaffpmaa", sum := "f2501995ee32d16c372102e0c76e233a9d066bdb2212f5bb04044df7589b6091", func := "tarnfell/tarnlaw1.ThermalKeeps", spec := "thermalKeeps", inPlace := ["math.Float64bits", "math.Float64frombits", "math.Float32bits", "math.Float32frombits", "math/bits.Add64"], unfollowed := true, recurses := true, plainKeys := false, apart := false, narrowed := true }
def ThermalKeepsUptoSaid : Prop := thermalKeepsUptoRow.holds Try.pinned (OpenSpec.upto thermalKeepsSpec)

/-- 'tarnlaw1.EditsApply', WHERE WHAT IT READS IS OF BULK AT MOST 1048576: true; the input reads as it did. -/
def editsApplyUptoRow : OpenClaim := { program := "ytkmcinibaffpmaa", sum := "f2501995ee32d16c372102e0c76e233a9d066bdb2212f5bb04044df7589b6091", func := "tarnfell/tarnlaw1.EditsApply", spec := "editsApply", inPlace := ["math.Float64bits", "math.Float64frombits", "math.Float32bits", "math.Float32frombits", "math.sqrt"], unfollowed := true, recurses := true, plainKeys := false, apart := false, narrowed := true }
def EditsApplyUptoSaid : Prop := editsApplyUptoRow.holds Try.pinned (OpenSpec.upto editsApplySpec)

/-- 'tarnlaw1.StatisticsMatch', WHERE WHAT IT READS IS OF BULK AT MOST 1048576: true; the input reads as it did. -/
def statisticsMatchUptoRow : OpenClaim := { program := "ytkmcinibaffpmaa", sum := "f2501995ee32d16c372102e0c76e233a9d066bdb2212f5bb04044df7589b6091", func := "tarnfell/tarnlaw1.StatisticsMatch", spec := "statisticsMatch", inPlace := ["math.Float64bits", "math.Float64frombits", "math.Float32bits", "math.Float32frombits", "math.archFloor", "math.archTrunc"], unfollowed := true, recurses := true, plainKeys := false, apart := false, narrowed := true }
def StatisticsMatchUptoSaid : Prop := statisticsMatchUptoRow.holds Try.pinned (OpenSpec.upto statisticsMatchSpec)

/-- 'tarntop.TopMeshes', WHERE WHAT IT READS IS OF BULK AT MOST 1048576: true; the input reads as it did. -/
def topMeshesUptoRow : OpenClaim := { program := "ytkmcinibaffpmaa", sum := "f2501995ee32d16c372102e0c76e233a9d066bdb2212f5bb04044df7589b6091", func := "tarnfell/tarntop.TopMeshes", spec := "topMeshes", inPlace := ["math.Float64bits", "math.Float64frombits"], unfollowed := true, recurses := true, plainKeys := false, apart := false, narrowed := true }
def TopMeshesUptoSaid : Prop := topMeshesUptoRow.holds Try.pinned (OpenSpec.upto topMeshesSpec)

/-- 'tarnlaw1.LatticeMatches', WHERE WHAT IT READS IS OF BULK AT MOST 1048576: true; the input reads as it did. -/
def latticeMatchesUptoRow : OpenClaim := { program := "ytkmcinibaffpmaa", sum := "f2501995ee32d16c372102e0c76e233a9d066bdb2212f5bb04044df7589b6091", func := "tarnfell/tarnlaw1.LatticeMatches", spec := "latticeMatches", inPlace := ["math.Float32bits", "math.sqrt"], unfollowed := true, recurses := true, plainKeys := false, apart := false, narrowed := true }
def LatticeMatchesUptoSaid : Prop := latticeMatchesUptoRow.holds Try.pinned (OpenSpec.upto latticeMatchesSpec)

/-- 'tarnlaw1.FractalsMatch', WHERE WHAT IT READS IS OF BULK AT MOST 1048576: true; the input reads as it did. -/
def fractalsMatchUptoRow : OpenClaim := { program := "ytkmcinibaffpmaa", sum := "f2501995ee32d16c372102e0c76e233a9d066bdb2212f5bb04044df7589b6091", func := "tarnfell/tarnlaw1.FractalsMatch", spec := "fractalsMatch", inPlace := ["math.Float64bits", "math.Float64frombits", "math.Float32bits", "math.Float32frombits", "math.sqrt"], unfollowed := true, recurses := true, plainKeys := false, apart := false, narrowed := true }
def FractalsMatchUptoSaid : Prop := fractalsMatchUptoRow.holds Try.pinned (OpenSpec.upto fractalsMatchSpec)

/-- 'tarnlaw1.ScattersMatch', WHERE WHAT IT READS IS OF BULK AT MOST 1048576: true; the input reads as it did. -/
def scattersMatchUptoRow : OpenClaim := { program := "ytkmcinibaffpmaa", sum := "f2501995ee32d16c372102e0c76e233a9d066bdb2212f5bb04044df7589b6091", func := "tarnfell/tarnlaw1.ScattersMatch", spec := "scattersMatch", inPlace := ["math.Float64bits", "math.Float64frombits", "math.Float32bits", "math.Float32frombits"], unfollowed := true, recurses := true, plainKeys := false, apart := false, narrowed := true }
def ScattersMatchUptoSaid : Prop := scattersMatchUptoRow.holds Try.pinned (OpenSpec.upto scattersMatchSpec)

end Rows
end Go.Proofs.Ytkmcinibaffpmaa
