/-
  No cell of these rows narrows 'for every input' (looked for: loops, veiled, ifaces, maps, wideKeys, modest, calm, conditions, laid).
  DERIVED. THE GIVEN ROWS OF THIS SEAT. 5 by the template 'for every input the law returns true; each argument reads behind the call as it read before'; 0 by the template 'total and deterministic' (their statements: YtfmbekdfigbfiaaTotals.lean).
  GIVEN WITH THE SEED: the statements are not yours to turn. If you find one false, say at which input.
  Laid BY PROGRAM, IN A SANDBOX (cutbox-rows.mjs): the forced cells as the released guide's own fill.sh prints them over the translation e2d4a0cbdc4eb38b… (all of the seat's roots in one cut). By AI agents, Wed Nov 11 2026. No macro, syntax, notation, axiom, sorry.
-/
import Derived.Test.YtfmbekdfigbfiaaChecked
import GoSem.Claim
import GoSem.ClaimJoined
import GoSem.ClaimMapViews
import Derived.JoinedTies
import Derived.KernelRfl
namespace Go.Proofs.Ytfmbekdfigbfiaa
/- THE CELL 'sum', in the pinned program and in every row, IS THE sha256 OF THE DUMP (.gsa) THAT YtfmbekdfigbfiaaProg.lean LOADS. Nothing in Lean hashes anything: it is a label: what it is worth is what the hold of that sum in a sandbox is worth. -/
noncomputable def Try.pinned : Pinned := { name := "ytfmbekdfigbfiaa", sum := "e2d4a0cbdc4eb38b9c42f86dff8421b168d51cefd7f2d7a5d7072031060a3c76", checked := Try.checked }
namespace Rows
def none {H : Type} : Left H := { results := [], args := [] }

/-- 'tarntop.TopRays': WHATEVER THE INPUT: true; the input reads as it did. -/
def topRaysSpec : ChangeSpec := { name := "topRays", fn := fun _ => fun
  | [d1, d2] => { results := [.lit (.bool true)], args := [d1, d2] }
  | _ => none }
def topRaysRow : OpenClaim := { program := "ytfmbekdfigbfiaa", sum := "e2d4a0cbdc4eb38b9c42f86dff8421b168d51cefd7f2d7a5d7072031060a3c76", func := "tarnfell/tarntop.TopRays", spec := "topRays", recurses := true, plainKeys := false, apart := false }
def TopRaysSaid : Prop := topRaysRow.holds Try.pinned (OpenSpec.ofChange topRaysSpec)

/-- ITS FALSE NEIGHBOUR: 'it returns false'. Refute it at one input. -/
def topRaysWrong : ChangeSpec := { name := "topRays", fn := fun _ => fun
  | [d1, d2] => { results := [.lit (.bool false)], args := [d1, d2] }
  | _ => none }
def TopRaysWrongFalsely : Prop := topRaysRow.holds Try.pinned (OpenSpec.ofChange topRaysWrong)

/-- 'tarnlaw1.ThermalKeeps': WHATEVER THE INPUT: true; the input reads as it did. -/
def thermalKeepsSpec : ChangeSpec := { name := "thermalKeeps", fn := fun _ => fun
  | [d1, d2] => { results := [.lit (.bool true)], args := [d1, d2] }
  | _ => none }
def thermalKeepsRow : OpenClaim := { program := "ytfmbekdfigbfiaa", sum := "e2d4a0cbdc4eb38b9c42f86dff8421b168d51cefd7f2d7a5d7072031060a3c76", func := "tarnfell/tarnlaw1.ThermalKeeps", spec := "thermalKeeps", inPlace := ["math.Float64bits", "math.Float64frombits", "math.Float32bits", "math.Float32frombits", "math/bits.Add64"], unfollowed := true, recurses := true, plainKeys := false, apart := false }
def ThermalKeepsSaid : Prop := thermalKeepsRow.holds Try.pinned (OpenSpec.ofChange thermalKeepsSpec)

/-- ITS FALSE NEIGHBOUR: 'it returns false'. Refute it at one input. -/
def thermalKeepsWrong : ChangeSpec := { name := "thermalKeeps", fn := fun _ => fun
  | [d1, d2] => { results := [.lit (.bool false)], args := [d1, d2] }
  | _ => none }
def ThermalKeepsWrongFalsely : Prop := thermalKeepsRow.holds Try.pinned (OpenSpec.ofChange thermalKeepsWrong)

/-- 'tarnlaw1.EditsApply': WHATEVER THE INPUT: true; the input reads as it did. -/
def editsApplySpec : ChangeSpec := { name := "editsApply", fn := fun _ => fun
  | [d1, d2, d3] => { results := [.lit (.bool true)], args := [d1, d2, d3] }
  | _ => none }
def editsApplyRow : OpenClaim := { program := "ytfmbekdfigbfiaa", sum := "e2d4a0cbdc4eb38b9c42f86dff8421b168d51cefd7f2d7a5d7072031060a3c76", func := "tarnfell/tarnlaw1.EditsApply", spec := "editsApply", inPlace := ["math.Float64bits", "math.Float64frombits", "math.Float32bits", "math.Float32frombits", "math.sqrt"], unfollowed := true, recurses := true, plainKeys := false, apart := false }
def EditsApplySaid : Prop := editsApplyRow.holds Try.pinned (OpenSpec.ofChange editsApplySpec)

/-- ITS FALSE NEIGHBOUR: 'it returns false'. Refute it at one input. -/
def editsApplyWrong : ChangeSpec := { name := "editsApply", fn := fun _ => fun
  | [d1, d2, d3] => { results := [.lit (.bool false)], args := [d1, d2, d3] }
  | _ => none }
def EditsApplyWrongFalsely : Prop := editsApplyRow.holds Try.pinned (OpenSpec.ofChange editsApplyWrong)

/-- 'tarntop.TopMeshes': WHATEVER THE INPUT: true; the input reads as it did. -/
def topMeshesSpec : ChangeSpec := { name := "topMeshes", fn := fun _ => fun
  | [d1, d2] => { results := [.lit (.bool true)], args := [d1, d2] }
  | _ => none }
def topMeshesRow : OpenClaim := { program := "ytfmbekdfigbfiaa", sum := "e2d4a0cbdc4eb38b9c42f86dff8421b168d51cefd7f2d7a5d7072031060a3c76", func := "tarnfell/tarntop.TopMeshes", spec := "topMeshes", inPlace := ["math.Float64bits", "math.Float64frombits"], unfollowed := true, recurses := true, plainKeys := false, apart := false }
def TopMeshesSaid : Prop := topMeshesRow.holds Try.pinned (OpenSpec.ofChange topMeshesSpec)

/-- ITS FALSE NEIGHBOUR: 'it returns false'. Refute it at one input. -/
def topMeshesWrong : ChangeSpec := { name := "topMeshes", fn := fun _ => fun
  | [d1, d2] => { results := [.lit (.bool false)], args := [d1, d2] }
  | _ => none }
def TopMeshesWrongFalsely : Prop := topMeshesRow.holds Try.pinned (OpenSpec.ofChange topMeshesWrong)

/-- 'tarnlaw1.ScattersMatch': WHATEVER THE INPUT: true; the input reads as it did. -/
def scattersMatchSpec : ChangeSpec := { name := "scattersMatch", fn := fun _ => fun
  | [d1, d2, d3] => { results := [.lit (.bool true)], args := [d1, d2, d3] }
  | _ => none }
def scattersMatchRow : OpenClaim := { program := "ytfmbekdfigbfiaa", sum := "e2d4a0cbdc4eb38b9c42f86dff8421b168d51cefd7f2d7a5d7072031060a3c76", func := "tarnfell/tarnlaw1.ScattersMatch", spec := "scattersMatch", inPlace := ["math.Float64bits", "math.Float64frombits", "math.Float32bits", "math.Float32frombits"], unfollowed := true, recurses := true, plainKeys := false, apart := false }
def ScattersMatchSaid : Prop := scattersMatchRow.holds Try.pinned (OpenSpec.ofChange scattersMatchSpec)

/-- ITS FALSE NEIGHBOUR: 'it returns false'. Refute it at one input. -/
def scattersMatchWrong : ChangeSpec := { name := "scattersMatch", fn := fun _ => fun
  | [d1, d2, d3] => { results := [.lit (.bool false)], args := [d1, d2, d3] }
  | _ => none }
def ScattersMatchWrongFalsely : Prop := scattersMatchRow.holds Try.pinned (OpenSpec.ofChange scattersMatchWrong)

/- THE SECOND FORM. 'bulk': how many values and letters a reading holds, each counted each time it is reached (what is shared counts as often as it is met; a slice's spare places count too). A statement '..UptoSaid' is the law's where the arguments, and the package variables that the reading takes, are together of bulk at most 1048576: NARROWER than '..Said'. Prove '..Said' where nothing that the law and all that it calls make is longer than what came in: it says more and counts as full. Else prove '..UptoSaid'. A law counts once. -/
mutual
def uptoBulk {H : Type} : DataW H → Nat
  | .lit (.string bytes) => bytes.length + 1
  | .lit _ => 1
  | .nil => 1
  | .ptr d => uptoBulk d + 1
  | .slice elems spare => uptoBulkAll elems + uptoBulkAll spare + 1
  | .agg parts => uptoBulkAll parts + 1
  | .iface _ d => uptoBulk d + 1
  | .map entries => uptoBulkEntries entries + 1
  | .held _ => 1
def uptoBulkAll {H : Type} : List (DataW H) → Nat
  | [] => 0
  | d :: r => uptoBulk d + uptoBulkAll r
def uptoBulkEntries {H : Type} : List (Lit × DataW H) → Nat
  | [] => 0
  | x :: r => uptoBulkEntry x + uptoBulkEntries r
def uptoBulkEntry {H : Type} : Lit × DataW H → Nat
  | (.string bytes, d) => bytes.length + uptoBulk d + 1
  | (_, d) => uptoBulk d + 1
 end
def uptoSmall : (H : Type) → List (DataW H) → Bool := fun _ ds => decide (uptoBulkAll ds ≤ 1048576)
def OpenSpec.upto (s : _root_.Go.ChangeSpec) : _root_.Go.OpenSpec := { _root_.Go.OpenSpec.ofChange s with cond := some uptoSmall }

/-- 'tarntop.TopRays', WHERE WHAT IT READS IS OF BULK AT MOST 1048576: true; the input reads as it did. -/
def topRaysUptoRow : OpenClaim := { program := "ytfmbekdfigbfiaa", sum := "e2d4a0cbdc4eb38b9c42f86dff8421b168d51cefd7f2d7a5d7072031060a3c76", func := "tarnfell/tarntop.TopRays", spec := "topRays", recurses := true, plainKeys := false, apart := false, narrowed := true }
def TopRaysUptoSaid : Prop := topRaysUptoRow.holds Try.pinned (OpenSpec.upto topRaysSpec)

/-- 'tarnlaw1.ThermalKeeps', WHERE WHAT IT READS IS OF BULK AT MOST 1048576: true; the input reads as it did. -/
def thermalKeepsUptoRow : OpenClaim := { program := "ytfmbekdfigbfiaa", sum := "e2d4a0cbdc4eb38b9c42f86dff8421b168d51cefd7f2d7a5d7072031060a3c76", func := "tarnfell/tarnlaw1.ThermalKeeps", spec := "thermalKeeps", inPlace := ["math.Float64bits", "math.Float64frombits", "math.Float32bits", "math.Float32frombits", "math/bits.Add64"], unfollowed := true, recurses := true, plainKeys := false, apart := false, narrowed := true }
def ThermalKeepsUptoSaid : Prop := thermalKeepsUptoRow.holds Try.pinned (OpenSpec.upto thermalKeepsSpec)

/-- 'tarnlaw1.EditsApply', WHERE WHAT IT READS IS OF BULK AT MOST 1048576: true; the input reads as it did. -/
def editsApplyUptoRow : OpenClaim := { program := "ytfmbekdfigbfiaa", sum := "e2d4a0cbdc4eb38b9c42f86dff8421b168d51cefd7f2d7a5d7072031060a3c76", func := "tarnfell/tarnlaw1.EditsApply", spec := "editsApply", inPlace := ["math.Float64bits", "math.Float64frombits", "math.Float32bits", "math.Float32frombits", "math.sqrt"], unfollowed := true, recurses := true, plainKeys := false, apart := false, narrowed := true }
def EditsApplyUptoSaid : Prop := editsApplyUptoRow.holds Try.pinned (OpenSpec.upto editsApplySpec)

/-- 'tarntop.TopMeshes', WHERE WHAT IT READS IS OF BULK AT MOST 1048576: true; the input reads as it did. -/
def topMeshesUptoRow : OpenClaim := { program := "ytfmbekdfigbfiaa", sum := "e2d4a0cbdc4eb38b9c42f86dff8421b168d51cefd7f2d7a5d7072031060a3c76", func := "tarnfell/tarntop.TopMeshes", spec := "topMeshes", inPlace := ["math.Float64bits", "math.Float64frombits"], unfollowed := true, recurses := true, plainKeys := false, apart := false, narrowed := true }
def TopMeshesUptoSaid : Prop := topMeshesUptoRow.holds Try.pinned (OpenSpec.upto topMeshesSpec)

/-- 'tarnlaw1.ScattersMatch', WHERE WHAT IT READS IS OF BULK AT MOST 1048576: true; the input reads as it did. -/
def scattersMatchUptoRow : OpenClaim := { program := "ytfmbekdfigbfiaa", sum := "e2d4a0cbdc4eb38b9c42f86dff8421b168d51cefd7f2d7a5d7072031060a3c76", func := "tarnfell/tarnlaw1.ScattersMatch", spec := "scattersMatch", inPlace := ["math.Float64bits", "math.Float64frombits", "math.Float32bits", "math.Float32frombits"], unfollowed := true, recurses := true, plainKeys := false, apart := false, narrowed := true }
def ScattersMatchUptoSaid : Prop := scattersMatchUptoRow.holds Try.pinned (OpenSpec.upto scattersMatchSpec)

end Rows
end Go.Proofs.Ytfmbekdfigbfiaa
