/-
  No cell of these rows narrows 'for every input' (looked for: loops, veiled, ifaces, maps, wideKeys, modest, calm, conditions, laid).
  DERIVED. THE GIVEN ROWS OF THIS SEAT. 12 by the template 'for every input the law returns true; each argument reads behind the call as it read before'; 0 by the template 'total and deterministic' (their statements: YtgeeaegnohdejaaTotals.lean).
  GIVEN WITH THE SEED: the statements are not yours to turn. If you find one false, say at which input.
  Laid BY PROGRAM, IN A SANDBOX (cutbox-rows.mjs): the forced cells as the released guide's own fill.sh prints them over the translation a8d5380d597026bd… (all of the seat's roots in one cut). By AI agents, Wed Nov 11 2026. No macro, syntax, notation, axiom, sorry.
-/
import Derived.Test.YtgeeaegnohdejaaChecked
import GoSem.Claim
import GoSem.ClaimJoined
import GoSem.ClaimMapViews
import Derived.JoinedTies
import Derived.KernelRfl
namespace Go.Proofs.Ytgeeaegnohdejaa
/- THE CELL 'sum', in the pinned program and in every row, IS THE sha256 OF THE DUMP (.gsa) THAT YtgeeaegnohdejaaProg.lean LOADS. Nothing in Lean hashes anything: it is a label: what it is worth is what the hold of that sum in a sandbox is worth. -/
noncomputable def Try.pinned : Pinned := { name := "ytgeeaegnohdejaa", sum := "a8d5380d597026bd00550fd2210a90a1853c3749234fd900246a078b03248f68", checked := Try.checked }
namespace Rows
def none {H : Type} : Left H := { results := [], args := [] }

/-- 'tarnlaw1.HashesMatch': WHATEVER THE INPUT: true; the input reads as it did. -/
def hashesMatchSpec : ChangeSpec := { name := "hashesMatch", fn := fun _ => fun
  | [d1, d2, d3, d4, d5] => { results := [.lit (.bool true)], args := [d1, d2, d3, d4, d5] }
  | _ => none }
def hashesMatchRow : OpenClaim := { program := "ytgeeaegnohdejaa", sum := "a8d5380d597026bd00550fd2210a90a1853c3749234fd900246a078b03248f68", func := "tarnfell/tarnlaw1.HashesMatch", spec := "hashesMatch", inPlace := ["math.Float32bits"], apart := false }
def HashesMatchSaid : Prop := hashesMatchRow.holds Try.pinned (OpenSpec.ofChange hashesMatchSpec)

/-- ITS FALSE NEIGHBOUR: 'it returns false'. Refute it at one input. -/
def hashesMatchWrong : ChangeSpec := { name := "hashesMatch", fn := fun _ => fun
  | [d1, d2, d3, d4, d5] => { results := [.lit (.bool false)], args := [d1, d2, d3, d4, d5] }
  | _ => none }
def HashesMatchWrongFalsely : Prop := hashesMatchRow.holds Try.pinned (OpenSpec.ofChange hashesMatchWrong)

/-- 'tarnlaw1.RegionsMatch': WHATEVER THE INPUT: true; the input reads as it did. -/
def regionsMatchSpec : ChangeSpec := { name := "regionsMatch", fn := fun _ => fun
  | [d1, d2, d3] => { results := [.lit (.bool true)], args := [d1, d2, d3] }
  | _ => none }
def regionsMatchRow : OpenClaim := { program := "ytgeeaegnohdejaa", sum := "a8d5380d597026bd00550fd2210a90a1853c3749234fd900246a078b03248f68", func := "tarnfell/tarnlaw1.RegionsMatch", spec := "regionsMatch", unfollowed := true, recurses := true, apart := false }
def RegionsMatchSaid : Prop := regionsMatchRow.holds Try.pinned (OpenSpec.ofChange regionsMatchSpec)

/-- ITS FALSE NEIGHBOUR: 'it returns false'. Refute it at one input. -/
def regionsMatchWrong : ChangeSpec := { name := "regionsMatch", fn := fun _ => fun
  | [d1, d2, d3] => { results := [.lit (.bool false)], args := [d1, d2, d3] }
  | _ => none }
def RegionsMatchWrongFalsely : Prop := regionsMatchRow.holds Try.pinned (OpenSpec.ofChange regionsMatchWrong)

/-- 'tarnlaw1.StreamsMatch': WHATEVER THE INPUT: true; the input reads as it did. -/
def streamsMatchSpec : ChangeSpec := { name := "streamsMatch", fn := fun _ => fun
  | [d1, d2, d3, d4] => { results := [.lit (.bool true)], args := [d1, d2, d3, d4] }
  | _ => none }
def streamsMatchRow : OpenClaim := { program := "ytgeeaegnohdejaa", sum := "a8d5380d597026bd00550fd2210a90a1853c3749234fd900246a078b03248f68", func := "tarnfell/tarnlaw1.StreamsMatch", spec := "streamsMatch", inPlace := ["math.Float32bits"], apart := false }
def StreamsMatchSaid : Prop := streamsMatchRow.holds Try.pinned (OpenSpec.ofChange streamsMatchSpec)

/-- ITS FALSE NEIGHBOUR: 'it returns false'. Refute it at one input. -/
def streamsMatchWrong : ChangeSpec := { name := "streamsMatch", fn := fun _ => fun
  | [d1, d2, d3, d4] => { results := [.lit (.bool false)], args := [d1, d2, d3, d4] }
  | _ => none }
def StreamsMatchWrongFalsely : Prop := streamsMatchRow.holds Try.pinned (OpenSpec.ofChange streamsMatchWrong)

/-- 'tarnlaw1.EaseMatches': WHATEVER THE INPUT: true; the input reads as it did. -/
def easeMatchesSpec : ChangeSpec := { name := "easeMatches", fn := fun _ => fun
  | [d] => { results := [.lit (.bool true)], args := [d] }
  | _ => none }
def easeMatchesRow : OpenClaim := { program := "ytgeeaegnohdejaa", sum := "a8d5380d597026bd00550fd2210a90a1853c3749234fd900246a078b03248f68", func := "tarnfell/tarnlaw1.EaseMatches", spec := "easeMatches", inPlace := ["math.Float64bits", "math.Float64frombits", "math.Float32bits", "math.Float32frombits"], apart := false }
def EaseMatchesSaid : Prop := easeMatchesRow.holds Try.pinned (OpenSpec.ofChange easeMatchesSpec)

/-- ITS FALSE NEIGHBOUR: 'it returns false'. Refute it at one input. -/
def easeMatchesWrong : ChangeSpec := { name := "easeMatches", fn := fun _ => fun
  | [d] => { results := [.lit (.bool false)], args := [d] }
  | _ => none }
def EaseMatchesWrongFalsely : Prop := easeMatchesRow.holds Try.pinned (OpenSpec.ofChange easeMatchesWrong)

/-- 'tarnlaw1.TilesMatch': WHATEVER THE INPUT: true; the input reads as it did. -/
def tilesMatchSpec : ChangeSpec := { name := "tilesMatch", fn := fun _ => fun
  | [d1, d2, d3, d4] => { results := [.lit (.bool true)], args := [d1, d2, d3, d4] }
  | _ => none }
def tilesMatchRow : OpenClaim := { program := "ytgeeaegnohdejaa", sum := "a8d5380d597026bd00550fd2210a90a1853c3749234fd900246a078b03248f68", func := "tarnfell/tarnlaw1.TilesMatch", spec := "tilesMatch", apart := false }
def TilesMatchSaid : Prop := tilesMatchRow.holds Try.pinned (OpenSpec.ofChange tilesMatchSpec)

/-- ITS FALSE NEIGHBOUR: 'it returns false'. Refute it at one input. -/
def tilesMatchWrong : ChangeSpec := { name := "tilesMatch", fn := fun _ => fun
  | [d1, d2, d3, d4] => { results := [.lit (.bool false)], args := [d1, d2, d3, d4] }
  | _ => none }
def TilesMatchWrongFalsely : Prop := tilesMatchRow.holds Try.pinned (OpenSpec.ofChange tilesMatchWrong)

/-- 'tarnlaw1.CellsScale': WHATEVER THE INPUT: true; the input reads as it did. -/
def cellsScaleSpec : ChangeSpec := { name := "cellsScale", fn := fun _ => fun
  | [d1, d2, d3] => { results := [.lit (.bool true)], args := [d1, d2, d3] }
  | _ => none }
def cellsScaleRow : OpenClaim := { program := "ytgeeaegnohdejaa", sum := "a8d5380d597026bd00550fd2210a90a1853c3749234fd900246a078b03248f68", func := "tarnfell/tarnlaw1.CellsScale", spec := "cellsScale", inPlace := ["math.Float64bits", "math.Float64frombits", "math.Float32bits", "math.Float32frombits"], unfollowed := true, recurses := true, apart := false }
def CellsScaleSaid : Prop := cellsScaleRow.holds Try.pinned (OpenSpec.ofChange cellsScaleSpec)

/-- ITS FALSE NEIGHBOUR: 'it returns false'. Refute it at one input. -/
def cellsScaleWrong : ChangeSpec := { name := "cellsScale", fn := fun _ => fun
  | [d1, d2, d3] => { results := [.lit (.bool false)], args := [d1, d2, d3] }
  | _ => none }
def CellsScaleWrongFalsely : Prop := cellsScaleRow.holds Try.pinned (OpenSpec.ofChange cellsScaleWrong)

/-- 'tarnlaw1.SmoothMatches': WHATEVER THE INPUT: true; the input reads as it did. -/
def smoothMatchesSpec : ChangeSpec := { name := "smoothMatches", fn := fun _ => fun
  | [d1, d2] => { results := [.lit (.bool true)], args := [d1, d2] }
  | _ => none }
def smoothMatchesRow : OpenClaim := { program := "ytgeeaegnohdejaa", sum := "a8d5380d597026bd00550fd2210a90a1853c3749234fd900246a078b03248f68", func := "tarnfell/tarnlaw1.SmoothMatches", spec := "smoothMatches", inPlace := ["math.Float64bits", "math.Float64frombits", "math.Float32bits", "math.Float32frombits"], unfollowed := true, recurses := true, apart := false }
def SmoothMatchesSaid : Prop := smoothMatchesRow.holds Try.pinned (OpenSpec.ofChange smoothMatchesSpec)

/-- ITS FALSE NEIGHBOUR: 'it returns false'. Refute it at one input. -/
def smoothMatchesWrong : ChangeSpec := { name := "smoothMatches", fn := fun _ => fun
  | [d1, d2] => { results := [.lit (.bool false)], args := [d1, d2] }
  | _ => none }
def SmoothMatchesWrongFalsely : Prop := smoothMatchesRow.holds Try.pinned (OpenSpec.ofChange smoothMatchesWrong)

/-- 'tarnlaw1.FieldsResample': WHATEVER THE INPUT: true; the input reads as it did. -/
def fieldsResampleSpec : ChangeSpec := { name := "fieldsResample", fn := fun _ => fun
  | [d1, d2, d3, d4] => { results := [.lit (.bool true)], args := [d1, d2, d3, d4] }
  | _ => none }
def fieldsResampleRow : OpenClaim := { program := "ytgeeaegnohdejaa", sum := "a8d5380d597026bd00550fd2210a90a1853c3749234fd900246a078b03248f68", func := "tarnfell/tarnlaw1.FieldsResample", spec := "fieldsResample", inPlace := ["math.Float64bits", "math.Float64frombits", "math.Float32bits", "math.Float32frombits"], unfollowed := true, recurses := true, apart := false }
def FieldsResampleSaid : Prop := fieldsResampleRow.holds Try.pinned (OpenSpec.ofChange fieldsResampleSpec)

/-- ITS FALSE NEIGHBOUR: 'it returns false'. Refute it at one input. -/
def fieldsResampleWrong : ChangeSpec := { name := "fieldsResample", fn := fun _ => fun
  | [d1, d2, d3, d4] => { results := [.lit (.bool false)], args := [d1, d2, d3, d4] }
  | _ => none }
def FieldsResampleWrongFalsely : Prop := fieldsResampleRow.holds Try.pinned (OpenSpec.ofChange fieldsResampleWrong)

/-- 'tarnlaw1.SumsMatch': WHATEVER THE INPUT: true; the input reads as it did. -/
def sumsMatchSpec : ChangeSpec := { name := "sumsMatch", fn := fun _ => fun
  | [d1, d2] => { results := [.lit (.bool true)], args := [d1, d2] }
  | _ => none }
def sumsMatchRow : OpenClaim := { program := "ytgeeaegnohdejaa", sum := "a8d5380d597026bd00550fd2210a90a1853c3749234fd900246a078b03248f68", func := "tarnfell/tarnlaw1.SumsMatch", spec := "sumsMatch", inPlace := ["math.Float64bits", "math.Float64frombits", "math.Float32bits", "math.Float32frombits", "math/bits.Add64"], recurses := true, apart := false }
def SumsMatchSaid : Prop := sumsMatchRow.holds Try.pinned (OpenSpec.ofChange sumsMatchSpec)

/-- ITS FALSE NEIGHBOUR: 'it returns false'. Refute it at one input. -/
def sumsMatchWrong : ChangeSpec := { name := "sumsMatch", fn := fun _ => fun
  | [d1, d2] => { results := [.lit (.bool false)], args := [d1, d2] }
  | _ => none }
def SumsMatchWrongFalsely : Prop := sumsMatchRow.holds Try.pinned (OpenSpec.ofChange sumsMatchWrong)

/-- 'tarnlaw1.CellsCombine': WHATEVER THE INPUT: true; the input reads as it did. -/
def cellsCombineSpec : ChangeSpec := { name := "cellsCombine", fn := fun _ => fun
  | [d1, d2, d3, d4] => { results := [.lit (.bool true)], args := [d1, d2, d3, d4] }
  | _ => none }
def cellsCombineRow : OpenClaim := { program := "ytgeeaegnohdejaa", sum := "a8d5380d597026bd00550fd2210a90a1853c3749234fd900246a078b03248f68", func := "tarnfell/tarnlaw1.CellsCombine", spec := "cellsCombine", inPlace := ["math.Float64bits", "math.Float64frombits", "math.Float32bits", "math.Float32frombits"], unfollowed := true, recurses := true, apart := false }
def CellsCombineSaid : Prop := cellsCombineRow.holds Try.pinned (OpenSpec.ofChange cellsCombineSpec)

/-- ITS FALSE NEIGHBOUR: 'it returns false'. Refute it at one input. -/
def cellsCombineWrong : ChangeSpec := { name := "cellsCombine", fn := fun _ => fun
  | [d1, d2, d3, d4] => { results := [.lit (.bool false)], args := [d1, d2, d3, d4] }
  | _ => none }
def CellsCombineWrongFalsely : Prop := cellsCombineRow.holds Try.pinned (OpenSpec.ofChange cellsCombineWrong)

/-- 'tarnlaw1.FieldsAreCut': WHATEVER THE INPUT: true; the input reads as it did. -/
def fieldsAreCutSpec : ChangeSpec := { name := "fieldsAreCut", fn := fun _ => fun
  | [d1, d2, d3, d4] => { results := [.lit (.bool true)], args := [d1, d2, d3, d4] }
  | _ => none }
def fieldsAreCutRow : OpenClaim := { program := "ytgeeaegnohdejaa", sum := "a8d5380d597026bd00550fd2210a90a1853c3749234fd900246a078b03248f68", func := "tarnfell/tarnlaw1.FieldsAreCut", spec := "fieldsAreCut", inPlace := ["math.Float64bits", "math.Float64frombits", "math.Float32bits", "math.Float32frombits"], unfollowed := true, recurses := true, apart := false }
def FieldsAreCutSaid : Prop := fieldsAreCutRow.holds Try.pinned (OpenSpec.ofChange fieldsAreCutSpec)

/-- ITS FALSE NEIGHBOUR: 'it returns false'. Refute it at one input. -/
def fieldsAreCutWrong : ChangeSpec := { name := "fieldsAreCut", fn := fun _ => fun
  | [d1, d2, d3, d4] => { results := [.lit (.bool false)], args := [d1, d2, d3, d4] }
  | _ => none }
def FieldsAreCutWrongFalsely : Prop := fieldsAreCutRow.holds Try.pinned (OpenSpec.ofChange fieldsAreCutWrong)

/-- 'tarnlaw1.CellsBlend': WHATEVER THE INPUT: true; the input reads as it did. -/
def cellsBlendSpec : ChangeSpec := { name := "cellsBlend", fn := fun _ => fun
  | [d1, d2, d3] => { results := [.lit (.bool true)], args := [d1, d2, d3] }
  | _ => none }
def cellsBlendRow : OpenClaim := { program := "ytgeeaegnohdejaa", sum := "a8d5380d597026bd00550fd2210a90a1853c3749234fd900246a078b03248f68", func := "tarnfell/tarnlaw1.CellsBlend", spec := "cellsBlend", inPlace := ["math.Float64bits", "math.Float64frombits", "math.Float32bits", "math.Float32frombits"], unfollowed := true, recurses := true, apart := false }
def CellsBlendSaid : Prop := cellsBlendRow.holds Try.pinned (OpenSpec.ofChange cellsBlendSpec)

/-- ITS FALSE NEIGHBOUR: 'it returns false'. Refute it at one input. -/
def cellsBlendWrong : ChangeSpec := { name := "cellsBlend", fn := fun _ => fun
  | [d1, d2, d3] => { results := [.lit (.bool false)], args := [d1, d2, d3] }
  | _ => none }
def CellsBlendWrongFalsely : Prop := cellsBlendRow.holds Try.pinned (OpenSpec.ofChange cellsBlendWrong)

/- THE SECOND FORM. 'bulk': how many values and letters a reading holds, each counted each time it is reached (what is shared counts as often as it is met; a slice's spare places count too). A statement '..UptoSaid' is the law's where the arguments, and the package variables that the reading takes, are together of bulk at most 1048576: NARROWER than '..Said'. Prove '..Said' where nothing that the law and all that it calls make is longer than what came in: it says more and counts as full. Else prove '..UptoSaid'. A law counts once. -/
mutual
def uptoBulk {H : Type} : DataW H → Nat
  | .lit (.string bytes) => bytes.length + 1
  | .lit _ => 1
  | .nil => 1
  | .ptr d => uptoBulk d + 1
  | .slice elems spare => uptoBulkAll elems + uptoBulkAll spare + 1
  | .agg parts => uptoBulkAll parts + 1
  | .iface _ d => uptoBulk d + 1
  | .map entries => uptoBulkEntries entries + 1
  | .held _ => 1
def uptoBulkAll {H : Type} : List (DataW H) → Nat
  | [] => 0
  | d :: r => uptoBulk d + uptoBulkAll r
def uptoBulkEntries {H : Type} : List (Lit × DataW H) → Nat
  | [] => 0
  | x :: r => uptoBulkEntry x + uptoBulkEntries r
def uptoBulkEntry {H : Type} : Lit × DataW H → Nat
  | (.string bytes, d) => bytes.length + uptoBulk d + 1
  | (_, d) => uptoBulk d + 1
 end
def uptoSmall : (H : Type) → List (DataW H) → Bool := fun _ ds => decide (uptoBulkAll ds ≤ 1048576)
def OpenSpec.upto (s : _root_.Go.ChangeSpec) : _root_.Go.OpenSpec := { _root_.Go.OpenSpec.ofChange s with cond := some uptoSmall }

/-- 'tarnlaw1.HashesMatch', WHERE WHAT IT READS IS OF BULK AT MOST 1048576: true; the input reads as it did. -/
def hashesMatchUptoRow : OpenClaim := { program := "ytgeeaegnohdejaa", sum := "a8d5380d597026bd00550fd2210a90a1853c3749234fd900246a078b03248f68", func := "tarnfell/tarnlaw1.HashesMatch", spec := "hashesMatch", inPlace := ["math.Float32bits"], apart := false, narrowed := true }
def HashesMatchUptoSaid : Prop := hashesMatchUptoRow.holds Try.pinned (OpenSpec.upto hashesMatchSpec)

/-- 'tarnlaw1.RegionsMatch', WHERE WHAT IT READS IS OF BULK AT MOST 1048576: true; the input reads as it did. -/
def regionsMatchUptoRow : OpenClaim := { program := "ytgeeaegnohdejaa", sum := "a8d5380d597026bd00550fd2210a90a1853c3749234fd900246a078b03248f68", func := "tarnfell/tarnlaw1.RegionsMatch", spec := "regionsMatch", unfollowed := true, recurses := true, apart := false, narrowed := true }
def RegionsMatchUptoSaid : Prop := regionsMatchUptoRow.holds Try.pinned (OpenSpec.upto regionsMatchSpec)

/-- 'tarnlaw1.StreamsMatch', WHERE WHAT IT READS IS OF BULK AT MOST 1048576: true; the input reads as it did. -/
def streamsMatchUptoRow : OpenClaim := { program := "ytgeeaegnohdejaa", sum := "a8d5380d597026bd00550fd2210a90a1853c3749234fd900246a078b03248f68", func := "tarnfell/tarnlaw1.StreamsMatch", spec := "streamsMatch", inPlace := ["math.Float32bits"], apart := false, narrowed := true }
def StreamsMatchUptoSaid : Prop := streamsMatchUptoRow.holds Try.pinned (OpenSpec.upto streamsMatchSpec)

/-- 'tarnlaw1.EaseMatches', WHERE WHAT IT READS IS OF BULK AT MOST 1048576: true; the input reads as it did. -/
def easeMatchesUptoRow : OpenClaim := { program := "ytgeeaegnohdejaa", sum := "a8d5380d597026bd00550fd2210a90a1853c3749234fd900246a078b03248f68", func := "tarnfell/tarnlaw1.EaseMatches", spec := "easeMatches", inPlace := ["math.Float64bits", "math.Float64frombits", "math.Float32bits", "math.Float32frombits"], apart := false, narrowed := true }
def EaseMatchesUptoSaid : Prop := easeMatchesUptoRow.holds Try.pinned (OpenSpec.upto easeMatchesSpec)

/-- 'tarnlaw1.TilesMatch', WHERE WHAT IT READS IS OF BULK AT MOST 1048576: true; the input reads as it did. -/
def tilesMatchUptoRow : OpenClaim := { program := "ytgeeaegnohdejaa", sum := "a8d5380d597026bd00550fd2210a90a1853c3749234fd900246a078b03248f68", func := "tarnfell/tarnlaw1.TilesMatch", spec := "tilesMatch", apart := false, narrowed := true }
def TilesMatchUptoSaid : Prop := tilesMatchUptoRow.holds Try.pinned (OpenSpec.upto tilesMatchSpec)

/-- 'tarnlaw1.CellsScale', WHERE WHAT IT READS IS OF BULK AT MOST 1048576: true; the input reads as it did. -/
def cellsScaleUptoRow : OpenClaim := { program := "ytgeeaegnohdejaa", sum := "a8d5380d597026bd00550fd2210a90a1853c3749234fd900246a078b03248f68", func := "tarnfell/tarnlaw1.CellsScale", spec := "cellsScale", inPlace := ["math.Float64bits", "math.Float64frombits", "math.Float32bits", "math.Float32frombits"], unfollowed := true, recurses := true, apart := false, narrowed := true }
def CellsScaleUptoSaid : Prop := cellsScaleUptoRow.holds Try.pinned (OpenSpec.upto cellsScaleSpec)

/-- 'tarnlaw1.SmoothMatches', WHERE WHAT IT READS IS OF BULK AT MOST 1048576: true; the input reads as it did. -/
def smoothMatchesUptoRow : OpenClaim := { program := "ytgeeaegnohdejaa", sum := "a8d5380d597026bd00550fd2210a90a1853c3749234fd900246a078b03248f68", func := "tarnfell/tarnlaw1.SmoothMatches", spec := "smoothMatches", inPlace := ["math.Float64bits", "math.Float64frombits", "math.Float32bits", "math.Float32frombits"], unfollowed := true, recurses := true, apart := false, narrowed := true }
def SmoothMatchesUptoSaid : Prop := smoothMatchesUptoRow.holds Try.pinned (OpenSpec.upto smoothMatchesSpec)

/-- 'tarnlaw1.FieldsResample', WHERE WHAT IT READS IS OF BULK AT MOST 1048576: true; the input reads as it did. -/
def fieldsResampleUptoRow : OpenClaim := { program := "ytgeeaegnohdejaa", sum := "a8d5380d597026bd00550fd2210a90a1853c3749234fd900246a078b03248f68", func := "tarnfell/tarnlaw1.FieldsResample", spec := "fieldsResample", inPlace := ["math.Float64bits", "math.Float64frombits", "math.Float32bits", "math.Float32frombits"], unfollowed := true, recurses := true, apart := false, narrowed := true }
def FieldsResampleUptoSaid : Prop := fieldsResampleUptoRow.holds Try.pinned (OpenSpec.upto fieldsResampleSpec)

/-- 'tarnlaw1.SumsMatch', WHERE WHAT IT READS IS OF BULK AT MOST 1048576: true; the input reads as it did. -/
def sumsMatchUptoRow : OpenClaim := { program := "ytgeeaegnohdejaa", sum := "a8d5380d597026bd00550fd2210a90a1853c3749234fd900246a078b03248f68", func := "tarnfell/tarnlaw1.SumsMatch", spec := "sumsMatch", inPlace := ["math.Float64bits", "math.Float64frombits", "math.Float32bits", "math.Float32frombits", "math/bits.Add64"], recurses := true, apart := false, narrowed := true }
def SumsMatchUptoSaid : Prop := sumsMatchUptoRow.holds Try.pinned (OpenSpec.upto sumsMatchSpec)

/-- 'tarnlaw1.CellsCombine', WHERE WHAT IT READS IS OF BULK AT MOST 1048576: true; the input reads as it did. -/
def cellsCombineUptoRow : OpenClaim := { program := "ytgeeaegnohdejaa", sum := "a8d5380d597026bd00550fd2210a90a1853c3749234fd900246a078b03248f68", func := "tarnfell/tarnlaw1.CellsCombine", spec := "cellsCombine", inPlace := ["math.Float64bits", "math.Float64frombits", "math.Float32bits", "math.Float32frombits"], unfollowed := true, recurses := true, apart := false, narrowed := true }
def CellsCombineUptoSaid : Prop := cellsCombineUptoRow.holds Try.pinned (OpenSpec.upto cellsCombineSpec)

/-- 'tarnlaw1.FieldsAreCut', WHERE WHAT IT READS IS OF BULK AT MOST 1048576: true; the input reads as it did. -/
def fieldsAreCutUptoRow : OpenClaim := { program := "ytgeeaegnohdejaa", sum := "a8d5380d597026bd00550fd2210a90a1853c3749234fd900246a078b03248f68", func := "tarnfell/tarnlaw1.FieldsAreCut", spec := "fieldsAreCut", inPlace := ["math.Float64bits", "math.Float64frombits", "math.Float32bits", "math.Float32frombits"], unfollowed := true, recurses := true, apart := false, narrowed := true }
def FieldsAreCutUptoSaid : Prop := fieldsAreCutUptoRow.holds Try.pinned (OpenSpec.upto fieldsAreCutSpec)

/-- 'tarnlaw1.CellsBlend', WHERE WHAT IT READS IS OF BULK AT MOST 1048576: true; the input reads as it did. -/
def cellsBlendUptoRow : OpenClaim := { program := "ytgeeaegnohdejaa", sum := "a8d5380d597026bd00550fd2210a90a1853c3749234fd900246a078b03248f68", func := "tarnfell/tarnlaw1.CellsBlend", spec := "cellsBlend", inPlace := ["math.Float64bits", "math.Float64frombits", "math.Float32bits", "math.Float32frombits"], unfollowed := true, recurses := true, apart := false, narrowed := true }
def CellsBlendUptoSaid : Prop := cellsBlendUptoRow.holds Try.pinned (OpenSpec.upto cellsBlendSpec)

end Rows
end Go.Proofs.Ytgeeaegnohdejaa
