/-
  No cell of these rows narrows 'for every input' (looked for: loops, veiled, ifaces, maps, wideKeys, modest, calm, conditions, laid).
  DERIVED. THE GIVEN ROWS OF THIS SEAT. 2 by the template 'for every input the law returns true; each argument reads behind the call as it read before'; 0 by the template 'total and deterministic' (their statements: YtmggflgdoioajaaGreatTotals.lean).
  GIVEN WITH THE SEED: the statements are not yours to turn. If you find one false, say at which input.
  Laid BY PROGRAM, IN A SANDBOX (cutbox-rows.mjs): the forced cells as the released guide's own fill.sh prints them over the translation afac08a495757c35… (all of the seat's roots in one cut). By AI agents, Wed Nov 11 2026. No macro, syntax, notation, axiom, sorry.
-/
import Derived.Test.YtmggflgdoioajaaGreatChecked
import GoSem.Claim
import GoSem.ClaimJoined
import GoSem.ClaimMapViews
import Derived.JoinedTies
import Derived.KernelRfl
namespace Go.Proofs.YtmggflgdoioajaaGreat
/- THE CELL 'sum', in the pinned program and in every row, IS THE sha256 OF THE DUMP (.gsa) THAT YtmggflgdoioajaaGreatProg.lean LOADS. Nothing in Lean hashes anything: it is a label: what it is worth is what the hold of that sum in a sandbox is worth. -/
noncomputable def Tryz.pinned : Pinned := { name := "ytmggflgdoioajaagreat", sum := "afac08a495757c35dd04571fe663f0b187aa8ef08191ca3959a2523a467d69fb", checked := Tryz.checked }
namespace Rows
def none {H : Type} : Left H := { results := [], args := [] }

/-- 'tarnlaw1.PartsAgree': WHATEVER THE INPUT: true; the input reads as it did. -/
def partsAgreeSpec : ChangeSpec := { name := "partsAgree", fn := fun _ => fun
  | [d1, d2, d3] => { results := [.lit (.bool true)], args := [d1, d2, d3] }
  | _ => none }
def partsAgreeRow : OpenClaim := { program := "ytmggflgdoioajaagreat", sum := "afac08a495757c35dd04571fe663f0b187aa8ef08191ca3959a2523a467d69fb", func := "tarnfell/tarnlaw1.PartsAgree", spec := "partsAgree", inPlace := ["math.sqrt", "math.Float64bits", "math.Float64frombits", "math.archFloor", "math.archTrunc", "math.Float32bits", "math.Float32frombits"], unfollowed := true, recurses := true, apart := false }
def PartsAgreeSaid : Prop := partsAgreeRow.holds Tryz.pinned (OpenSpec.ofChange partsAgreeSpec)

/-- ITS FALSE NEIGHBOUR: 'it returns false'. Refute it at one input. -/
def partsAgreeWrong : ChangeSpec := { name := "partsAgree", fn := fun _ => fun
  | [d1, d2, d3] => { results := [.lit (.bool false)], args := [d1, d2, d3] }
  | _ => none }
def PartsAgreeWrongFalsely : Prop := partsAgreeRow.holds Tryz.pinned (OpenSpec.ofChange partsAgreeWrong)

/-- 'tarntop.TopOverlaps': WHATEVER THE INPUT: true; the input reads as it did. -/
def topOverlapsSpec : ChangeSpec := { name := "topOverlaps", fn := fun _ => fun
  | [d1, d2, d3, d4] => { results := [.lit (.bool true)], args := [d1, d2, d3, d4] }
  | _ => none }
def topOverlapsRow : OpenClaim := { program := "ytmggflgdoioajaagreat", sum := "afac08a495757c35dd04571fe663f0b187aa8ef08191ca3959a2523a467d69fb", func := "tarnfell/tarntop.TopOverlaps", spec := "topOverlaps", inPlace := ["math.sqrt", "math.Float64bits", "math.Float64frombits", "math.archFloor", "math.archTrunc", "math.Float32bits"], unfollowed := true, recurses := true, apart := false }
def TopOverlapsSaid : Prop := topOverlapsRow.holds Tryz.pinned (OpenSpec.ofChange topOverlapsSpec)

/-- ITS FALSE NEIGHBOUR: 'it returns false'. Refute it at one input. -/
def topOverlapsWrong : ChangeSpec := { name := "topOverlaps", fn := fun _ => fun
  | [d1, d2, d3, d4] => { results := [.lit (.bool false)], args := [d1, d2, d3, d4] }
  | _ => none }
def TopOverlapsWrongFalsely : Prop := topOverlapsRow.holds Tryz.pinned (OpenSpec.ofChange topOverlapsWrong)

/- THE SECOND FORM. 'bulk': how many values and letters a reading holds, each counted each time it is reached (what is shared counts as often as it is met; a slice's spare places count too). A statement '..UptoSaid' is the law's where the arguments, and the package variables that the reading takes, are together of bulk at most 1048576: NARROWER than '..Said'. Prove '..Said' where nothing that the law and all that it calls make is longer than what came in: it says more and counts as full. Else prove '..UptoSaid'. A law counts once. -/
mutual
def uptoBulk {H : Type} : DataW H → Nat
  | .lit (.string bytes) => bytes.length + 1
  | .lit _ => 1
  | .nil => 1
  | .ptr d => uptoBulk d + 1
  | .slice elems spare => uptoBulkAll elems + uptoBulkAll spare + 1
  | .agg parts => uptoBulkAll parts + 1
  | .iface _ d => uptoBulk d + 1
  | .map entries => uptoBulkEntries entries + 1
  | .held _ => 1
def uptoBulkAll {H : Type} : List (DataW H) → Nat
  | [] => 0
  | d :: r => uptoBulk d + uptoBulkAll r
def uptoBulkEntries {H : Type} : List (Lit × DataW H) → Nat
  | [] => 0
  | x :: r => uptoBulkEntry x + uptoBulkEntries r
def uptoBulkEntry {H : Type} : Lit × DataW H → Nat
  | (.string bytes, d) => bytes.length + uptoBulk d + 1
  | (_, d) => uptoBulk d + 1
 end
def uptoSmall : (H : Type) → List (DataW H) → Bool := fun _ ds => decide (uptoBulkAll ds ≤ 1048576)
def OpenSpec.upto (s : _root_.Go.ChangeSpec) : _root_.Go.OpenSpec := { _root_.Go.OpenSpec.ofChange s with cond := some uptoSmall }

/-- 'tarnlaw1.PartsAgree', WHERE WHAT IT READS IS OF BULK AT MOST 1048576: true; the input reads as it did. -/
def partsAgreeUptoRow : OpenClaim := { program := "ytmggflgdoioajaagreat", sum := "afac08a495757c35dd04571fe663f0b187aa8ef08191ca3959a2523a467d69fb", func := "tarnfell/tarnlaw1.PartsAgree", spec := "partsAgree", inPlace := ["math.sqrt", "math.Float64bits", "math.Float64frombits", "math.archFloor", "math.archTrunc", "math.Float32bits", "math.Float32frombits"], unfollowed := true, recurses := true, apart := false, narrowed := true }
def PartsAgreeUptoSaid : Prop := partsAgreeUptoRow.holds Tryz.pinned (OpenSpec.upto partsAgreeSpec)

/-- 'tarntop.TopOverlaps', WHERE WHAT IT READS IS OF BULK AT MOST 1048576: true; the input reads as it did. -/
def topOverlapsUptoRow : OpenClaim := { program := "ytmggflgdoioajaagreat", sum := "afac08a495757c35dd04571fe663f0b187aa8ef08191ca3959a2523a467d69fb", func := "tarnfell/tarntop.TopOverlaps", spec := "topOverlaps", inPlace := ["math.sqrt", "math.Float64bits", "math.Float64frombits", "math.archFloor", "math.archTrunc", "math.Float32bits"], unfollowed := true, recurses := true, apart := false, narrowed := true }
def TopOverlapsUptoSaid : Prop := topOverlapsUptoRow.holds Tryz.pinned (OpenSpec.upto topOverlapsSpec)

end Rows
end Go.Proofs.YtmggflgdoioajaaGreat
