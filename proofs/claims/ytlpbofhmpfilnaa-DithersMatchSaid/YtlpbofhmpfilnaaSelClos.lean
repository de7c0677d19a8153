import Derived.Test.YtlpbofhmpfilnaaSelFn
import Derived.Test.YtlpbofhmpfilnaaRefBil
import Derived.Deep.RegionHeld3
namespace Go.Proofs.Ytlpbofhmpfilnaa
open Go.ChangeShapes Go.WideShapes Go.ChangeAt Go.RowKit
open Ieee.Format (fin finE htE allFin allHt all_true all_false mulF subF addF Ht Bd divF rootF floorF easeF mixF)
set_option linter.unusedVariables false
open Ieee.Format (const_0 const_1)

theorem CntAt.setc {w : World} {p : Nat} {c : Int} (h : CntAt w p c) (d : Int) : CntAt (w.setCell ⟨p, 0, none⟩ (.int .i64 d)) p d := by
  exact one_setCell h
/-- what a counting closure sees -/
structure CntSt (W : World) (p q b o c : Nat) (X Y W1 H1 : Int) (l : List Nat) (k : Nat) : Prop where
  cnt : CntAt W p ((k : Int) - 1)
  fo : Fld W q X Y W1 H1 (.slice (some ⟨b, o, none⟩) l.length c)
  row : SRow W (some ⟨b, o, none⟩) l
  qp : q ≠ p
  bp : b ≠ p
  kl : k < l.length
  bl : b < W.heap.size

theorem blk_cell1 {w w' : World} {p k : Nat} {v : Value} {t : TypeId} (h : Blk w k #[v] t) (hb : But w.heap.size (fun j => j = p) w w') (hp : k ≠ p) : w'.cell? ⟨k, 0, none⟩ = some v := (h.but hb h.lt hp).cell 0

end Go.Proofs.Ytlpbofhmpfilnaa
