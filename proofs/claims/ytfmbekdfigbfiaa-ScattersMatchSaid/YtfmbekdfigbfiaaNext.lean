import Derived.Test.YtfmbekdfigbfiaaM2
import Derived.RegionTactic
import Derived.ChangeAlike
import Derived.BigRegion
namespace Go.Proofs.Ytfmbekdfigbfiaa
open Go.ChangeShapes Go.WideShapes Go.ChangeAt Go.RowKit
set_option linter.unusedVariables false

/-- only block 'b' may have turned -/
structure OnlyAt (b : Nat) (w w' : World) : Prop where
  os : w'.os = w.os
  tape : w'.tape = w.tape
  output : w'.output = w.output
  size : w'.heap.size = w.heap.size
  block : ∀ k, k ≠ b → w'.heap[k]? = w.heap[k]?
theorem OnlyAt.refl (b : Nat) (w : World) : OnlyAt b w w := ⟨rfl, rfl, rfl, rfl, fun _ _ => rfl⟩
theorem OnlyAt.trans {b : Nat} {a w w' : World} (h : OnlyAt b a w) (k : OnlyAt b w w') : OnlyAt b a w' :=
  ⟨k.os.trans h.os, k.tape.trans h.tape, k.output.trans h.output, k.size.trans h.size, fun i hi => (k.block i hi).trans (h.block i hi)⟩
theorem OnlyAt.below {b B : Nat} {w w' : World} (h : OnlyAt b w w') (hb : B ≤ b) : Below B w w' :=
  ⟨h.os, h.tape, h.output, by rw [h.size]; exact Nat.le_refl _, fun k hk => h.block k (by omega)⟩
theorem OnlyAt.cell {b : Nat} {w w' : World} (h : OnlyAt b w w') {p : Addr} (hp : p.block ≠ b) : w'.cell? p = w.cell? p := World.cell?_of_block (w := w) (h.block p.block hp)
theorem OnlyAt.frozen {b : Nat} {w w' : World} (h : OnlyAt b w w') {p : Addr} (hp : p.block ≠ b) : w'.frozen? p = w.frozen? p := World.frozen?_of_block (w := w) (h.block p.block hp)
theorem store_step {w : World} {b : Nat} {v : Value} (hc : w.cell? ⟨b, 0, none⟩ = some v) (hf : w.frozen? ⟨b, 0, none⟩ = false) (v' : Value) :
    (w.setCell ⟨b, 0, none⟩ v').drew.cell? ⟨b, 0, none⟩ = some v' ∧ (w.setCell ⟨b, 0, none⟩ v').drew.frozen? ⟨b, 0, none⟩ = false ∧ OnlyAt b w (w.setCell ⟨b, 0, none⟩ v').drew := by
  refine ⟨?_, ?_, rfl, rfl, rfl, by simp [World.setCell, World.drew], fun k hk => ?_⟩
  · exact World.cell?_setCell_same w ⟨b, 0, none⟩ v' hc
  · have h := World.frozen?_setCell w ⟨b, 0, none⟩ ⟨b, 0, none⟩ v'
    exact h.trans hf
  · exact Below.heap_setCell w ⟨b, 0, none⟩ v' k hk

def nx1 (s : Int) : Int := bits .xor .u32 s (s * 8192 % 4294967296)
def nx2 (s : Int) : Int := bits .xor .u32 s (s / 131072)
def nx3 (s : Int) : Int := bits .xor .u32 s (s * 32 % 4294967296)
def nx (s : Int) : Int := nx3 (nx2 (nx1 s))
theorem xor_bounds (a b : Int) : 0 ≤ bits .xor .u32 a b ∧ bits .xor .u32 a b < 4294967296 := by
  show 0 ≤ IntKind.u32.wrap _ ∧ IntKind.u32.wrap _ < 4294967296
  simp only [IntKind.wrap, IntKind.bits, IntKind.signed]
  constructor <;> simp <;> omega

end Go.Proofs.Ytfmbekdfigbfiaa
