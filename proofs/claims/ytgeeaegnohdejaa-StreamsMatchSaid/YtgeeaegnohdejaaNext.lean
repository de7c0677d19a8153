import Derived.Test.YtgeeaegnohdejaaBase
import Derived.RegionTactic
import Derived.ChangeAlike
import Derived.BigRegion
namespace Go.Proofs.Ytgeeaegnohdejaa
open Go.ChangeShapes Go.WideShapes Go.ChangeAt Go.RowKit
set_option linter.unusedVariables false

/-- only block 'b' may have turned -/
structure OnlyAt (b : Nat) (w w' : World) : Prop where
  os : w'.os = w.os
  tape : w'.tape = w.tape
  output : w'.output = w.output
  size : w'.heap.size = w.heap.size
  block : ∀ k, k ≠ b → w'.heap[k]? = w.heap[k]?
theorem OnlyAt.refl (b : Nat) (w : World) : OnlyAt b w w := ⟨rfl, rfl, rfl, rfl, fun _ _ => rfl⟩
theorem OnlyAt.trans {b : Nat} {a w w' : World} (h : OnlyAt b a w) (k : OnlyAt b w w') : OnlyAt b a w' :=
  ⟨k.os.trans h.os, k.tape.trans h.tape, k.output.trans h.output, k.size.trans h.size, fun i hi => (k.block i hi).trans (h.block i hi)⟩
theorem OnlyAt.below {b B : Nat} {w w' : World} (h : OnlyAt b w w') (hb : B ≤ b) : Below B w w' :=
  ⟨h.os, h.tape, h.output, by rw [h.size]; exact Nat.le_refl _, fun k hk => h.block k (by omega)⟩
theorem OnlyAt.cell {b : Nat} {w w' : World} (h : OnlyAt b w w') {p : Addr} (hp : p.block ≠ b) : w'.cell? p = w.cell? p := World.cell?_of_block (w := w) (h.block p.block hp)
theorem OnlyAt.frozen {b : Nat} {w w' : World} (h : OnlyAt b w w') {p : Addr} (hp : p.block ≠ b) : w'.frozen? p = w.frozen? p := World.frozen?_of_block (w := w) (h.block p.block hp)
theorem store_step {w : World} {b : Nat} {v : Value} (hc : w.cell? ⟨b, 0, none⟩ = some v) (hf : w.frozen? ⟨b, 0, none⟩ = false) (v' : Value) :
    (w.setCell ⟨b, 0, none⟩ v').drew.cell? ⟨b, 0, none⟩ = some v' ∧ (w.setCell ⟨b, 0, none⟩ v').drew.frozen? ⟨b, 0, none⟩ = false ∧ OnlyAt b w (w.setCell ⟨b, 0, none⟩ v').drew := by
  refine ⟨?_, ?_, rfl, rfl, rfl, by simp [World.setCell, World.drew], fun k hk => ?_⟩
  · exact World.cell?_setCell_same w ⟨b, 0, none⟩ v' hc
  · have h := World.frozen?_setCell w ⟨b, 0, none⟩ ⟨b, 0, none⟩ v'
    exact h.trans hf
  · exact Below.heap_setCell w ⟨b, 0, none⟩ v' k hk

def nx1 (s : Int) : Int := bits .xor .u32 s (s * 8192 % 4294967296)
def nx2 (s : Int) : Int := bits .xor .u32 s (s / 131072)
def nx3 (s : Int) : Int := bits .xor .u32 s (s * 32 % 4294967296)
def nx (s : Int) : Int := nx3 (nx2 (nx1 s))
theorem xor_bounds (a b : Int) : 0 ≤ bits .xor .u32 a b ∧ bits .xor .u32 a b < 4294967296 := by
  show 0 ≤ IntKind.u32.wrap _ ∧ IntKind.u32.wrap _ < 4294967296
  simp only [IntKind.wrap, IntKind.bits, IntKind.signed]
  constructor <;> simp <;> omega

theorem next1 (b : Nat) (s : Int) (w : World) (hc : w.cell? ⟨b, 0, none⟩ = some (.int .u32 s)) (hf : w.frozen? ⟨b, 0, none⟩ = false) (h0 : 0 ≤ s) (h1 : s < 4294967296) :
    Calls Try.prog 34 #[.pointer (some ⟨b, 0, none⟩)] w fun e w' => e = .returned (.int .u32 (nx s)) ∧ w'.cell? ⟨b, 0, none⟩ = some (.int .u32 (nx s)) ∧ w'.frozen? ⟨b, 0, none⟩ = false ∧ OnlyAt b w w' := by
  have E : Hid (nx s = nx3 (nx2 (nx1 s))) := rfl
  obtain ⟨c1, f1, o1⟩ := store_step hc hf (.int .u32 (nx1 s))
  have ⟨p0, p1⟩ : 0 ≤ nx1 s ∧ nx1 s < 4294967296 := xor_bounds _ _
  go_enter Try.func34, Try.ntmps34
  go_wp2
  go_region
  rw [show bits BinOp.xor IntKind.u32 s (s * 8192 % 4294967296) = nx1 s from rfl]
  generalize (w.setCell ⟨b, 0, none⟩ (.int .u32 (nx1 s))).drew = w1 at *
  generalize hs1 : nx1 s = s1 at *
  have H1 := Lib.hid hs1
  clear hs1
  clear hc hf
  obtain ⟨c2, f2, o2⟩ := store_step c1 f1 (.int .u32 (nx2 s1))
  have ⟨q0, q1⟩ : 0 ≤ nx2 s1 ∧ nx2 s1 < 4294967296 := xor_bounds _ _
  go_wp2
  go_region
  rw [show bits BinOp.xor IntKind.u32 s1 (s1 / 131072) = nx2 s1 from rfl]
  generalize (w1.setCell ⟨b, 0, none⟩ (.int .u32 (nx2 s1))).drew = w2 at *
  generalize hs2 : nx2 s1 = s2 at *
  have H2 := Lib.hid hs2
  clear hs2
  clear c1 f1
  obtain ⟨c3, f3, o3⟩ := store_step c2 f2 (.int .u32 (nx3 s2))
  have ⟨r0, r1⟩ : 0 ≤ nx3 s2 ∧ nx3 s2 < 4294967296 := xor_bounds _ _
  go_wp2
  go_region
  rw [show bits BinOp.xor IntKind.u32 s2 (s2 * 32 % 4294967296) = nx3 s2 from rfl]
  generalize (w2.setCell ⟨b, 0, none⟩ (.int .u32 (nx3 s2))).drew = w3 at *
  generalize hs3 : nx3 s2 = s3 at *
  have H3 := Lib.hid hs3
  clear hs3
  clear c2 f2
  go_wp2
  go_ret
  have e : nx s = s3 := by rw [E.out, ← H3.out]
  rw [e]
  exact ⟨rfl, c3, f3, (o1.trans o2).trans o3⟩

theorem next2 (b : Nat) (s : Int) (w : World) (hc : w.cell? ⟨b, 0, none⟩ = some (.int .u32 s)) (hf : w.frozen? ⟨b, 0, none⟩ = false) (h0 : 0 ≤ s) (h1 : s < 4294967296) :
    Calls Try.prog 35 #[.pointer (some ⟨b, 0, none⟩)] w fun e w' => e = .returned (.int .u32 (nx s)) ∧ w'.cell? ⟨b, 0, none⟩ = some (.int .u32 (nx s)) ∧ w'.frozen? ⟨b, 0, none⟩ = false ∧ OnlyAt b w w' := by
  obtain ⟨c1, f1, o1⟩ := store_step hc hf (.int .u32 (nx s))
  have C := Lib.hid c1
  have F := Lib.hid f1
  have O := Lib.hid o1
  clear c1 f1 o1
  go_enter Try.func35, Try.ntmps35
  go_wp2
  go_ret
  exact ⟨rfl, C.out, F.out, O.out.trans ⟨rfl, rfl, rfl, rfl, fun _ _ => rfl⟩⟩
end Go.Proofs.Ytgeeaegnohdejaa
