import Derived.Test.YtlpbofhmpfilnaaSelOp
import Derived.Deep.RegionHeld3
namespace Go.Proofs.Ytlpbofhmpfilnaa
open Go.ChangeShapes Go.WideShapes Go.ChangeAt Go.RowKit
open Ieee.Format (fin finE htE allFin allHt all_true all_false mulF subF addF Ht Bd divF rootF floorF easeF mixF)
set_option linter.unusedVariables false

theorem SRow.blt {w : World} {b o : Nat} {l : List Nat} (h : SRow w (some ⟨b, o, none⟩) l) (hn : 0 < l.length) : b < w.heap.size := by
  have := h.at_ hn
  rcases Nat.lt_or_ge b w.heap.size with hlt | hge
  · exact hlt
  · simp [World.cell?, Array.getElem?_eq_none hge] at this
theorem Right.pos {X Y : Int} {Wn Hn : Nat} {l : List Nat} (h : Right X Y Wn Hn l) : 0 < l.length := by
  have := Nat.mul_le_mul h.h1 h.w1
  rw [← h.len] at this; omega
theorem Right.small {X Y : Int} {Wn Hn : Nat} {l : List Nat} (h : Right X Y Wn Hn l) : l.length ≤ 1099511627776 := by
  have h1 := Nat.mul_le_mul h.h2 h.w2
  rw [← h.len] at h1; omega

theorem sel_zero {lo hi soft : Nat} (h : selC lo hi soft = 0) : htE [lo, hi, soft] = 0 ∧ gtr lo hi = false ∧ lss soft 0 = false := by
  unfold selC at h
  by_cases h1 : htE [lo, hi, soft] = 0
  · rw [if_neg (by omega)] at h
    cases h2 : gtr lo hi with
    | true => rw [h2, if_pos rfl] at h; omega
    | false =>
      rw [h2, if_neg (by decide)] at h
      cases h3 : lss soft 0 with
      | true => rw [h3, if_pos rfl] at h; omega
      | false => exact ⟨h1, rfl, rfl⟩
  · rw [if_pos h1] at h; exact absurd h h1
theorem sel_hts {lo hi soft : Nat} (h : htE [lo, hi, soft] = 0) : Ht lo ∧ Ht hi ∧ Ht soft := by
  have := Ieee.Format.allHt_iff.1 (Ieee.Format.htE_zero h)
  exact ⟨this _ (by simp), this _ (by simp), this _ (by simp)⟩
theorem map_ht {φ : Nat → Nat} {l : List Nat} (h : ∀ x ∈ l, Ht (φ x)) : resC (l.map φ) = 0 := by
  unfold resC
  rw [if_pos]
  exact Ieee.Format.allHt_iff.2 (fun x hx => by obtain ⟨y, hy, rfl⟩ := List.mem_map.1 hx; exact h y hy)

theorem cnt_world (w : World) (cs : Array Value) (t : TypeId) : ∀ W0, W0 = (w.alloc (.cells cs t)).alloc (.cells #[.int .i64 (-1)] 3) → CntAt W0 (w.heap.size + 1) (-1) ∧ Below w.heap.size w W0 ∧ W0.heap.size = w.heap.size + 2 := by
  rintro _ rfl
  refine ⟨?_, (by repeat (first | with_reducible exact Below.refl _ _ | with_reducible apply Below.drew | with_reducible refine below_drewN ?_ _ | (with_reducible refine Below.setCell ?_ ?_ _; rotate_left; focus (first | omega | (simp <;> omega))) | (with_reducible refine Below.alloc ?_ ?_ _; rotate_left; focus (first | omega | (simp <;> omega))))), by simp⟩
  have := Blk.new (w.alloc (.cells cs t)) #[.int .i64 (-1)] 3
  simpa using this

end Go.Proofs.Ytlpbofhmpfilnaa
