import Derived.Test.YtimhpmccmafnpaaGreatG04
import Derived.Test.YtimhpmccmafnpaaGreatG03
import Derived.OwnWalk
import Derived.StillTailTactics
import Derived.Test.YtimhpmccmafnpaaGreatG02


namespace Go.Proofs.YtimhpmccmafnpaaGreat
open Go.ChangeShapes Go.WideShapes Go.ChangeAt Go.RowKit
open Ieee.Format (fin finE htE allFin allHt all_true all_false finE_ok finE_bad htE_ok htE_far htE_bad mulF subF addF)
set_option linter.unusedVariables false

/-- the loops of field.Make: the field lies in block 'k5', its row in another one -/
structure MakeInv (w wr : World) (k5 : Nat) (X Y W H : Int) (v : Value) (m : List Nat) : Prop where
  rg : Reg wr w.heap.size X Y W H
  rz : Fld wr (w.heap.size + 1) 0 0 0 0 (.slice none 0 0)
  fo : Fld wr k5 X Y W H v
  k5g : w.heap.size + 2 ≤ k5
  ne : v.ownBlock ≠ some k5
  own : wr.ownsRow (w.heap.size + 2) /-T-/46 1 v m.length (fls m)
  wf : ∀ x ∈ m, x < 4294967296
  below : Below w.heap.size w wr

theorem MakeInv.call {w wr w2 : World} {k5 : Nat} {X Y W H : Int} {v : Value} {m : List Nat} (h : MakeInv w wr k5 X Y W H v m) (hb : Below wr.drew.heap.size wr.drew w2) : MakeInv w w2 k5 X Y W H v m :=
  ⟨h.rg.drew.below hb h.rg.lt, h.rz.drew.below hb h.rz.lt, h.fo.drew.below hb h.fo.lt, h.k5g, h.ne, ownsRow_below (w := wr.drew) h.own hb (fun k hk => (h.own.lt k hk).2), h.wf,
    (h.below.drew).trans (hb.mono (show w.heap.size ≤ wr.heap.size from h.below.size))⟩

theorem MakeInv.mid {w w2 w3 : World} {k5 : Nat} {X Y W H : Int} {v : Value} {m : List Nat} {o : Obj} (h : MakeInv w w2 k5 X Y W H v m) (hg : (w2.alloc o).grownBy w3 v.ownBlock) :
    Reg w3 w.heap.size X Y W H ∧ Fld w3 (w.heap.size + 1) 0 0 0 0 (.slice none 0 0) ∧ Fld w3 k5 X Y W H v ∧ Below w.heap.size w w3 := by
  have hne : ∀ k, k < w.heap.size + 2 → some k ≠ v.ownBlock := fun k hk e => by
    have := (h.own.lt k e.symm).1; omega
  refine ⟨(h.rg.alloc o).grown hg (hne _ (by omega)), (h.rz.alloc o).grown hg (hne _ (by omega)), (h.fo.alloc o).grown hg (fun e => h.ne e.symm), ?_⟩
  have hz := h.below.size
  refine (h.below.alloc hz o).grown hg (by simp; omega) (fun k hk => ?_)
  have := (h.own.lt k hk).1
  omega

theorem MakeInv.app {w w2 w3 : World} {k5 : Nat} {X Y W H : Int} {v : Value} {m : List Nat} {o : Obj} (h : MakeInv w w2 k5 X Y W H v m) {y g cap : Nat} (hy : y < 4294967296)
    (hown : w3.ownsRow (w.heap.size + 2) /-T-/46 1 (.slice (some ⟨g, 0, none⟩) (m.length + 1) cap) (m.length + 1) (fls m ++ [.float .f32 y])) (hg : (w2.alloc o).grownBy w3 v.ownBlock) (hgk : g ≠ k5) :
    MakeInv w (w3.setCell ⟨k5, 4, none⟩ (.slice (some ⟨g, 0, none⟩) (m.length + 1) cap)) k5 X Y W H (.slice (some ⟨g, 0, none⟩) (m.length + 1) cap) (m ++ [y]) := by
  obtain ⟨a, b, c, d⟩ := h.mid hg
  have hgl := (hown.lt g rfl).1
  have hk5 := h.k5g
  refine ⟨a.setCell (by show w.heap.size ≠ k5; omega) _, b.setCell (by show w.heap.size + 1 ≠ k5; omega) _, c.set4 _, hk5, (by simp [Value.ownBlock]; exact hgk), ?_, ?_, d.setCell (by show w.heap.size ≤ k5; omega) _⟩
  · have e : fls (m ++ [y]) = fls m ++ [.float .f32 y] := by unfold fls; simp
    have e2 : (m ++ [y]).length = m.length + 1 := by simp
    rw [e, e2]
    refine ⟨hown.1, ?_⟩
    rcases hown.2 with h2 | ⟨g', cap', cur, hv, hB, hh, r⟩
    · exact .inl h2
    · have : g' = g := by simp at hv; exact hv.1.symm
      subst this
      exact .inr ⟨g', cap', cur, hv, hB, (Below.heap_setCell w3 _ _ g' hgk).trans hh, r⟩
  · intro x hx
    rcases List.mem_append.1 hx with hx | hx
    · exact h.wf x hx
    · have : x = y := by simpa using hx
      rw [this]; exact hy
end Go.Proofs.YtimhpmccmafnpaaGreat

namespace Go.Proofs.YtimhpmccmafnpaaGreat
open Go.ChangeShapes Go.WideShapes Go.ChangeAt Go.RowKit
open Ieee.Format (fin finE htE allFin allHt all_true all_false finE_ok finE_bad htE_ok htE_far htE_bad mulF subF addF)
set_option linter.unusedVariables false

set_option maxRecDepth 100000 in
theorem make_law (i0 : TypeInfo) (hi : Tryz.prog.info? /-T-/46 = some i0) (hz0 : i0.zero = some (.float .f32 0)) (hz1 : i0.size = 1) (hz2 : i0.bytes = 4) (n : Nat) (hn : n ≤ 262144) :
    ∃ o : Obj, (∀ w : World, (Instr.makeSlice /-T-/23 (.int .i64 0) (.int .i64 (n : Int))).run Tryz.prog w = .ok (.slice (some ⟨w.heap.size, 0, none⟩) 0 n) (w.alloc o)) ∧
      ∀ (w : World) (B : Nat), B ≤ w.heap.size → (w.alloc o).ownsRow B /-T-/46 1 (.slice (some ⟨w.heap.size, 0, none⟩) 0 n) 0 [] := by
  refine ⟨.cells (madeCells (Value.cells (.float .f32 0)) (n * i0.size)) /-T-/46, fun w => ?_, fun w B hB => ?_⟩
  · have hr := run_make (P := Tryz.prog) w /-T-/23 /-T-/46 i0 (.float .f32 0) (by rfl) hi hz0 .i64 .i64 0 n (Int.le_refl _) (by omega) (by rw [hz2]; omega) (by omega)
    simp only [Int.toNat_zero, Int.toNat_natCast] at hr
    exact hr
  · rw [hz1]
    exact World.ownsRow_made w _ n hB (by unfold maxLen; omega) (size_madeCells _ _)

theorem make_start1 (w : World) (X Y W H : Int) (oM : Obj) (n : Nat) (hm : ∀ (w : World) (B : Nat), B ≤ w.heap.size → (w.alloc oM).ownsRow B /-T-/46 1 (.slice (some ⟨w.heap.size, 0, none⟩) 0 n) 0 []) :
    ∀ W0, W0 = ((((w.alloc (.cells #[.int .i64 X, .int .i64 Y, .int .i64 W, .int .i64 H] /-T-/33)).alloc (.cells #[.int .i64 0, .int .i64 0, .int .i64 0, .int .i64 0, .slice none 0 0] /-T-/78)).alloc (.cells #[.int .i64 X, .int .i64 Y, .int .i64 W, .int .i64 H, .slice (some ⟨w.heap.size + 1 + 1 + 1, 0, none⟩) 0 n] /-T-/78)).alloc oM) →
    MakeInv w W0 (w.heap.size + 1 + 1) X Y W H (.slice (some ⟨w.heap.size + 1 + 1 + 1, 0, none⟩) 0 n) [] := by
  rintro _ rfl
  refine ⟨(((Reg.new w X Y W H).alloc _).alloc _).alloc _, ?_, ?_, by omega, by simp [Value.ownBlock], ?_, by simp, (by repeat (first | with_reducible exact Below.refl _ _ | with_reducible apply Below.drew | with_reducible refine below_drewN ?_ _ | (with_reducible refine Below.setCell ?_ ?_ _; rotate_left; focus (first | omega | (simp <;> omega))) | (with_reducible refine Below.alloc ?_ ?_ _; rotate_left; focus (first | omega | (simp <;> omega)))))⟩
  · have := ((Fld.new (w.alloc (.cells #[.int .i64 X, .int .i64 Y, .int .i64 W, .int .i64 H] /-T-/33)) 0 0 0 0 (.slice none 0 0)).alloc (.cells #[.int .i64 X, .int .i64 Y, .int .i64 W, .int .i64 H, .slice (some ⟨w.heap.size + 1 + 1 + 1, 0, none⟩) 0 n] /-T-/78)).alloc oM
    simpa using this
  · have := (Fld.new ((w.alloc (.cells #[.int .i64 X, .int .i64 Y, .int .i64 W, .int .i64 H] /-T-/33)).alloc (.cells #[.int .i64 0, .int .i64 0, .int .i64 0, .int .i64 0, .slice none 0 0] /-T-/78)) X Y W H (.slice (some ⟨w.heap.size + 1 + 1 + 1, 0, none⟩) 0 n)).alloc oM
    simpa using this
  · have := hm (((w.alloc (.cells #[.int .i64 X, .int .i64 Y, .int .i64 W, .int .i64 H] /-T-/33)).alloc (.cells #[.int .i64 0, .int .i64 0, .int .i64 0, .int .i64 0, .slice none 0 0] /-T-/78)).alloc (.cells #[.int .i64 X, .int .i64 Y, .int .i64 W, .int .i64 H, .slice (some ⟨w.heap.size + 1 + 1 + 1, 0, none⟩) 0 n] /-T-/78)) (w.heap.size + 2) (by simp)
    simpa [fls] using this
theorem make_start2 (w : World) (X Y W H : Int) (oM : Obj) (n : Nat) (hm : ∀ (w : World) (B : Nat), B ≤ w.heap.size → (w.alloc oM).ownsRow B /-T-/46 1 (.slice (some ⟨w.heap.size, 0, none⟩) 0 n) 0 []) :
    ∀ W0, W0 = ((((w.alloc (.cells #[.int .i64 X, .int .i64 Y, .int .i64 W, .int .i64 H] /-T-/33)).alloc (.cells #[.int .i64 0, .int .i64 0, .int .i64 0, .int .i64 0, .slice none 0 0] /-T-/78)).alloc oM).alloc (.cells #[.int .i64 X, .int .i64 Y, .int .i64 W, .int .i64 H, .slice (some ⟨w.heap.size + 1 + 1, 0, none⟩) 0 n] /-T-/78)) →
    MakeInv w W0 (w.heap.size + 1 + 1 + 1) X Y W H (.slice (some ⟨w.heap.size + 1 + 1, 0, none⟩) 0 n) [] := by
  rintro _ rfl
  refine ⟨(((Reg.new w X Y W H).alloc _).alloc _).alloc _, ?_, ?_, by omega, by simp [Value.ownBlock], ?_, by simp, (by repeat (first | with_reducible exact Below.refl _ _ | with_reducible apply Below.drew | with_reducible refine below_drewN ?_ _ | (with_reducible refine Below.setCell ?_ ?_ _; rotate_left; focus (first | omega | (simp <;> omega))) | (with_reducible refine Below.alloc ?_ ?_ _; rotate_left; focus (first | omega | (simp <;> omega)))))⟩
  · have := ((Fld.new (w.alloc (.cells #[.int .i64 X, .int .i64 Y, .int .i64 W, .int .i64 H] /-T-/33)) 0 0 0 0 (.slice none 0 0)).alloc oM).alloc (.cells #[.int .i64 X, .int .i64 Y, .int .i64 W, .int .i64 H, .slice (some ⟨w.heap.size + 1 + 1, 0, none⟩) 0 n] /-T-/78)
    simpa using this
  · have := Fld.new (((w.alloc (.cells #[.int .i64 X, .int .i64 Y, .int .i64 W, .int .i64 H] /-T-/33)).alloc (.cells #[.int .i64 0, .int .i64 0, .int .i64 0, .int .i64 0, .slice none 0 0] /-T-/78)).alloc oM) X Y W H (.slice (some ⟨w.heap.size + 1 + 1, 0, none⟩) 0 n)
    simpa using this
  · have h := hm ((w.alloc (.cells #[.int .i64 X, .int .i64 Y, .int .i64 W, .int .i64 H] /-T-/33)).alloc (.cells #[.int .i64 0, .int .i64 0, .int .i64 0, .int .i64 0, .slice none 0 0] /-T-/78)) (w.heap.size + 2) (by simp)
    have := World.ownsRow.alloc h (.cells #[.int .i64 X, .int .i64 Y, .int .i64 W, .int .i64 H, .slice (some ⟨w.heap.size + 1 + 1, 0, none⟩) 0 n] /-T-/78)
    simpa [fls] using this

theorem MakeInv.drew {w wr : World} {k5 : Nat} {X Y W H : Int} {v : Value} {m : List Nat} (h : MakeInv w wr k5 X Y W H v m) : MakeInv w wr.drew k5 X Y W H v m :=
  ⟨h.rg, h.rz, h.fo, h.k5g, h.ne, h.own, h.wf, h.below.drew⟩
/-- what field.Make gives -/
def MakeP (X Y W H : Int) (m : List Nat) (w : World) (e : Ending) (w' : World) : Prop :=
  (∃ g cap, e = .returned (fldV X Y W H (some ⟨g, 0, none⟩) m.length cap) ∧ OwnF w' w.heap.size g cap m) ∧ Below w.heap.size w w'

set_option maxRecDepth 100000 in
set_option maxHeartbeats 4000000 in
theorem make_any (gn : Nat) (caps : Array Value) (ψ : Int → Int → Nat) (X Y : Int) (Wn Hn : Nat) (w : World) (h1 : 1 ≤ Wn) (h2 : Wn ≤ 512) (h3 : 1 ≤ Hn) (h4 : Hn ≤ 512)
    (h5 : -8388608 ≤ X) (h6 : X ≤ 8388608) (h7 : -8388608 ≤ Y) (h8 : Y ≤ 8388608)
    (eg : ∀ args w, (callFunc gn args).run Tryz.prog w = .ok (.enter gn args) w)
    (hψ : ∀ x y, X ≤ x → x < X + Wn → Y ≤ y → y < Y + Hn → ψ x y < 4294967296)
    (hf : ∀ x y, X ≤ x → x < X + Wn → Y ≤ y → y < Y + Hn → ∀ W', Below w.heap.size w W' → Calls Tryz.prog gn (#[.int .i64 x, .int .i64 y] ++ caps) W' fun e w' => e = .returned (.float .f32 (ψ x y)) ∧ Below W'.heap.size W' w') :
    Calls Tryz.prog 69 #[reg X Y Wn Hn, .func (.func gn) #[] caps] w fun e w' => MakeP X Y Wn Hn (madeL ψ X Y Wn (Hn * Wn)) w e w' := by
  have HF := Lib.hid hf
  have HP := Lib.hid hψ
  clear hf hψ
  obtain ⟨i0, hi, hz0, hz1, hz2⟩ := info_parts info24
  obtain ⟨n, hn, hn2, hn3⟩ : ∃ n : Nat, IntKind.i64.wrap ((Wn : Int) * (Hn : Int)) = (n : Int) ∧ n = Hn * Wn ∧ n ≤ 262144 := by
    have h3 : Hn * Wn ≤ 512 * 512 := Nat.mul_le_mul (by omega) (by omega)
    refine ⟨Hn * Wn, ?_, rfl, by omega⟩
    rw [show (Wn : Int) * (Hn : Int) = ((Hn * Wn : Nat) : Int) from by rw [Int.natCast_mul, Int.mul_comm]]
    rw [IntKind.wrap_i64]; omega
  have HN := Lib.hid hn2
  clear hn2
  obtain ⟨oM, hmk, hMO⟩ := make_law i0 hi hz0 hz1 hz2 n hn3
  have HMO := Lib.hid hMO
  clear hMO
  go_enter Tryz.func69, Tryz.ntmps69
  go_wp2_with fail
  go_region
  all_goals
    first
      | (obtain ⟨W0, hW0⟩ : ∃ W0 : World, (((w.alloc (.cells #[.int .i64 X, .int .i64 Y, .int .i64 (Wn : Int), .int .i64 (Hn : Int)] /-T-/33)).alloc (.cells #[.int .i64 0, .int .i64 0, .int .i64 0, .int .i64 0, .slice none 0 0] /-T-/78)).alloc (.cells #[.int .i64 X, .int .i64 Y, .int .i64 Wn, .int .i64 Hn, .slice (some ⟨w.heap.size + 1 + 1 + 1, 0, none⟩) 0 n] /-T-/78)).alloc oM = W0 := ⟨_, rfl⟩
         rw [hW0]
         have I0 := (make_start1 w X Y Wn Hn oM n HMO.out W0 hW0.symm).drew
         have hk5 := Lib.hid I0.k5g
         generalize w.heap.size + 1 + 1 = k5 at *)
      | (obtain ⟨W0, hW0⟩ : ∃ W0 : World, (((w.alloc (.cells #[.int .i64 X, .int .i64 Y, .int .i64 (Wn : Int), .int .i64 (Hn : Int)] /-T-/33)).alloc (.cells #[.int .i64 0, .int .i64 0, .int .i64 0, .int .i64 0, .slice none 0 0] /-T-/78)).alloc oM).alloc (.cells #[.int .i64 X, .int .i64 Y, .int .i64 Wn, .int .i64 Hn, .slice (some ⟨w.heap.size + 1 + 1, 0, none⟩) 0 n] /-T-/78) = W0 := ⟨_, rfl⟩
         rw [hW0]
         have I0 := (make_start2 w X Y Wn Hn oM n HMO.out W0 hW0.symm).drew
         have hk5 := Lib.hid I0.k5g
         generalize w.heap.size + 1 + 1 + 1 = k5 at *)
    clear hW0
    generalize W0.drew = W1 at *
    clear HMO hmk hn
    obtain ⟨q0, q1, q2, q3⟩ := I0.rg.cells
    go_wp2_with fail
    clear q0 q1 q2 q3
    go_loopw [6, 7] (fun vy _ wr => ∃ j : Nat, j ≤ Hn ∧ vy = .int .i64 (Y + j) ∧ ∃ v, MakeInv w wr k5 X Y Wn Hn v (madeL ψ X Y Wn (j * Wn))) (fun vy _ _ => (Y + Hn - intOf vy).toNat)
    case atStart => exact ⟨0, by omega, by simp, _, by rw [Nat.zero_mul]; exact I0⟩
    case round =>
      clear I0
      obtain ⟨j, hj, rfl, v, I⟩ := hrel
      have IH := Lib.hid I
      obtain ⟨r0, r1, r2, r3⟩ := I.rg.cells
      clear I
      by_cases hlt : j < Hn
      · have b1 : (Y + j : Int) < Y + Hn := by omega
        go_wp2
        obtain ⟨wo, rfl⟩ : ∃ wo : World, wo = wr := ⟨_, rfl⟩
        clear r0 r1 r2 r3 hj
        go_loopw [7] (fun vx wi => ∃ i : Nat, i ≤ Wn ∧ vx = .int .i64 (X + i) ∧ ∃ v, MakeInv w wi k5 X Y Wn Hn v (madeL ψ X Y Wn (j * Wn + i))) (fun vx _ => (X + Wn - intOf vx).toNat)
        case atStart => exact ⟨0, by omega, by simp, v, by rw [Nat.add_zero]; exact IH.out⟩
        case round =>
          clear IH v
          obtain ⟨i, hi', rfl, v, I⟩ := hrel
          obtain ⟨r0, r1, r2, r3⟩ := I.rg.cells
          have c4 := I.fo.cells.2.2.2.2
          have IH := Lib.hid I
          clear I
          by_cases hlt2 : i < Wn
          · have b2 : (X + i : Int) < X + Wn := by omega
            have HC : Hid (∀ W', Below w.heap.size w W' → Calls Tryz.prog gn (#[.int .i64 (X + (i : Int)), .int .i64 (Y + (j : Int))] ++ caps) W' fun e w' => e = .returned (.float .f32 (ψ (X + (i : Int)) (Y + (j : Int)))) ∧ Below W'.heap.size W' w') := HF.out _ _ (by omega) (by omega) (by omega) (by omega)
            have HY : Hid (ψ (X + (i : Int)) (Y + (j : Int)) < 4294967296) := HP.out _ _ (by omega) (by omega) (by omega) (by omega)
            have HM : Hid (madeL ψ X Y Wn (j * Wn + i) ++ [ψ (X + (i : Int)) (Y + (j : Int))] = madeL ψ X Y Wn (j * Wn + (i + 1))) := (madeL_succ ψ X Y Wn i j hlt2).symm
            have hml : (madeL ψ X Y Wn (j * Wn + i)).length ≤ 262656 := by
              rw [madeL_len]
              have := Nat.mul_le_mul (show j ≤ 512 by omega) h2
              omega
            generalize madeL ψ X Y Wn (j * Wn + i) = m at *
            generalize ψ (X + (i : Int)) (Y + (j : Int)) = y0 at *
            have HB := Lib.hid IH.out.below
            have G1 : Hid (m.length + 1 ≤ maxLen) := by unfold maxLen Hid; omega
            have G2 : Hid ((m.length + 1) * 4 ≤ 140737488355328) := by unfold Hid; omega
            go_wp2_with fail
            go_region_law (first
              | (refine step_append_lies _ (by rfl) _ _ _ (by rfl) (w.heap.size + 2) /-T-/46 i0 (.float .f32 0) 1 4 Tryz.underlying23 hi hz0 hz1 hz2 rfl (by omega) v m.length (fls m) (by rfl) (I2.out.own.alloc _) ⟨w2.heap.size, 0, none⟩ 1 1 [.float .f32 y0] (by rfl) (by rfl) (World.news_of_block (cs := #[.float .f32 y0]) (t := /-T-/46) (fr := (0, 0)) (heap_alloc_new w2 _)) (by simp [Value.oneCell']) (by omega) G1.out G2.out G3.out (w2.heap.size + 1) (by simp) ?_; intro gg cap w3 hown3 hgrow3 hat3 hlt3; obtain ⟨e1, e2, e3, e4⟩ := I2.out.mid hgrow3; have e5 := e3.cells.2.2.2.2; have e6 := e3.frozen 4; have hgk : gg ≠ k5 := (by rcases hat3 with h | h; exact (fun e => I2.out.ne (e ▸ h)); exact (fun e => by have := lzz.out; omega)); have M3 := Lib.hid (I2.out.app HY.out hown3 hgrow3 hgk); clear e1 e2 e3 e4 hown3 hgrow3 hat3 hlt3 hgk)
              | (go_simp; go_at_fn gn; refine (HC.out _ HB.out.drew).mono ?_; rintro e2 w2 ⟨rfl, hb⟩; have I2 := Lib.hid (IH.out.call hb); have G3 : Hid (w.heap.size + 2 ≤ (w2.alloc (.cells #[.float .f32 y0] /-T-/46)).heap.size) := (by have := I2.out.fo.lt; have := I2.out.k5g; unfold Hid; simp; omega); have d4 := I2.out.fo.cells.2.2.2.2; have lz : k5 < w2.heap.size := I2.out.fo.lt; have lzz := Lib.hid lz; clear hb))
            all_goals
              go_wp2
              go_roundw
              case rel => exact ⟨i + 1, by omega, by go_num, _, HM.out ▸ M3.out⟩
              case measure => simp [intOf]; omega
          · have HE : Hid (j * Wn + i = (j + 1) * Wn) := by
              have : i = Wn := by omega
              unfold Hid; rw [this, Nat.add_mul, Nat.one_mul]
            have IH1 := IH.out
            rw [HE.out] at IH1
            have IH2 := Lib.hid IH1
            clear IH IH1
            go_wp2
            go_roundw
            case rel => exact ⟨j + 1, by omega, by go_num, _, IH2.out⟩
            case measure => simp [intOf]; omega
      · have HE : Hid (j * Wn = Hn * Wn) := by
          have : j = Hn := by omega
          unfold Hid; rw [this]
        have IH2 : Hid (MakeInv w wr k5 X Y Wn Hn v (madeL ψ X Y Wn (Hn * Wn))) := HE.out ▸ IH.out
        clear IH
        have hml : Hid ((madeL ψ X Y Wn (Hn * Wn)).length = Hn * Wn) := madeL_len _ _ _ _ _
        have hm1 : Hid (1 ≤ Hn * Wn) := Nat.mul_le_mul h3 h1
        generalize hmq : madeL ψ X Y Wn (Hn * Wn) = m at *
        have HMQ := Lib.hid hmq
        clear hmq
        obtain ⟨g, cap, rfl, hown⟩ : ∃ g cap, v = .slice (some ⟨g, 0, none⟩) m.length cap ∧ OwnF wr w.heap.size g cap m := by
          have ho := IH2.out.own
          rcases ho.2 with ⟨_, h0⟩ | ⟨g, cap, cur, rfl, hB, hh, r⟩
          · exfalso
            have := hml.out; have := hm1.out; omega
          · exact ⟨g, cap, rfl, OwnF.base ⟨ho, IH2.out.wf⟩ (by omega)⟩
        have HO := Lib.hid hown
        have hgk : Hid (w.heap.size + 2 ≤ g) := (IH2.out.own.lt g rfl).1
        clear hown
        obtain ⟨c0, c1, c2, c3, c4⟩ := IH2.out.fo.cells
        have FB := IH2.out.rz
        obtain ⟨d0, d1, d2, d3, d4⟩ := FB.cells
        have qf0 := FB.frozen 0
        have qf1 := FB.frozen 1
        have qf2 := FB.frozen 2
        have qf3 := FB.frozen 3
        have qf4 := FB.frozen 4
        clear FB
        have HB := Lib.hid IH2.out.below
        clear IH2
        go_wp2
        obtain rfl := HMQ.out
        have B2 := HB.out
        have O2 := HO.out
        have hgk2 := hgk.out
        refine bodyPost_ret (v := fldV X Y Wn Hn (some ⟨g, 0, none⟩) (madeL ψ X Y Wn (Hn * Wn)).length cap) (by simp [results, Tryz.results69, go_sem, *]) rfl ⟨⟨g, cap, rfl, (by have hgg := O2.lt; repeat (first | with_reducible exact O2 | with_reducible refine OwnF.drew ?_ | with_reducible refine OwnF.drewN ?_ _ | (with_reducible refine OwnF.setCell ?_ ?_ _; rotate_left; focus (first | omega | (simp <;> omega))) | with_reducible refine OwnF.alloc ?_ _))⟩, (by have hszz := B2.size; repeat (first | with_reducible exact B2 | with_reducible apply Below.drew | with_reducible refine below_drewN ?_ _ | (with_reducible refine Below.setCell ?_ ?_ _; rotate_left; focus (first | omega | (simp <;> omega))) | (with_reducible refine Below.alloc ?_ ?_ _; rotate_left; focus (first | omega | (simp <;> omega)))))⟩
end Go.Proofs.YtimhpmccmafnpaaGreat

namespace Go.Proofs.YtimhpmccmafnpaaGreat
open Go.ChangeShapes Go.WideShapes Go.ChangeAt Go.RowKit
open Ieee.Format (fin finE htE allFin allHt all_true all_false finE_ok finE_bad htE_ok htE_far htE_bad mulF subF addF)
set_option linter.unusedVariables false

/-- below block B, all blocks but one are as they were -/
structure But (B : Nat) (q : Nat → Prop) (w w' : World) : Prop where
  os : w'.os = w.os
  tape : w'.tape = w.tape
  output : w'.output = w.output
  size : w.heap.size ≤ w'.heap.size
  block : ∀ k, k < B → ¬ q k → w'.heap[k]? = w.heap[k]?
theorem But.of {B : Nat} {q : Nat → Prop} {w w' : World} (h : Below B w w') : But B q w w' := ⟨h.os, h.tape, h.output, h.size, fun k hk _ => h.block k hk⟩
theorem But.trans {B : Nat} {q : Nat → Prop} {a b c : World} (h : But B q a b) (k : But B q b c) : But B q a c :=
  ⟨k.os.trans h.os, k.tape.trans h.tape, k.output.trans h.output, Nat.le_trans h.size k.size, fun i hi hq => (k.block i hi hq).trans (h.block i hi hq)⟩
theorem But.mono {B B' : Nat} {q : Nat → Prop} {w w' : World} (h : But B q w w') (hB : B' ≤ B) : But B' q w w' := ⟨h.os, h.tape, h.output, h.size, fun k hk hq => h.block k (Nat.lt_of_lt_of_le hk hB) hq⟩
/-- what came after w is not the block -/
theorem But.cell {B : Nat} {q : Nat → Prop} {w w' : World} (h : But B q w w') {p : Addr} (hp : p.block < B) (hq : ¬ q p.block) : w'.cell? p = w.cell? p := by
  have hb := h.block p.block hp hq
  exact World.cell?_of_block hb
theorem But.below {B : Nat} {w w' : World} (h : But B (fun _ => False) w w') : Below B w w' := ⟨h.os, h.tape, h.output, h.size, fun k hk => h.block k hk (by simp)⟩

/-- the loops of field.Make: the field lies in block 'k5', its row in another one -/
structure MakeSt (q : Nat → Prop) (J : World → Prop) (w wr : World) (k5 : Nat) (X Y W H : Int) (v : Value) (m : List Nat) : Prop where
  rg : Reg wr w.heap.size X Y W H
  rz : Fld wr (w.heap.size + 1) 0 0 0 0 (.slice none 0 0)
  fo : Fld wr k5 X Y W H v
  k5g : w.heap.size + 2 ≤ k5
  ne : v.ownBlock ≠ some k5
  own : wr.ownsRow (w.heap.size + 2) /-T-/46 1 v m.length (fls m)
  wf : ∀ x ∈ m, x < 4294967296
  below : But w.heap.size q w wr
  st : J wr

theorem MakeSt.call {q : Nat → Prop} {J J' : World → Prop} {w wr w2 : World} {k5 : Nat} {X Y W H : Int} {v : Value} {m : List Nat} (h : MakeSt q J w wr k5 X Y W H v m) (hq : ∀ k, q k → k < w.heap.size) (hb : But wr.drew.heap.size q wr.drew w2) (hj : J' w2) : MakeSt q J' w w2 k5 X Y W H v m := by
  have hne : ∀ k, w.heap.size ≤ k → ¬ q k := fun k hk e => by have := hq k e; omega
  have hk := h.k5g
  refine ⟨(hb.block _ h.rg.drew.lt (hne _ (by omega))).trans h.rg, (hb.block _ h.rz.drew.lt (hne _ (by omega))).trans h.rz, (hb.block _ h.fo.drew.lt (hne _ (by omega))).trans h.fo, h.k5g, h.ne, ?_, h.wf, ?_, hj⟩
  · refine ⟨h.own.1, ?_⟩
    rcases h.own.2 with h2 | ⟨g, cap, cur, rfl, hB, hh, r⟩
    · exact .inl h2
    · exact .inr ⟨g, cap, cur, rfl, hB, (hb.block g (h.own.lt g rfl).2 (hne _ (by omega))).trans hh, r⟩
  · exact h.below.trans ((But.of (Below.refl _ _).drew).trans (hb.mono (show w.heap.size ≤ wr.heap.size from h.below.size)))

theorem MakeSt.mid {q : Nat → Prop} {J : World → Prop} {w w2 w3 : World} {k5 : Nat} {X Y W H : Int} {v : Value} {m : List Nat} {o : Obj} (h : MakeSt q J w w2 k5 X Y W H v m) (hst : ∀ W W', w.heap.size ≤ W.heap.size → J W → Below w.heap.size W W' → J W') (hg : (w2.alloc o).grownBy w3 v.ownBlock) :
    Reg w3 w.heap.size X Y W H ∧ Fld w3 (w.heap.size + 1) 0 0 0 0 (.slice none 0 0) ∧ Fld w3 k5 X Y W H v ∧ But w.heap.size q w w3 ∧ J w3 := by
  have hne : ∀ k, k < w.heap.size + 2 → some k ≠ v.ownBlock := fun k hk e => by
    have := (h.own.lt k e.symm).1; omega
  have hz := h.below.size
  have hb : Below w.heap.size w2 w3 := by
    refine ((Below.refl w.heap.size w2).alloc hz o).grown hg (by simp; omega) (fun k hk => ?_)
    have := (h.own.lt k hk).1
    omega
  exact ⟨(h.rg.alloc o).grown hg (hne _ (by omega)), (h.rz.alloc o).grown hg (hne _ (by omega)), (h.fo.alloc o).grown hg (fun e => h.ne e.symm), h.below.trans (But.of hb), hst _ _ hz h.st hb⟩

theorem MakeSt.app {q : Nat → Prop} {J : World → Prop} {w w2 w3 : World} {k5 : Nat} {X Y W H : Int} {v : Value} {m : List Nat} {o : Obj} (h : MakeSt q J w w2 k5 X Y W H v m) (hst : ∀ W W', w.heap.size ≤ W.heap.size → J W → Below w.heap.size W W' → J W') {y g cap : Nat} (hy : y < 4294967296)
    (hown : w3.ownsRow (w.heap.size + 2) /-T-/46 1 (.slice (some ⟨g, 0, none⟩) (m.length + 1) cap) (m.length + 1) (fls m ++ [.float .f32 y])) (hg : (w2.alloc o).grownBy w3 v.ownBlock) (hgk : g ≠ k5) :
    MakeSt q J w (w3.setCell ⟨k5, 4, none⟩ (.slice (some ⟨g, 0, none⟩) (m.length + 1) cap)) k5 X Y W H (.slice (some ⟨g, 0, none⟩) (m.length + 1) cap) (m ++ [y]) := by
  obtain ⟨a, b, c, d, e⟩ := h.mid hst hg
  have hgl := (hown.lt g rfl).1
  have hk5 := h.k5g
  refine ⟨a.setCell (by show w.heap.size ≠ k5; omega) _, b.setCell (by show w.heap.size + 1 ≠ k5; omega) _, c.set4 _, hk5, (by simp [Value.ownBlock]; exact hgk), ?_, ?_, d.trans (But.of (Below.setCell (Below.refl _ _) (by show w.heap.size ≤ k5; omega) _)), hst _ _ d.size e (Below.setCell (Below.refl _ _) (by show w.heap.size ≤ k5; omega) _)⟩
  · have e : fls (m ++ [y]) = fls m ++ [.float .f32 y] := by unfold fls; simp
    have e2 : (m ++ [y]).length = m.length + 1 := by simp
    rw [e, e2]
    refine ⟨hown.1, ?_⟩
    rcases hown.2 with h2 | ⟨g', cap', cur, hv, hB, hh, r⟩
    · exact .inl h2
    · have : g' = g := by simp at hv; exact hv.1.symm
      subst this
      exact .inr ⟨g', cap', cur, hv, hB, (Below.heap_setCell w3 _ _ g' hgk).trans hh, r⟩
  · intro x hx
    rcases List.mem_append.1 hx with hx | hx
    · exact h.wf x hx
    · have : x = y := by simpa using hx
      rw [this]; exact hy
theorem MakeInv.state {w wr : World} {k5 : Nat} {X Y W H : Int} {v : Value} {m : List Nat} (h : MakeInv w wr k5 X Y W H v m) (q : Nat → Prop) (J : World → Prop) (hj : J wr) : MakeSt q J w wr k5 X Y W H v m :=
  ⟨h.rg, h.rz, h.fo, h.k5g, h.ne, h.own, h.wf, But.of h.below, hj⟩

/-- what field.Make gives, where the function keeps a state -/
def MakeSP (q : Nat → Prop) (J : World → Prop) (X Y W H : Int) (m : List Nat) (w : World) (e : Ending) (w' : World) : Prop :=
  (∃ g cap, e = .returned (fldV X Y W H (some ⟨g, 0, none⟩) m.length cap) ∧ OwnF w' w.heap.size g cap m) ∧ But w.heap.size q w w' ∧ J w'

set_option maxRecDepth 100000 in
set_option maxHeartbeats 4000000 in
theorem make_st (gn : Nat) (caps : Array Value) (q : Nat → Prop) (J : Nat → World → Prop) (ψ : Int → Int → Nat) (X Y : Int) (Wn Hn : Nat) (w : World) (h1 : 1 ≤ Wn) (h2 : Wn ≤ 512) (h3 : 1 ≤ Hn) (h4 : Hn ≤ 512)
    (h5 : -8388608 ≤ X) (h6 : X ≤ 8388608) (h7 : -8388608 ≤ Y) (h8 : Y ≤ 8388608)
    (eg : ∀ args w, (callFunc gn args).run Tryz.prog w = .ok (.enter gn args) w)
    (hq : ∀ k, q k → k < w.heap.size) (j0 : J 0 w) (hst : ∀ n W W', w.heap.size ≤ W.heap.size → J n W → Below w.heap.size W W' → J n W')
    (hψ : ∀ x y, X ≤ x → x < X + Wn → Y ≤ y → y < Y + Hn → ψ x y < 4294967296)
    (hf : ∀ i j : Nat, i < Wn → j < Hn → ∀ W', But w.heap.size q w W' → J (j * Wn + i) W' → Calls Tryz.prog gn (#[.int .i64 (X + (i : Int)), .int .i64 (Y + (j : Int))] ++ caps) W' fun e w' => e = .returned (.float .f32 (ψ (X + (i : Int)) (Y + (j : Int)))) ∧ But W'.heap.size q W' w' ∧ J (j * Wn + i + 1) w') :
    Calls Tryz.prog 69 #[reg X Y Wn Hn, .func (.func gn) #[] caps] w fun e w' => MakeSP q (J (Hn * Wn)) X Y Wn Hn (madeL ψ X Y Wn (Hn * Wn)) w e w' := by
  have HF := Lib.hid hf
  have HP := Lib.hid hψ
  have HST := Lib.hid hst
  have HQ := Lib.hid hq
  have HJ0 := Lib.hid j0
  clear hf hψ hst hq j0
  obtain ⟨i0, hi, hz0, hz1, hz2⟩ := info_parts info24
  obtain ⟨n, hn, hn2, hn3⟩ : ∃ n : Nat, IntKind.i64.wrap ((Wn : Int) * (Hn : Int)) = (n : Int) ∧ n = Hn * Wn ∧ n ≤ 262144 := by
    have h3 : Hn * Wn ≤ 512 * 512 := Nat.mul_le_mul (by omega) (by omega)
    refine ⟨Hn * Wn, ?_, rfl, by omega⟩
    rw [show (Wn : Int) * (Hn : Int) = ((Hn * Wn : Nat) : Int) from by rw [Int.natCast_mul, Int.mul_comm]]
    rw [IntKind.wrap_i64]; omega
  have HN := Lib.hid hn2
  clear hn2
  obtain ⟨oM, hmk, hMO⟩ := make_law i0 hi hz0 hz1 hz2 n hn3
  have HMO := Lib.hid hMO
  clear hMO
  go_enter Tryz.func69, Tryz.ntmps69
  go_wp2_with fail
  go_region
  all_goals
    first
      | (obtain ⟨W0, hW0⟩ : ∃ W0 : World, (((w.alloc (.cells #[.int .i64 X, .int .i64 Y, .int .i64 (Wn : Int), .int .i64 (Hn : Int)] /-T-/33)).alloc (.cells #[.int .i64 0, .int .i64 0, .int .i64 0, .int .i64 0, .slice none 0 0] /-T-/78)).alloc (.cells #[.int .i64 X, .int .i64 Y, .int .i64 Wn, .int .i64 Hn, .slice (some ⟨w.heap.size + 1 + 1 + 1, 0, none⟩) 0 n] /-T-/78)).alloc oM = W0 := ⟨_, rfl⟩
         rw [hW0]
         have I0' := (make_start1 w X Y Wn Hn oM n HMO.out W0 hW0.symm).drew
         have I0 := I0'.state q (J 0) (HST.out 0 _ _ (Nat.le_refl _) HJ0.out I0'.below)
         clear I0'
         have hk5 := Lib.hid I0.k5g
         generalize w.heap.size + 1 + 1 = k5 at *)
      | (obtain ⟨W0, hW0⟩ : ∃ W0 : World, (((w.alloc (.cells #[.int .i64 X, .int .i64 Y, .int .i64 (Wn : Int), .int .i64 (Hn : Int)] /-T-/33)).alloc (.cells #[.int .i64 0, .int .i64 0, .int .i64 0, .int .i64 0, .slice none 0 0] /-T-/78)).alloc oM).alloc (.cells #[.int .i64 X, .int .i64 Y, .int .i64 Wn, .int .i64 Hn, .slice (some ⟨w.heap.size + 1 + 1, 0, none⟩) 0 n] /-T-/78) = W0 := ⟨_, rfl⟩
         rw [hW0]
         have I0' := (make_start2 w X Y Wn Hn oM n HMO.out W0 hW0.symm).drew
         have I0 := I0'.state q (J 0) (HST.out 0 _ _ (Nat.le_refl _) HJ0.out I0'.below)
         clear I0'
         have hk5 := Lib.hid I0.k5g
         generalize w.heap.size + 1 + 1 + 1 = k5 at *)
    clear hW0
    generalize W0.drew = W1 at *
    clear HMO hmk hn
    obtain ⟨q0, q1, q2, q3⟩ := I0.rg.cells
    go_wp2_with fail
    clear q0 q1 q2 q3
    go_loopw [6, 7] (fun vy _ wr => ∃ j : Nat, j ≤ Hn ∧ vy = .int .i64 (Y + j) ∧ ∃ v, MakeSt q (J (j * Wn)) w wr k5 X Y Wn Hn v (madeL ψ X Y Wn (j * Wn))) (fun vy _ _ => (Y + Hn - intOf vy).toNat)
    case atStart => exact ⟨0, by omega, by simp, _, by rw [Nat.zero_mul]; exact I0⟩
    case round =>
      clear I0
      obtain ⟨j, hj, rfl, v, I⟩ := hrel
      have IH := Lib.hid I
      obtain ⟨r0, r1, r2, r3⟩ := I.rg.cells
      clear I
      by_cases hlt : j < Hn
      · have b1 : (Y + j : Int) < Y + Hn := by omega
        go_wp2
        obtain ⟨wo, rfl⟩ : ∃ wo : World, wo = wr := ⟨_, rfl⟩
        clear r0 r1 r2 r3 hj
        go_loopw [7] (fun vx wi => ∃ i : Nat, i ≤ Wn ∧ vx = .int .i64 (X + i) ∧ ∃ v, MakeSt q (J (j * Wn + i)) w wi k5 X Y Wn Hn v (madeL ψ X Y Wn (j * Wn + i))) (fun vx _ => (X + Wn - intOf vx).toNat)
        case atStart => exact ⟨0, by omega, by simp, v, by rw [Nat.add_zero]; exact IH.out⟩
        case round =>
          clear IH v
          obtain ⟨i, hi', rfl, v, I⟩ := hrel
          obtain ⟨r0, r1, r2, r3⟩ := I.rg.cells
          have c4 := I.fo.cells.2.2.2.2
          have IH := Lib.hid I
          clear I
          by_cases hlt2 : i < Wn
          · have b2 : (X + i : Int) < X + Wn := by omega
            have HC : Hid (∀ W', But w.heap.size q w W' → J (j * Wn + i) W' → Calls Tryz.prog gn (#[.int .i64 (X + (i : Int)), .int .i64 (Y + (j : Int))] ++ caps) W' fun e w' => e = .returned (.float .f32 (ψ (X + (i : Int)) (Y + (j : Int)))) ∧ But W'.heap.size q W' w' ∧ J (j * Wn + i + 1) w') := HF.out i j hlt2 hlt
            have HSJ : Hid (∀ W W', w.heap.size ≤ W.heap.size → J (j * Wn + i + 1) W → Below w.heap.size W W' → J (j * Wn + i + 1) W') := HST.out _
            have HB0 := Lib.hid (IH.out.below.trans (But.of (Below.refl _ _).drew))
            have HJ1 := Lib.hid (HST.out _ _ _ IH.out.below.size IH.out.st (Below.refl _ _).drew)
            have HY : Hid (ψ (X + (i : Int)) (Y + (j : Int)) < 4294967296) := HP.out _ _ (by omega) (by omega) (by omega) (by omega)
            have HM : Hid (madeL ψ X Y Wn (j * Wn + i) ++ [ψ (X + (i : Int)) (Y + (j : Int))] = madeL ψ X Y Wn (j * Wn + (i + 1))) := (madeL_succ ψ X Y Wn i j hlt2).symm
            have hml : (madeL ψ X Y Wn (j * Wn + i)).length ≤ 262656 := by
              rw [madeL_len]
              have := Nat.mul_le_mul (show j ≤ 512 by omega) h2
              omega
            generalize madeL ψ X Y Wn (j * Wn + i) = m at *
            generalize ψ (X + (i : Int)) (Y + (j : Int)) = y0 at *
            have G1 : Hid (m.length + 1 ≤ maxLen) := by unfold maxLen Hid; omega
            have G2 : Hid ((m.length + 1) * 4 ≤ 140737488355328) := by unfold Hid; omega
            go_wp2_with fail
            go_region_law (first
              | (refine step_append_lies _ (by rfl) _ _ _ (by rfl) (w.heap.size + 2) /-T-/46 i0 (.float .f32 0) 1 4 Tryz.underlying23 hi hz0 hz1 hz2 rfl (by omega) v m.length (fls m) (by rfl) (I2.out.own.alloc _) ⟨w2.heap.size, 0, none⟩ 1 1 [.float .f32 y0] (by rfl) (by rfl) (World.news_of_block (cs := #[.float .f32 y0]) (t := /-T-/46) (fr := (0, 0)) (heap_alloc_new w2 _)) (by simp [Value.oneCell']) (by omega) G1.out G2.out G3.out (w2.heap.size + 1) (by simp) ?_; intro gg cap w3 hown3 hgrow3 hat3 hlt3; obtain ⟨e1, e2, e3, e4, e7⟩ := I2.out.mid HSJ.out hgrow3; have e5 := e3.cells.2.2.2.2; have e6 := e3.frozen 4; have hgk : gg ≠ k5 := (by rcases hat3 with h | h; exact (fun e => I2.out.ne (e ▸ h)); exact (fun e => by have := lzz.out; omega)); have M3 := Lib.hid (I2.out.app HSJ.out HY.out hown3 hgrow3 hgk); clear e1 e2 e3 e4 e7 hown3 hgrow3 hat3 hlt3 hgk)
              | (go_simp; go_at_fn gn; refine (HC.out _ HB0.out HJ1.out).mono ?_; rintro e2 w2 ⟨rfl, hb, hj2⟩; have I2 := Lib.hid (IH.out.call HQ.out hb hj2); have G3 : Hid (w.heap.size + 2 ≤ (w2.alloc (.cells #[.float .f32 y0] /-T-/46)).heap.size) := (by have := I2.out.fo.lt; have := I2.out.k5g; unfold Hid; simp; omega); have d4 := I2.out.fo.cells.2.2.2.2; have lz : k5 < w2.heap.size := I2.out.fo.lt; have lzz := Lib.hid lz; clear hb hj2))
            all_goals
              go_wp2
              go_roundw
              case rel => exact ⟨i + 1, by omega, by go_num, _, HM.out ▸ M3.out⟩
              case measure => simp [intOf]; omega
          · have HE : Hid (j * Wn + i = (j + 1) * Wn) := by
              have : i = Wn := by omega
              unfold Hid; rw [this, Nat.add_mul, Nat.one_mul]
            have IH1 := IH.out
            rw [HE.out] at IH1
            have IH2 := Lib.hid IH1
            clear IH IH1
            go_wp2
            go_roundw
            case rel => exact ⟨j + 1, by omega, by go_num, _, IH2.out⟩
            case measure => simp [intOf]; omega
      · have HE : Hid (j * Wn = Hn * Wn) := by
          have : j = Hn := by omega
          unfold Hid; rw [this]
        have IH2 : Hid (MakeSt q (J (Hn * Wn)) w wr k5 X Y Wn Hn v (madeL ψ X Y Wn (Hn * Wn))) := HE.out ▸ IH.out
        clear IH
        have hml : Hid ((madeL ψ X Y Wn (Hn * Wn)).length = Hn * Wn) := madeL_len _ _ _ _ _
        have hm1 : Hid (1 ≤ Hn * Wn) := Nat.mul_le_mul h3 h1
        generalize hmq : madeL ψ X Y Wn (Hn * Wn) = m at *
        have HMQ := Lib.hid hmq
        clear hmq
        obtain ⟨g, cap, rfl, hown⟩ : ∃ g cap, v = .slice (some ⟨g, 0, none⟩) m.length cap ∧ OwnF wr w.heap.size g cap m := by
          have ho := IH2.out.own
          rcases ho.2 with ⟨_, h0⟩ | ⟨g, cap, cur, rfl, hB, hh, r⟩
          · exfalso
            have := hml.out; have := hm1.out; omega
          · exact ⟨g, cap, rfl, OwnF.base ⟨ho, IH2.out.wf⟩ (by omega)⟩
        have HO := Lib.hid hown
        have hgk : Hid (w.heap.size + 2 ≤ g) := (IH2.out.own.lt g rfl).1
        clear hown
        obtain ⟨c0, c1, c2, c3, c4⟩ := IH2.out.fo.cells
        have FB := IH2.out.rz
        obtain ⟨d0, d1, d2, d3, d4⟩ := FB.cells
        have qf0 := FB.frozen 0
        have qf1 := FB.frozen 1
        have qf2 := FB.frozen 2
        have qf3 := FB.frozen 3
        have qf4 := FB.frozen 4
        clear FB
        have HB := Lib.hid IH2.out.below
        have HJ := Lib.hid IH2.out.st
        clear IH2
        go_wp2
        obtain rfl := HMQ.out
        have hz2 : w.heap.size ≤ wr.heap.size := HB.out.size
        have O2 := HO.out
        have hgk2 := hgk.out
        refine bodyPost_ret (v := fldV X Y Wn Hn (some ⟨g, 0, none⟩) (madeL ψ X Y Wn (Hn * Wn)).length cap) (by simp [results, Tryz.results69, go_sem, *]) rfl ⟨⟨g, cap, rfl, (by have hgg := O2.lt; repeat (first | with_reducible exact O2 | with_reducible refine OwnF.drew ?_ | with_reducible refine OwnF.drewN ?_ _ | (with_reducible refine OwnF.setCell ?_ ?_ _; rotate_left; focus (first | omega | (simp <;> omega))) | with_reducible refine OwnF.alloc ?_ _))⟩, ?_⟩
        have key : ∀ W, Below w.heap.size wr W → But w.heap.size q w W ∧ J (Hn * Wn) W := fun W hb => ⟨HB.out.trans (But.of hb), HST.out _ _ _ hz2 HJ.out hb⟩
        exact key _ (by repeat (first | with_reducible exact Below.refl _ _ | with_reducible apply Below.drew | with_reducible refine below_drewN ?_ _ | (with_reducible refine Below.setCell ?_ ?_ _; rotate_left; focus (first | omega | (simp <;> omega))) | (with_reducible refine Below.alloc ?_ ?_ _; rotate_left; focus (first | omega | (simp <;> omega)))))
end Go.Proofs.YtimhpmccmafnpaaGreat

namespace Go.Proofs.YtimhpmccmafnpaaGreat
open Go.Shelf
open Go.ChangeShapes Go.WideShapes Go.ChangeAt Go.RowKit
open Ieee.Format (fin finE htE allFin allHt all_true all_false finE_ok finE_bad htE_ok htE_far htE_bad mulF subF addF)
set_option linter.unusedVariables false

end Go.Proofs.YtimhpmccmafnpaaGreat

namespace Go.Proofs.YtimhpmccmafnpaaGreat
open Go.ChangeShapes Go.WideShapes Go.ChangeAt Go.RowKit
set_option linter.unusedVariables false

theorem smaller_ok (X Y W H n : Int) (w : World) (hn : 0 ≤ n) (hn2 : n ≤ 64) (hx : -8388608 ≤ X) (hx2 : X ≤ 8388608) (hy : -8388608 ≤ Y) (hy2 : Y ≤ 8388608) (hw : W ≤ 512) (hh : H ≤ 512) (h1 : 1 ≤ W - 2 * n) (h2 : 1 ≤ H - 2 * n) :
    Calls Tryz.prog 185 #[reg X Y W H, .int .i64 n] w fun e w' => e = .returned (.tuple #[reg (X + n) (Y + n) (W - 2 * n) (H - 2 * n), .int .i64 0]) ∧ Below w.heap.size w w' := by
  go_enter Tryz.func185, Tryz.ntmps185
  go_wp2
  exact bodyPost_ret (v := .tuple #[reg (X + n) (Y + n) (W - 2 * n) (H - 2 * n), .int .i64 0]) (by simp [results, Tryz.results185, go_sem, *]) rfl ⟨rfl, (by repeat (first | with_reducible exact Below.refl _ _ | with_reducible apply Below.drew | with_reducible refine below_drewN ?_ _ | (with_reducible refine Below.setCell ?_ ?_ _; rotate_left; focus (first | omega | (simp <;> omega))) | (with_reducible refine Below.alloc ?_ ?_ _; rotate_left; focus (first | omega | (simp <;> omega)))))⟩
end Go.Proofs.YtimhpmccmafnpaaGreat

namespace Go.Proofs.YtimhpmccmafnpaaGreat
open Go.ChangeShapes Go.WideShapes Go.ChangeAt Go.RowKit
set_option linter.unusedVariables false

/-- block 'k' is just a cell's neighbours -/
def Nb5 (w : World) (k : Nat) (a b c d e : Nat) : Prop := w.heap[k]? = some (.cells #[.float .f32 a, .float .f32 b, .float .f32 c, .float .f32 d, .float .f32 e] /-T-/157 (0, 0))
theorem Nb5.cells {w : World} {k a b c d e : Nat} (h : Nb5 w k a b c d e) : w.cell? ⟨k, 0, none⟩ = some (.float .f32 a) ∧ w.cell? ⟨k, 1, none⟩ = some (.float .f32 b) ∧ w.cell? ⟨k, 2, none⟩ = some (.float .f32 c) ∧ w.cell? ⟨k, 3, none⟩ = some (.float .f32 d) ∧ w.cell? ⟨k, 4, none⟩ = some (.float .f32 e) :=
  ⟨cell_of_row w k 0 _ _ _ h, cell_of_row w k 1 _ _ _ h, cell_of_row w k 2 _ _ _ h, cell_of_row w k 3 _ _ _ h, cell_of_row w k 4 _ _ _ h⟩
theorem Nb5.frozen {w : World} {k a b c d e : Nat} (h : Nb5 w k a b c d e) (i : Nat) : w.frozen? ⟨k, i, none⟩ = false := frozen_of_row w k i _ _ h
theorem Nb5.lt {w : World} {k a b c d e : Nat} (h : Nb5 w k a b c d e) : k < w.heap.size := by
  rcases Nat.lt_or_ge k w.heap.size with hlt | hge
  · exact hlt
  · unfold Nb5 at h; rw [Array.getElem?_eq_none hge] at h; cases h

theorem around_world (w : World) (X Y W H : Int) (v : Value) : ∀ W0, W0 = (w.alloc (.cells #[.int .i64 X, .int .i64 Y, .int .i64 W, .int .i64 H, v] /-T-/78)).alloc (.cells #[.float .f32 0, .float .f32 0, .float .f32 0, .float .f32 0, .float .f32 0] /-T-/157) →
    Fld W0 w.heap.size X Y W H v ∧ Nb5 W0 (w.heap.size + 1) 0 0 0 0 0 ∧ Below w.heap.size w W0 ∧ W0.heap.size = w.heap.size + 2 := by
  rintro _ rfl
  refine ⟨(Fld.new w X Y W H v).alloc _, ?_, (by repeat (first | with_reducible exact Below.refl _ _ | with_reducible apply Below.drew | with_reducible refine below_drewN ?_ _ | (with_reducible refine Below.setCell ?_ ?_ _; rotate_left; focus (first | omega | (simp <;> omega))) | (with_reducible refine Below.alloc ?_ ?_ _; rotate_left; focus (first | omega | (simp <;> omega))))), by simp⟩
  have := heap_alloc_new (w.alloc (.cells #[.int .i64 X, .int .i64 Y, .int .i64 W, .int .i64 H, v] /-T-/78)) (.cells #[.float .f32 0, .float .f32 0, .float .f32 0, .float .f32 0, .float .f32 0] /-T-/157)
  unfold Nb5
  simpa using this

set_option maxRecDepth 100000 in
set_option maxHeartbeats 4000000 in
theorem around_any (X Y : Int) (Wn Hn : Nat) (x y : Int) (b o c k : Nat) (l : List Nat) (w : World) (hl : SRow w (some ⟨b, o, none⟩) l) (hw : 1 ≤ Wn) (hw2 : Wn ≤ 512) (hx0 : -8388608 ≤ X) (hx1 : X ≤ 8388608) (hy0 : -8388608 ≤ Y) (hy1 : Y ≤ 8388608) (hx : X ≤ x) (hx' : x < X + 512) (hy : Y ≤ y) (hy' : y < Y + 512)
    (hk : (y - Y) * Wn + x - X = (k : Int)) (k1 : Wn ≤ k) (k2 : k + Wn < l.length) :
    Calls Tryz.prog 164 #[fldV X Y Wn Hn (some ⟨b, o, none⟩) l.length c, .int .i64 x, .int .i64 y] w fun e w' => e = .returned (.agg #[.float .f32 (l.getD (k - Wn) 0), .float .f32 (l.getD (k + Wn) 0), .float .f32 (l.getD (k + 1) 0), .float .f32 (l.getD (k - 1) 0), .float .f32 (l.getD k 0)]) ∧ Below w.heap.size w w' := by
  obtain ⟨M, hM⟩ : ∃ M : Int, (y - Y) * (Wn : Int) = M := ⟨_, rfl⟩
  have hln : l.length ≤ 1099511627776 := hl.1.1
  have HL := Lib.hid hl
  have ek := Lib.hid hk
  rw [hM] at hk
  have m0 : 0 ≤ M := by rw [← hM]; exact Int.mul_nonneg (by omega) (by omega)
  have m1 : M ≤ 1099511627776 + 16777216 := by omega
  have t0 : Hid (IntKind.i64.wrap ((k : Int) - (Wn : Int)) = ((k - Wn : Nat) : Int)) := by unfold Hid; rw [IntKind.wrap_i64]; omega
  have t1 : Hid (IntKind.i64.wrap ((k : Int) + (Wn : Int)) = ((k + Wn : Nat) : Int)) := by unfold Hid; rw [IntKind.wrap_i64]; omega
  have t2 : Hid (IntKind.i64.wrap ((k : Int) + 1) = ((k + 1 : Nat) : Int)) := by unfold Hid; rw [IntKind.wrap_i64]; omega
  have t3 : Hid (IntKind.i64.wrap ((k : Int) - 1) = ((k - 1 : Nat) : Int)) := by unfold Hid; rw [IntKind.wrap_i64]; omega
  have t4 : Hid (IntKind.i64.wrap (IntKind.i64.wrap (IntKind.i64.wrap (IntKind.i64.wrap (y - Y) * (Wn : Int)) + x) - X) = (k : Int)) := by
    unfold Hid
    rw [show IntKind.i64.wrap (y - Y) = y - Y from by rw [IntKind.wrap_i64]; omega, hM, show IntKind.i64.wrap M = M from by rw [IntKind.wrap_i64]; omega]
    rw [show IntKind.i64.wrap (M + x) = M + x from by rw [IntKind.wrap_i64]; omega, IntKind.wrap_i64]; omega
  clear hl t4
  obtain ⟨kn, hkn⟩ : ∃ kn : Nat, k - Wn = kn := ⟨_, rfl⟩
  obtain ⟨ks, hks⟩ : ∃ ks : Nat, k + Wn = ks := ⟨_, rfl⟩
  obtain ⟨ke, hke⟩ : ∃ ke : Nat, k + 1 = ke := ⟨_, rfl⟩
  obtain ⟨kw, hkw⟩ : ∃ kw : Nat, k - 1 = kw := ⟨_, rfl⟩
  rw [hkn] at t0
  rw [hks] at t1
  rw [hke] at t2
  rw [hkw] at t3
  have u0 : kn < l.length := by omega
  have u1 : ks < l.length := by omega
  have u2 : ke < l.length := by omega
  have u3 : kw < l.length := by omega
  have u4 : k < l.length := by omega
  rw [hkn, hks, hke, hkw]

  go_enter Tryz.func164, Tryz.ntmps164
  go_wp2_with fail
  generalize hW0 : (w.alloc (.cells #[.int .i64 X, .int .i64 Y, .int .i64 Wn, .int .i64 Hn, .slice (some ⟨b, o, none⟩) l.length c] /-T-/78)).alloc (.cells #[.float .f32 0, .float .f32 0, .float .f32 0, .float .f32 0, .float .f32 0] /-T-/157) = W0 at *
  obtain ⟨F0, N0, B0, z0⟩ := around_world w X Y Wn Hn _ W0 hW0.symm
  have HN := Lib.hid N0
  have HB := Lib.hid B0
  have L0 := HL.out.below B0
  have a0 := SRow.at_ L0 u0
  have a1 := SRow.at_ L0 u1
  have a2 := SRow.at_ L0 u2
  have a3 := SRow.at_ L0 u3
  have a4 := SRow.at_ L0 u4
  clear HL L0 hW0 B0 N0 hkn hks hke hkw k1 k2
  generalize hv0 : l.getD kn 0 = v0 at *
  have V0 := Lib.hid hv0
  clear hv0
  generalize hv1 : l.getD ks 0 = v1 at *
  have V1 := Lib.hid hv1
  clear hv1
  generalize hv2 : l.getD ke 0 = v2 at *
  have V2 := Lib.hid hv2
  clear hv2
  generalize hv3 : l.getD kw 0 = v3 at *
  have V3 := Lib.hid hv3
  clear hv3
  generalize hv4 : l.getD k 0 = v4 at *
  have V4 := Lib.hid hv4
  clear hv4
  obtain ⟨c0, c1, c2, c3, c4⟩ := F0.cells
  have lz0 : w.heap.size < W0.heap.size := by omega
  have lz1 : w.heap.size + 1 < W0.heap.size := by omega
  have s0 := t0.out
  have s1 := t1.out
  have s2 := t2.out
  have s3 := t3.out
  clear t0 t1 t2 t3 F0 ek hk hM
  go_still_tail 36, (by kernel_rfl)
  change wpList _ _ _ _ _ W0.drew
  have q0 := HN.out.frozen 0
  have q1 := HN.out.frozen 1
  have q2 := HN.out.frozen 2
  have q3 := HN.out.frozen 3
  have q4 := HN.out.frozen 4
  clear a0 a1 a2 a3 a4 c0 c1 c2 c3 c4 s0 s1 s2 s3
  obtain ⟨d0, d1, d2, d3, d4⟩ := HN.out.cells
  go_wp2_with fail
  have B0 := HB.out
  have E0 := V0.out
  have E1 := V1.out
  have E2 := V2.out
  have E3 := V3.out
  have E4 := V4.out
  refine bodyPost_ret (v := .agg #[.float .f32 v0, .float .f32 v1, .float .f32 v2, .float .f32 v3, .float .f32 v4]) (by simp [results, Tryz.results164, go_sem, *]) rfl ⟨by rw [E0, E1, E2, E3, E4], (by have hszz := B0.size; repeat (first | with_reducible exact B0 | with_reducible apply Below.drew | with_reducible refine below_drewN ?_ _ | (with_reducible refine Below.setCell ?_ ?_ _; rotate_left; focus (first | omega | (simp <;> omega))) | (with_reducible refine Below.alloc ?_ ?_ _; rotate_left; focus (first | omega | (simp <;> omega)))))⟩
end Go.Proofs.YtimhpmccmafnpaaGreat


namespace Go.Proofs.YtimhpmccmafnpaaGreat
open Go.ChangeShapes Go.WideShapes Go.ChangeAt Go.RowKit
open Ieee.Format (fin finE htE allFin allHt all_true all_false finE_ok finE_bad htE_ok htE_far htE_bad easeF ease1 ease2 ease3 mulF subF addF)
set_option linter.unusedVariables false

def lss (x y : Nat) : Bool := FloatKind.f32.format.order x y == some .lt
def gtr (x y : Nat) : Bool := FloatKind.f32.format.order x y == some .gt
def shareE (t : Nat) : Int := if fin Ieee.single t then (if lss t 0 || gtr t 1065353216 then 3 else 0) else 2
theorem shareE_bad {t : Nat} (h : ¬ fin Ieee.single t) : shareE t = 2 := by unfold shareE; rw [if_neg h]
theorem shareE_far {t : Nat} (h : fin Ieee.single t) (h2 : (lss t 0 || gtr t 1065353216) = true) : shareE t = 3 := by unfold shareE; rw [if_pos h, if_pos h2]
theorem shareE_ok {t : Nat} (h : fin Ieee.single t) (h2 : (lss t 0 || gtr t 1065353216) = false) : shareE t = 0 := by unfold shareE; rw [if_pos h, h2]; rfl

theorem row_one (w : World) (x : Nat) (hx : x < 4294967296) (t : TypeId) : SRow (w.alloc (.cells #[.float .f32 x] t)) (some ⟨w.heap.size, 0, none⟩) [x] := by
  refine ⟨⟨by simp, by simpa using hx⟩, .inr ⟨w.heap.size, 0, rfl, ?_⟩⟩
  intro i hi
  have : i = 0 := by simp at hi; omega
  subst this
  simp

theorem share_any (t : Nat) (ht : t < 4294967296) (w : World) : Calls Tryz.prog 39 #[.float .f32 t] w fun e w' => e = .returned (.int .i64 (shareE t)) ∧ Below w.heap.size w w' := by
  have K := Lib.hid (fun w c => finites_any (some ⟨w.heap.size, 0, none⟩) c [t] (w.alloc (.cells #[.float .f32 t] /-T-/46)) (row_one w t ht _))
  by_cases hf : fin Ieee.single t
  · have e1 : finE [t] = 0 := finE_ok (by unfold allFin; simp [hf])
    rw [e1] at K
    cases hl : lss t 0 with
    | true =>
      have hE := Lib.hid (shareE_far hf (by rw [hl]; rfl))
      change (FloatKind.f32.format.order t 0 == some .lt) = true at hl
      clear hf e1 ht
      go_enter Tryz.func39, Tryz.ntmps39
      go_wp2_with (go_at_call 40; refine (K.out _ _).mono ?_; rintro e w' ⟨rfl, rfl⟩)
      go_ret
      exact ⟨ret_i64 hE.out.symm, (by repeat (first | with_reducible exact Below.refl _ _ | with_reducible apply Below.drew | with_reducible refine below_drewN ?_ _ | (with_reducible refine Below.setCell ?_ ?_ _; rotate_left; focus (simp <;> omega)) | (with_reducible refine Below.alloc ?_ ?_ _; rotate_left; focus (simp <;> omega))))⟩
    | false =>
      cases hg : gtr t 1065353216 with
      | true =>
        have hE := Lib.hid (shareE_far hf (by rw [hl, hg]; rfl))
        change (FloatKind.f32.format.order t 0 == some .lt) = false at hl
        change (FloatKind.f32.format.order t 1065353216 == some .gt) = true at hg
        clear hf e1 ht
        go_enter Tryz.func39, Tryz.ntmps39
        go_wp2_with (go_at_call 40; refine (K.out _ _).mono ?_; rintro e w' ⟨rfl, rfl⟩)
        go_ret
        exact ⟨ret_i64 hE.out.symm, (by repeat (first | with_reducible exact Below.refl _ _ | with_reducible apply Below.drew | with_reducible refine below_drewN ?_ _ | (with_reducible refine Below.setCell ?_ ?_ _; rotate_left; focus (simp <;> omega)) | (with_reducible refine Below.alloc ?_ ?_ _; rotate_left; focus (simp <;> omega))))⟩
      | false =>
        have hE := Lib.hid (shareE_ok hf (by rw [hl, hg]; rfl))
        change (FloatKind.f32.format.order t 0 == some .lt) = false at hl
        change (FloatKind.f32.format.order t 1065353216 == some .gt) = false at hg
        clear hf e1 ht
        go_enter Tryz.func39, Tryz.ntmps39
        go_wp2_with (go_at_call 40; refine (K.out _ _).mono ?_; rintro e w' ⟨rfl, rfl⟩)
        go_ret
        exact ⟨ret_i64 hE.out.symm, (by repeat (first | with_reducible exact Below.refl _ _ | with_reducible apply Below.drew | with_reducible refine below_drewN ?_ _ | (with_reducible refine Below.setCell ?_ ?_ _; rotate_left; focus (simp <;> omega)) | (with_reducible refine Below.alloc ?_ ?_ _; rotate_left; focus (simp <;> omega))))⟩
  · have e1 : finE [t] = 2 := finE_bad (by unfold allFin; simp [hf])
    rw [e1] at K
    have hE := Lib.hid (shareE_bad hf)
    clear hf e1 ht
    go_enter Tryz.func39, Tryz.ntmps39
    go_wp2_with (go_at_call 40; refine (K.out _ _).mono ?_; rintro e w' ⟨rfl, rfl⟩)
    go_ret
    exact ⟨ret_i64 hE.out.symm, (by repeat (first | with_reducible exact Below.refl _ _ | with_reducible apply Below.drew | with_reducible refine below_drewN ?_ _ | (with_reducible refine Below.setCell ?_ ?_ _; rotate_left; focus (simp <;> omega)) | (with_reducible refine Below.alloc ?_ ?_ _; rotate_left; focus (simp <;> omega))))⟩

/-- a share: finite and from 0 to 1 -/
def Share (t : Nat) : Prop := fin Ieee.single t ∧ 0 ≤ Ieee.single.V t ∧ Ieee.single.V t ≤ 1
theorem share_of {t : Nat} (h : fin Ieee.single t) (h2 : (lss t 0 || gtr t 1065353216) = false) : Share t := by
  have a : lss t 0 = decide (Ieee.single.V t < Ieee.single.V 0) := Ieee.single.order_lt h Ieee.Format.const_0.1
  have b : gtr t 1065353216 = decide (Ieee.single.V 1065353216 < Ieee.single.V t) := Ieee.single.order_gt h Ieee.Format.const_1.1
  rw [a, b, Ieee.Format.const_0.2.1, Ieee.Format.const_1.2.1, Bool.or_eq_false_iff] at h2
  have c := of_decide_eq_false h2.1
  have d := of_decide_eq_false h2.2
  exact ⟨h, by grind, by grind⟩

theorem ease_any (t : Nat) (ht : Share t) (w : World) : Calls Tryz.prog 197 #[.float .f32 t] w fun e w' => e = .returned (.float .f32 (easeF t)) ∧ w = w' := by
  obtain ⟨h0, h1, h2⟩ := ht
  obtain ⟨a, b, c, d, _⟩ := Ieee.Format.ease_ok h0 h1 h2
  have k1 := fun w => run_float_arith (P := Tryz.prog) w .mul 46 .f32 t t (ease1 t) (Ieee.Format.bits_mul h0 h0)
  have k2 := fun w => run_float_arith (P := Tryz.prog) w .mul 46 .f32 1073741824 t (ease2 t) (Ieee.Format.bits_mul Ieee.Format.const_2.1 h0)
  have k3 := fun w => run_float_arith (P := Tryz.prog) w .sub 46 .f32 1077936128 (ease2 t) (ease3 t) (Ieee.Format.bits_sub Ieee.Format.const_3.1 b)
  have k4 := fun w => run_float_arith (P := Tryz.prog) w .mul 46 .f32 (ease1 t) (ease3 t) (easeF t) (Ieee.Format.bits_mul a c)
  clear a b c d h0 h1 h2
  generalize ease1 t = x1 at *
  generalize ease2 t = x2 at *
  generalize ease3 t = x3 at *
  generalize easeF t = x4 at *
  go_enter Tryz.func197, Tryz.ntmps197
  go_wp2
  go_ret
  exact ⟨rfl, rfl⟩

theorem Ease_yes (t : Nat) (ht : t < 4294967296) (h : shareE t = 0) (hs : Share t) (w : World) : Calls Tryz.prog 183 #[.float .f32 t] w fun e w' => e = .returned (.tuple #[.float .f32 (easeF t), .int .i64 0]) ∧ Below w.heap.size w w' := by
  have K := Lib.hid (fun w => share_any t ht w)
  have K2 := Lib.hid (fun w => ease_any t hs w)
  rw [h] at K
  clear h ht hs
  generalize easeF t = x at *
  go_enter Tryz.func183, Tryz.ntmps183
  go_wp2_with (first | (go_at_call 39; refine (K.out _).mono ?_; rintro e w1 ⟨rfl, hbel⟩) | (go_at_call 197; refine (K2.out _).mono ?_; rintro e w1 ⟨rfl, rfl⟩))
  go_ret2
  exact ⟨rfl, hbel⟩

end Go.Proofs.YtimhpmccmafnpaaGreat
