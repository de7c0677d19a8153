import Derived.Test.YtgeeaegnohdejaaMakeInv
import Derived.OwnWalk
namespace Go.Proofs.Ytgeeaegnohdejaa
open Go.ChangeShapes Go.WideShapes Go.ChangeAt Go.RowKit
open Ieee.Format (fin finE htE allFin allHt all_true all_false finE_ok finE_bad htE_ok htE_far htE_bad mulF subF addF)
set_option linter.unusedVariables false

set_option maxRecDepth 100000 in
theorem make_law (i0 : TypeInfo) (hi : Try.prog.info? /-T-/24 = some i0) (hz0 : i0.zero = some (.float .f32 0)) (hz1 : i0.size = 1) (hz2 : i0.bytes = 4) (n : Nat) (hn : n ≤ 262144) :
    ∃ o : Obj, (∀ w : World, (Instr.makeSlice /-T-/64 (.int .i64 0) (.int .i64 (n : Int))).run Try.prog w = .ok (.slice (some ⟨w.heap.size, 0, none⟩) 0 n) (w.alloc o)) ∧
      ∀ (w : World) (B : Nat), B ≤ w.heap.size → (w.alloc o).ownsRow B /-T-/24 1 (.slice (some ⟨w.heap.size, 0, none⟩) 0 n) 0 [] := by
  refine ⟨.cells (madeCells (Value.cells (.float .f32 0)) (n * i0.size)) /-T-/24, fun w => ?_, fun w B hB => ?_⟩
  · have hr := run_make (P := Try.prog) w /-T-/64 /-T-/24 i0 (.float .f32 0) (by rfl) hi hz0 .i64 .i64 0 n (Int.le_refl _) (by omega) (by rw [hz2]; omega) (by omega)
    simp only [Int.toNat_zero, Int.toNat_natCast] at hr
    exact hr
  · rw [hz1]
    exact World.ownsRow_made w _ n hB (by unfold maxLen; omega) (size_madeCells _ _)

theorem make_start1 (w : World) (X Y W H : Int) (oM : Obj) (n : Nat) (hm : ∀ (w : World) (B : Nat), B ≤ w.heap.size → (w.alloc oM).ownsRow B /-T-/24 1 (.slice (some ⟨w.heap.size, 0, none⟩) 0 n) 0 []) :
    ∀ W0, W0 = ((((w.alloc (.cells #[.int .i64 X, .int .i64 Y, .int .i64 W, .int .i64 H] /-T-/30)).alloc (.cells #[.int .i64 0, .int .i64 0, .int .i64 0, .int .i64 0, .slice none 0 0] /-T-/66)).alloc (.cells #[.int .i64 X, .int .i64 Y, .int .i64 W, .int .i64 H, .slice (some ⟨w.heap.size + 1 + 1 + 1, 0, none⟩) 0 n] /-T-/66)).alloc oM) →
    MakeInv w W0 (w.heap.size + 1 + 1) X Y W H (.slice (some ⟨w.heap.size + 1 + 1 + 1, 0, none⟩) 0 n) [] := by
  rintro _ rfl
  refine ⟨(((Reg.new w X Y W H).alloc _).alloc _).alloc _, ?_, ?_, by omega, by simp [Value.ownBlock], ?_, by simp, (by repeat (first | with_reducible exact Below.refl _ _ | with_reducible apply Below.drew | with_reducible refine below_drewN ?_ _ | (with_reducible refine Below.setCell ?_ ?_ _; rotate_left; focus (first | omega | (simp <;> omega))) | (with_reducible refine Below.alloc ?_ ?_ _; rotate_left; focus (first | omega | (simp <;> omega)))))⟩
  · have := ((Fld.new (w.alloc (.cells #[.int .i64 X, .int .i64 Y, .int .i64 W, .int .i64 H] /-T-/30)) 0 0 0 0 (.slice none 0 0)).alloc (.cells #[.int .i64 X, .int .i64 Y, .int .i64 W, .int .i64 H, .slice (some ⟨w.heap.size + 1 + 1 + 1, 0, none⟩) 0 n] /-T-/66)).alloc oM
    simpa using this
  · have := (Fld.new ((w.alloc (.cells #[.int .i64 X, .int .i64 Y, .int .i64 W, .int .i64 H] /-T-/30)).alloc (.cells #[.int .i64 0, .int .i64 0, .int .i64 0, .int .i64 0, .slice none 0 0] /-T-/66)) X Y W H (.slice (some ⟨w.heap.size + 1 + 1 + 1, 0, none⟩) 0 n)).alloc oM
    simpa using this
  · have := hm (((w.alloc (.cells #[.int .i64 X, .int .i64 Y, .int .i64 W, .int .i64 H] /-T-/30)).alloc (.cells #[.int .i64 0, .int .i64 0, .int .i64 0, .int .i64 0, .slice none 0 0] /-T-/66)).alloc (.cells #[.int .i64 X, .int .i64 Y, .int .i64 W, .int .i64 H, .slice (some ⟨w.heap.size + 1 + 1 + 1, 0, none⟩) 0 n] /-T-/66)) (w.heap.size + 2) (by simp)
    simpa [fls] using this
theorem make_start2 (w : World) (X Y W H : Int) (oM : Obj) (n : Nat) (hm : ∀ (w : World) (B : Nat), B ≤ w.heap.size → (w.alloc oM).ownsRow B /-T-/24 1 (.slice (some ⟨w.heap.size, 0, none⟩) 0 n) 0 []) :
    ∀ W0, W0 = ((((w.alloc (.cells #[.int .i64 X, .int .i64 Y, .int .i64 W, .int .i64 H] /-T-/30)).alloc (.cells #[.int .i64 0, .int .i64 0, .int .i64 0, .int .i64 0, .slice none 0 0] /-T-/66)).alloc oM).alloc (.cells #[.int .i64 X, .int .i64 Y, .int .i64 W, .int .i64 H, .slice (some ⟨w.heap.size + 1 + 1, 0, none⟩) 0 n] /-T-/66)) →
    MakeInv w W0 (w.heap.size + 1 + 1 + 1) X Y W H (.slice (some ⟨w.heap.size + 1 + 1, 0, none⟩) 0 n) [] := by
  rintro _ rfl
  refine ⟨(((Reg.new w X Y W H).alloc _).alloc _).alloc _, ?_, ?_, by omega, by simp [Value.ownBlock], ?_, by simp, (by repeat (first | with_reducible exact Below.refl _ _ | with_reducible apply Below.drew | with_reducible refine below_drewN ?_ _ | (with_reducible refine Below.setCell ?_ ?_ _; rotate_left; focus (first | omega | (simp <;> omega))) | (with_reducible refine Below.alloc ?_ ?_ _; rotate_left; focus (first | omega | (simp <;> omega)))))⟩
  · have := ((Fld.new (w.alloc (.cells #[.int .i64 X, .int .i64 Y, .int .i64 W, .int .i64 H] /-T-/30)) 0 0 0 0 (.slice none 0 0)).alloc oM).alloc (.cells #[.int .i64 X, .int .i64 Y, .int .i64 W, .int .i64 H, .slice (some ⟨w.heap.size + 1 + 1, 0, none⟩) 0 n] /-T-/66)
    simpa using this
  · have := Fld.new (((w.alloc (.cells #[.int .i64 X, .int .i64 Y, .int .i64 W, .int .i64 H] /-T-/30)).alloc (.cells #[.int .i64 0, .int .i64 0, .int .i64 0, .int .i64 0, .slice none 0 0] /-T-/66)).alloc oM) X Y W H (.slice (some ⟨w.heap.size + 1 + 1, 0, none⟩) 0 n)
    simpa using this
  · have h := hm ((w.alloc (.cells #[.int .i64 X, .int .i64 Y, .int .i64 W, .int .i64 H] /-T-/30)).alloc (.cells #[.int .i64 0, .int .i64 0, .int .i64 0, .int .i64 0, .slice none 0 0] /-T-/66)) (w.heap.size + 2) (by simp)
    have := World.ownsRow.alloc h (.cells #[.int .i64 X, .int .i64 Y, .int .i64 W, .int .i64 H, .slice (some ⟨w.heap.size + 1 + 1, 0, none⟩) 0 n] /-T-/66)
    simpa [fls] using this

theorem MakeInv.drew {w wr : World} {k5 : Nat} {X Y W H : Int} {v : Value} {m : List Nat} (h : MakeInv w wr k5 X Y W H v m) : MakeInv w wr.drew k5 X Y W H v m :=
  ⟨h.rg, h.rz, h.fo, h.k5g, h.ne, h.own, h.wf, h.below.drew⟩
/-- what field.Make gives -/
def MakeP (X Y W H : Int) (m : List Nat) (w : World) (e : Ending) (w' : World) : Prop :=
  (∃ g cap, e = .returned (fldV X Y W H (some ⟨g, 0, none⟩) m.length cap) ∧ OwnF w' w.heap.size g cap m) ∧ Below w.heap.size w w'

set_option maxRecDepth 100000 in
set_option maxHeartbeats 4000000 in
theorem make_any (gn : Nat) (caps : Array Value) (ψ : Int → Int → Nat) (X Y : Int) (Wn Hn : Nat) (w : World) (h1 : 1 ≤ Wn) (h2 : Wn ≤ 512) (h3 : 1 ≤ Hn) (h4 : Hn ≤ 512)
    (h5 : -8388608 ≤ X) (h6 : X ≤ 8388608) (h7 : -8388608 ≤ Y) (h8 : Y ≤ 8388608)
    (eg : ∀ args w, (callFunc gn args).run Try.prog w = .ok (.enter gn args) w)
    (hψ : ∀ x y, X ≤ x → x < X + Wn → Y ≤ y → y < Y + Hn → ψ x y < 4294967296)
    (hf : ∀ x y, X ≤ x → x < X + Wn → Y ≤ y → y < Y + Hn → ∀ W', Below w.heap.size w W' → Calls Try.prog gn (#[.int .i64 x, .int .i64 y] ++ caps) W' fun e w' => e = .returned (.float .f32 (ψ x y)) ∧ Below W'.heap.size W' w') :
    Calls Try.prog 107 #[reg X Y Wn Hn, .func (.func gn) #[] caps] w fun e w' => MakeP X Y Wn Hn (madeL ψ X Y Wn (Hn * Wn)) w e w' := by
  have HF := Lib.hid hf
  have HP := Lib.hid hψ
  clear hf hψ
  obtain ⟨i0, hi, hz0, hz1, hz2⟩ := info_parts info24
  obtain ⟨n, hn, hn2, hn3⟩ : ∃ n : Nat, IntKind.i64.wrap ((Wn : Int) * (Hn : Int)) = (n : Int) ∧ n = Hn * Wn ∧ n ≤ 262144 := by
    have h3 : Hn * Wn ≤ 512 * 512 := Nat.mul_le_mul (by omega) (by omega)
    refine ⟨Hn * Wn, ?_, rfl, by omega⟩
    rw [show (Wn : Int) * (Hn : Int) = ((Hn * Wn : Nat) : Int) from by rw [Int.natCast_mul, Int.mul_comm]]
    rw [IntKind.wrap_i64]; omega
  have HN := Lib.hid hn2
  clear hn2
  obtain ⟨oM, hmk, hMO⟩ := make_law i0 hi hz0 hz1 hz2 n hn3
  have HMO := Lib.hid hMO
  clear hMO
  go_enter Try.func107, Try.ntmps107
  go_wp2_with fail
  go_region
  all_goals
    first
      | (obtain ⟨W0, hW0⟩ : ∃ W0 : World, (((w.alloc (.cells #[.int .i64 X, .int .i64 Y, .int .i64 (Wn : Int), .int .i64 (Hn : Int)] /-T-/30)).alloc (.cells #[.int .i64 0, .int .i64 0, .int .i64 0, .int .i64 0, .slice none 0 0] /-T-/66)).alloc (.cells #[.int .i64 X, .int .i64 Y, .int .i64 Wn, .int .i64 Hn, .slice (some ⟨w.heap.size + 1 + 1 + 1, 0, none⟩) 0 n] /-T-/66)).alloc oM = W0 := ⟨_, rfl⟩
         rw [hW0]
         have I0 := (make_start1 w X Y Wn Hn oM n HMO.out W0 hW0.symm).drew
         have hk5 := Lib.hid I0.k5g
         generalize w.heap.size + 1 + 1 = k5 at *)
      | (obtain ⟨W0, hW0⟩ : ∃ W0 : World, (((w.alloc (.cells #[.int .i64 X, .int .i64 Y, .int .i64 (Wn : Int), .int .i64 (Hn : Int)] /-T-/30)).alloc (.cells #[.int .i64 0, .int .i64 0, .int .i64 0, .int .i64 0, .slice none 0 0] /-T-/66)).alloc oM).alloc (.cells #[.int .i64 X, .int .i64 Y, .int .i64 Wn, .int .i64 Hn, .slice (some ⟨w.heap.size + 1 + 1, 0, none⟩) 0 n] /-T-/66) = W0 := ⟨_, rfl⟩
         rw [hW0]
         have I0 := (make_start2 w X Y Wn Hn oM n HMO.out W0 hW0.symm).drew
         have hk5 := Lib.hid I0.k5g
         generalize w.heap.size + 1 + 1 + 1 = k5 at *)
    clear hW0
    generalize W0.drew = W1 at *
    clear HMO hmk hn
    obtain ⟨q0, q1, q2, q3⟩ := I0.rg.cells
    go_wp2_with fail
    clear q0 q1 q2 q3
    go_loopw [6, 7] (fun vy _ wr => ∃ j : Nat, j ≤ Hn ∧ vy = .int .i64 (Y + j) ∧ ∃ v, MakeInv w wr k5 X Y Wn Hn v (madeL ψ X Y Wn (j * Wn))) (fun vy _ _ => (Y + Hn - intOf vy).toNat)
    case atStart => exact ⟨0, by omega, by simp, _, by rw [Nat.zero_mul]; exact I0⟩
    case round =>
      clear I0
      obtain ⟨j, hj, rfl, v, I⟩ := hrel
      have IH := Lib.hid I
      obtain ⟨r0, r1, r2, r3⟩ := I.rg.cells
      clear I
      by_cases hlt : j < Hn
      · have b1 : (Y + j : Int) < Y + Hn := by omega
        go_wp2
        obtain ⟨wo, rfl⟩ : ∃ wo : World, wo = wr := ⟨_, rfl⟩
        clear r0 r1 r2 r3 hj
        go_loopw [7] (fun vx wi => ∃ i : Nat, i ≤ Wn ∧ vx = .int .i64 (X + i) ∧ ∃ v, MakeInv w wi k5 X Y Wn Hn v (madeL ψ X Y Wn (j * Wn + i))) (fun vx _ => (X + Wn - intOf vx).toNat)
        case atStart => exact ⟨0, by omega, by simp, v, by rw [Nat.add_zero]; exact IH.out⟩
        case round =>
          clear IH v
          obtain ⟨i, hi', rfl, v, I⟩ := hrel
          obtain ⟨r0, r1, r2, r3⟩ := I.rg.cells
          have c4 := I.fo.cells.2.2.2.2
          have IH := Lib.hid I
          clear I
          by_cases hlt2 : i < Wn
          · have b2 : (X + i : Int) < X + Wn := by omega
            have HC : Hid (∀ W', Below w.heap.size w W' → Calls Try.prog gn (#[.int .i64 (X + (i : Int)), .int .i64 (Y + (j : Int))] ++ caps) W' fun e w' => e = .returned (.float .f32 (ψ (X + (i : Int)) (Y + (j : Int)))) ∧ Below W'.heap.size W' w') := HF.out _ _ (by omega) (by omega) (by omega) (by omega)
            have HY : Hid (ψ (X + (i : Int)) (Y + (j : Int)) < 4294967296) := HP.out _ _ (by omega) (by omega) (by omega) (by omega)
            have HM : Hid (madeL ψ X Y Wn (j * Wn + i) ++ [ψ (X + (i : Int)) (Y + (j : Int))] = madeL ψ X Y Wn (j * Wn + (i + 1))) := (madeL_succ ψ X Y Wn i j hlt2).symm
            have hml : (madeL ψ X Y Wn (j * Wn + i)).length ≤ 262656 := by
              rw [madeL_len]
              have := Nat.mul_le_mul (show j ≤ 512 by omega) h2
              omega
            generalize madeL ψ X Y Wn (j * Wn + i) = m at *
            generalize ψ (X + (i : Int)) (Y + (j : Int)) = y0 at *
            have HB := Lib.hid IH.out.below
            have G1 : Hid (m.length + 1 ≤ maxLen) := by unfold maxLen Hid; omega
            have G2 : Hid ((m.length + 1) * 4 ≤ 140737488355328) := by unfold Hid; omega
            go_wp2_with fail
            go_region_law (first
              | (refine step_append_lies _ (by rfl) _ _ _ (by rfl) (w.heap.size + 2) /-T-/24 i0 (.float .f32 0) 1 4 Try.underlying64 hi hz0 hz1 hz2 rfl (by omega) v m.length (fls m) (by rfl) (I2.out.own.alloc _) ⟨w2.heap.size, 0, none⟩ 1 1 [.float .f32 y0] (by rfl) (by rfl) (World.news_of_block (cs := #[.float .f32 y0]) (t := /-T-/24) (fr := (0, 0)) (heap_alloc_new w2 _)) (by simp [Value.oneCell']) (by omega) G1.out G2.out G3.out (w2.heap.size + 1) (by simp) ?_; intro gg cap w3 hown3 hgrow3 hat3 hlt3; obtain ⟨e1, e2, e3, e4⟩ := I2.out.mid hgrow3; have e5 := e3.cells.2.2.2.2; have e6 := e3.frozen 4; have hgk : gg ≠ k5 := (by rcases hat3 with h | h; exact (fun e => I2.out.ne (e ▸ h)); exact (fun e => by have := lzz.out; omega)); have M3 := Lib.hid (I2.out.app HY.out hown3 hgrow3 hgk); clear e1 e2 e3 e4 hown3 hgrow3 hat3 hlt3 hgk)
              | (go_simp; go_at_fn gn; refine (HC.out _ HB.out.drew).mono ?_; rintro e2 w2 ⟨rfl, hb⟩; have I2 := Lib.hid (IH.out.call hb); have G3 : Hid (w.heap.size + 2 ≤ (w2.alloc (.cells #[.float .f32 y0] /-T-/24)).heap.size) := (by have := I2.out.fo.lt; have := I2.out.k5g; unfold Hid; simp; omega); have d4 := I2.out.fo.cells.2.2.2.2; have lz : k5 < w2.heap.size := I2.out.fo.lt; have lzz := Lib.hid lz; clear hb))
            all_goals
              go_wp2
              go_roundw
              case rel => exact ⟨i + 1, by omega, by go_num, _, HM.out ▸ M3.out⟩
              case measure => simp [intOf]; omega
          · have HE : Hid (j * Wn + i = (j + 1) * Wn) := by
              have : i = Wn := by omega
              unfold Hid; rw [this, Nat.add_mul, Nat.one_mul]
            have IH1 := IH.out
            rw [HE.out] at IH1
            have IH2 := Lib.hid IH1
            clear IH IH1
            go_wp2
            go_roundw
            case rel => exact ⟨j + 1, by omega, by go_num, _, IH2.out⟩
            case measure => simp [intOf]; omega
      · have HE : Hid (j * Wn = Hn * Wn) := by
          have : j = Hn := by omega
          unfold Hid; rw [this]
        have IH2 : Hid (MakeInv w wr k5 X Y Wn Hn v (madeL ψ X Y Wn (Hn * Wn))) := HE.out ▸ IH.out
        clear IH
        have hml : Hid ((madeL ψ X Y Wn (Hn * Wn)).length = Hn * Wn) := madeL_len _ _ _ _ _
        have hm1 : Hid (1 ≤ Hn * Wn) := Nat.mul_le_mul h3 h1
        generalize hmq : madeL ψ X Y Wn (Hn * Wn) = m at *
        have HMQ := Lib.hid hmq
        clear hmq
        obtain ⟨g, cap, rfl, hown⟩ : ∃ g cap, v = .slice (some ⟨g, 0, none⟩) m.length cap ∧ OwnF wr w.heap.size g cap m := by
          have ho := IH2.out.own
          rcases ho.2 with ⟨_, h0⟩ | ⟨g, cap, cur, rfl, hB, hh, r⟩
          · exfalso
            have := hml.out; have := hm1.out; omega
          · exact ⟨g, cap, rfl, OwnF.base ⟨ho, IH2.out.wf⟩ (by omega)⟩
        have HO := Lib.hid hown
        have hgk : Hid (w.heap.size + 2 ≤ g) := (IH2.out.own.lt g rfl).1
        clear hown
        obtain ⟨c0, c1, c2, c3, c4⟩ := IH2.out.fo.cells
        have FB := IH2.out.rz
        obtain ⟨d0, d1, d2, d3, d4⟩ := FB.cells
        have qf0 := FB.frozen 0
        have qf1 := FB.frozen 1
        have qf2 := FB.frozen 2
        have qf3 := FB.frozen 3
        have qf4 := FB.frozen 4
        clear FB
        have HB := Lib.hid IH2.out.below
        clear IH2
        go_wp2
        obtain rfl := HMQ.out
        have B2 := HB.out
        have O2 := HO.out
        have hgk2 := hgk.out
        refine bodyPost_ret (v := fldV X Y Wn Hn (some ⟨g, 0, none⟩) (madeL ψ X Y Wn (Hn * Wn)).length cap) (by simp [results, Try.results107, go_sem, *]) rfl ⟨⟨g, cap, rfl, (by have hgg := O2.lt; repeat (first | with_reducible exact O2 | with_reducible refine OwnF.drew ?_ | with_reducible refine OwnF.drewN ?_ _ | (with_reducible refine OwnF.setCell ?_ ?_ _; rotate_left; focus (first | omega | (simp <;> omega))) | with_reducible refine OwnF.alloc ?_ _))⟩, (by have hszz := B2.size; repeat (first | with_reducible exact B2 | with_reducible apply Below.drew | with_reducible refine below_drewN ?_ _ | (with_reducible refine Below.setCell ?_ ?_ _; rotate_left; focus (first | omega | (simp <;> omega))) | (with_reducible refine Below.alloc ?_ ?_ _; rotate_left; focus (first | omega | (simp <;> omega)))))⟩
end Go.Proofs.Ytgeeaegnohdejaa
