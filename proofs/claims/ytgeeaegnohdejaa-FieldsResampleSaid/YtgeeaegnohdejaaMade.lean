import Derived.Test.YtgeeaegnohdejaaMadeInv
namespace Go.Proofs.Ytgeeaegnohdejaa
open Go.ChangeShapes Go.WideShapes Go.ChangeAt Go.RowKit
open Ieee.Format (fin finE htE allFin allHt all_true all_false finE_ok finE_bad htE_ok htE_far htE_bad mulF subF addF)
set_option linter.unusedVariables false

theorem made_start (w : World) (X Y W H : Int) : ∀ W0, W0 = ((w.alloc (.cells #[.int .i64 X, .int .i64 Y, .int .i64 W, .int .i64 H] /-T-/30)).alloc (.cells #[.int .i64 0, .int .i64 0, .int .i64 0, .int .i64 0, .slice none 0 0] /-T-/66)).alloc (.cells #[.int .i64 X, .int .i64 Y, .int .i64 W, .int .i64 H, .slice none 0 0] /-T-/66) → MadeInv w W0 X Y W H (.slice none 0 0) [] := by
  rintro _ rfl
  refine ⟨((Reg.new w X Y W H).alloc _).alloc _, ?_, ?_, World.ownsRow_nil _ _ _ _, by simp, (by repeat (first | with_reducible exact Below.refl _ _ | with_reducible apply Below.drew | with_reducible refine below_drewN ?_ _ | (with_reducible refine Below.setCell ?_ ?_ _; rotate_left; focus (first | omega | (simp <;> omega))) | (with_reducible refine Below.alloc ?_ ?_ _; rotate_left; focus (first | omega | (simp <;> omega)))))⟩
  · have := (Fld.new (w.alloc (.cells #[.int .i64 X, .int .i64 Y, .int .i64 W, .int .i64 H] /-T-/30)) 0 0 0 0 (.slice none 0 0)).alloc (.cells #[.int .i64 X, .int .i64 Y, .int .i64 W, .int .i64 H, .slice none 0 0] /-T-/66)
    simpa using this
  · have := Fld.new ((w.alloc (.cells #[.int .i64 X, .int .i64 Y, .int .i64 W, .int .i64 H] /-T-/30)).alloc (.cells #[.int .i64 0, .int .i64 0, .int .i64 0, .int .i64 0, .slice none 0 0] /-T-/66)) X Y W H (.slice none 0 0)
    simpa using this

/-- what the reference's 'made' returns of the values 'm' -/
def MadeP (X Y W H : Int) (m : List Nat) (w : World) (e : Ending) (w' : World) : Prop :=
  (outE m = 0 → ∃ g cap, e = .returned (.tuple #[fldV X Y W H (some ⟨g, 0, none⟩) m.length cap, .int .i64 0]) ∧ OwnF w' w.heap.size g cap m) ∧
  (outE m ≠ 0 → e = .returned (.tuple #[fldV 0 0 0 0 none 0 0, .int .i64 3])) ∧ Below w.heap.size w w'

set_option maxRecDepth 100000 in
set_option maxHeartbeats 4000000 in
theorem made_any (gn : Nat) (caps : Array Value) (ψ : Int → Int → Nat) (X Y : Int) (Wn Hn : Nat) (w : World) (h1 : 1 ≤ Wn) (h2 : Wn ≤ 512) (h3 : 1 ≤ Hn) (h4 : Hn ≤ 512)
    (h5 : -8388608 ≤ X) (h6 : X ≤ 8388608) (h7 : -8388608 ≤ Y) (h8 : Y ≤ 8388608)
    (eg : ∀ args w, (callFunc gn args).run Try.prog w = .ok (.enter gn args) w)
    (hψ : ∀ x y, X ≤ x → x < X + Wn → Y ≤ y → y < Y + Hn → ψ x y < 4294967296)
    (hf : ∀ x y, X ≤ x → x < X + Wn → Y ≤ y → y < Y + Hn → ∀ W', Below w.heap.size w W' → Calls Try.prog gn (#[.int .i64 x, .int .i64 y] ++ caps) W' fun e w' => e = .returned (.float .f32 (ψ x y)) ∧ Below W'.heap.size W' w') :
    Calls Try.prog 94 #[reg X Y Wn Hn, .func (.func gn) #[] caps] w fun e w' => MadeP X Y Wn Hn (madeL ψ X Y Wn (Hn * Wn)) w e w' := by
  have HF := Lib.hid hf
  have HP := Lib.hid hψ
  clear hf hψ
  obtain ⟨i0, hi, hz0, hz1, hz2⟩ := info_parts info24
  go_enter Try.func94, Try.ntmps94
  go_wp2
  generalize hW0 : ((w.alloc (.cells #[.int .i64 X, .int .i64 Y, .int .i64 Wn, .int .i64 Hn] /-T-/30)).alloc (.cells #[.int .i64 0, .int .i64 0, .int .i64 0, .int .i64 0, .slice none 0 0] /-T-/66)).alloc (.cells #[.int .i64 X, .int .i64 Y, .int .i64 Wn, .int .i64 Hn, .slice none 0 0] /-T-/66) = W0 at *
  have I0 := made_start w X Y Wn Hn W0 hW0.symm
  clear hW0
  go_loopw [7, 8] (fun vy _ wr => ∃ j : Nat, j ≤ Hn ∧ vy = .int .i64 (Y + j) ∧ ∃ v, MadeInv w wr X Y Wn Hn v (madeL ψ X Y Wn (j * Wn))) (fun vy _ _ => (Y + Hn - intOf vy).toNat)
  case atStart => exact ⟨0, by omega, by simp, _, by rw [Nat.zero_mul]; exact I0⟩
  case round =>
    clear I0
    obtain ⟨j, hj, rfl, v, I⟩ := hrel
    have IH := Lib.hid I
    obtain ⟨r0, r1, r2, r3⟩ := I.rg.cells
    clear I
    by_cases hlt : j < Hn
    · have b1 : (Y + j : Int) < Y + Hn := by omega
      go_wp2
      obtain ⟨wo, rfl⟩ : ∃ wo : World, wo = wr := ⟨_, rfl⟩
      clear r0 r1 r2 r3 hj
      go_loopw [8] (fun vx wi => ∃ i : Nat, i ≤ Wn ∧ vx = .int .i64 (X + i) ∧ ∃ v, MadeInv w wi X Y Wn Hn v (madeL ψ X Y Wn (j * Wn + i))) (fun vx _ => (X + Wn - intOf vx).toNat)
      case atStart => exact ⟨0, by omega, by simp, v, by rw [Nat.add_zero]; exact IH.out⟩
      case round =>
        clear IH v
        obtain ⟨i, hi', rfl, v, I⟩ := hrel
        obtain ⟨r0, r1, r2, r3⟩ := I.rg.cells
        have c4 := I.fo.cells.2.2.2.2
        have IH := Lib.hid I
        clear I
        by_cases hlt2 : i < Wn
        · have b2 : (X + i : Int) < X + Wn := by omega
          have HC : Hid (∀ W', Below w.heap.size w W' → Calls Try.prog gn (#[.int .i64 (X + (i : Int)), .int .i64 (Y + (j : Int))] ++ caps) W' fun e w' => e = .returned (.float .f32 (ψ (X + (i : Int)) (Y + (j : Int)))) ∧ Below W'.heap.size W' w') := HF.out _ _ (by omega) (by omega) (by omega) (by omega)
          have HY : Hid (ψ (X + (i : Int)) (Y + (j : Int)) < 4294967296) := HP.out _ _ (by omega) (by omega) (by omega) (by omega)
          have HM : Hid (madeL ψ X Y Wn (j * Wn + i) ++ [ψ (X + (i : Int)) (Y + (j : Int))] = madeL ψ X Y Wn (j * Wn + (i + 1))) := (madeL_succ ψ X Y Wn i j hlt2).symm
          have hml : (madeL ψ X Y Wn (j * Wn + i)).length ≤ 262656 := by
            rw [madeL_len]
            have := Nat.mul_le_mul (show j ≤ 512 by omega) h2
            omega
          generalize madeL ψ X Y Wn (j * Wn + i) = m at *
          generalize ψ (X + (i : Int)) (Y + (j : Int)) = y0 at *
          have HB := Lib.hid IH.out.below
          have G1 : Hid (m.length + 1 ≤ maxLen) := by unfold maxLen Hid; omega
          have G2 : Hid ((m.length + 1) * 4 ≤ 140737488355328) := by unfold Hid; omega
          go_wp2_with fail
          go_region_law (first
            | (refine step_append_lies _ (by rfl) _ _ _ (by rfl) (w.heap.size + 3) /-T-/24 i0 (.float .f32 0) 1 4 Try.underlying64 hi hz0 hz1 hz2 rfl (by omega) v m.length (fls m) (by rfl) (I2.out.own.alloc _) ⟨w2.heap.size, 0, none⟩ 1 1 [.float .f32 y0] (by rfl) (by rfl) (World.news_of_block (cs := #[.float .f32 y0]) (t := /-T-/24) (fr := (0, 0)) (heap_alloc_new w2 _)) (by simp [Value.oneCell']) (by omega) G1.out G2.out G3.out (w2.heap.size + 1) (by simp) ?_; intro gg cap w3 hown3 hgrow3 hat3 hlt3; obtain ⟨e1, e2, e3, e4⟩ := I2.out.mid hgrow3; have e5 := e3.cells.2.2.2.2; have e6 := e3.frozen 4; have M3 := Lib.hid (I2.out.app HY.out hown3 hgrow3); clear e1 e2 e3 e4 hown3 hgrow3 hat3 hlt3)
            | (go_simp; go_at_fn gn; refine (HC.out _ HB.out.drew).mono ?_; rintro e2 w2 ⟨rfl, hb⟩; have I2 := Lib.hid (IH.out.call hb); have G3 : Hid (w.heap.size + 3 ≤ (w2.alloc (.cells #[.float .f32 y0] /-T-/24)).heap.size) := (by have := I2.out.fo.lt; unfold Hid; simp; omega); have d4 := I2.out.fo.cells.2.2.2.2; have lz : w.heap.size + 1 + 1 < w2.heap.size := I2.out.fo.lt; clear hb))
          all_goals
            go_wp2
            go_roundw
            case rel => exact ⟨i + 1, by omega, by go_num, _, HM.out ▸ M3.out⟩
            case measure => simp [intOf]; omega
        · have HE : Hid (j * Wn + i = (j + 1) * Wn) := by
            have : i = Wn := by omega
            unfold Hid; rw [this, Nat.add_mul, Nat.one_mul]
          have IH1 := IH.out
          rw [HE.out] at IH1
          have IH2 := Lib.hid IH1
          clear IH IH1
          go_wp2
          go_roundw
          case rel => exact ⟨j + 1, by omega, by go_num, _, IH2.out⟩
          case measure => simp [intOf]; omega
    · have HE : Hid (j * Wn = Hn * Wn) := by
        have : j = Hn := by omega
        unfold Hid; rw [this]
      have IH2 : Hid (MadeInv w wr X Y Wn Hn v (madeL ψ X Y Wn (Hn * Wn))) := HE.out ▸ IH.out
      clear IH
      have hml : Hid ((madeL ψ X Y Wn (Hn * Wn)).length = Hn * Wn) := madeL_len _ _ _ _ _
      have hm1 : Hid (1 ≤ Hn * Wn) := Nat.mul_le_mul h3 h1
      have hm2 : Hid (Hn * Wn ≤ 262144) := Nat.mul_le_mul h4 h2
      generalize hmq : madeL ψ X Y Wn (Hn * Wn) = m at *
      have HMQ := Lib.hid hmq
      clear hmq
      obtain ⟨g, cap, rfl, hown⟩ : ∃ g cap, v = .slice (some ⟨g, 0, none⟩) m.length cap ∧ OwnF wr w.heap.size g cap m := by
        have ho := IH2.out.own
        rcases ho.2 with ⟨_, h0⟩ | ⟨g, cap, cur, rfl, hB, hh, r⟩
        · exfalso
          have := hml.out; have := hm1.out; omega
        · exact ⟨g, cap, rfl, OwnF.base ⟨ho, IH2.out.wf⟩ (by omega)⟩
      have HO := Lib.hid hown
      have HR : Hid (SRow wr (some ⟨g, 0, none⟩) m) := hown.row (by have := hml.out; have := hm2.out; omega)
      have hgk : Hid (w.heap.size + 3 ≤ g) := (IH2.out.own.lt g rfl).1
      clear hown
      obtain ⟨c0, c1, c2, c3, c4⟩ := IH2.out.fo.cells
      have FB := IH2.out.rz
      obtain ⟨d0, d1, d2, d3, d4⟩ := FB.cells
      have qf0 := FB.frozen 0
      have qf1 := FB.frozen 1
      have qf2 := FB.frozen 2
      have qf3 := FB.frozen 3
      have qf4 := FB.frozen 4
      clear FB
      have HB := Lib.hid IH2.out.below
      clear IH2
      have KO := Lib.hid (fun w h => out_any (some ⟨g, 0, none⟩) cap m w h)
      by_cases he : outE m = 0
      · have HZ := Lib.hid he
        rw [he] at KO
        clear he
        go_wp2_with fail
        refine (KO.out _ HR.out).mono ?_
        rintro e w2 ⟨rfl, rfl⟩
        go_wp2
        obtain rfl := HMQ.out
        have B2 := HB.out
        have O2 := HO.out
        have hgk2 := hgk.out
        refine bodyPost_ret (v := .tuple #[fldV X Y Wn Hn (some ⟨g, 0, none⟩) (madeL ψ X Y Wn (Hn * Wn)).length cap, .int .i64 0]) (by simp [results, Try.results94, go_sem, *]) rfl ⟨fun _ => ⟨g, cap, rfl, (by have hgg := O2.lt; repeat (first | with_reducible exact O2 | with_reducible refine OwnF.drew ?_ | with_reducible refine OwnF.drewN ?_ _ | (with_reducible refine OwnF.setCell ?_ ?_ _; rotate_left; focus (first | omega | (simp <;> omega))) | with_reducible refine OwnF.alloc ?_ _))⟩, fun h => absurd HZ.out h, (by have hszz := B2.size; repeat (first | with_reducible exact B2 | with_reducible apply Below.drew | with_reducible refine below_drewN ?_ _ | (with_reducible refine Below.setCell ?_ ?_ _; rotate_left; focus (first | omega | (simp <;> omega))) | (with_reducible refine Below.alloc ?_ ?_ _; rotate_left; focus (first | omega | (simp <;> omega)))))⟩
      · have HZ := Lib.hid he
        have e3 : outE m = 3 := by
          unfold outE at he ⊢
          split
          · rename_i h0; rw [if_pos h0] at he; exact absurd rfl he
          · rfl
        rw [e3] at KO
        clear he e3
        go_wp2_with fail
        refine (KO.out _ HR.out).mono ?_
        rintro e w2 ⟨rfl, rfl⟩
        go_wp2
        obtain rfl := HMQ.out
        have B2 := HB.out
        refine bodyPost_ret (v := .tuple #[fldV 0 0 0 0 none 0 0, .int .i64 3]) (by simp [results, Try.results94, go_sem, *]) rfl ⟨fun h => absurd h HZ.out, fun _ => rfl, (by have hszz := B2.size; repeat (first | with_reducible exact B2 | with_reducible apply Below.drew | with_reducible refine below_drewN ?_ _ | (with_reducible refine Below.setCell ?_ ?_ _; rotate_left; focus (first | omega | (simp <;> omega))) | (with_reducible refine Below.alloc ?_ ?_ _; rotate_left; focus (first | omega | (simp <;> omega)))))⟩
end Go.Proofs.Ytgeeaegnohdejaa
