import Derived.Test.YtnfebeebjelgbaaCutF
import Derived.Deep.AppendLies
namespace Go.Proofs.Ytnfebeebjelgbaa
open Go.ChangeShapes Go.WideShapes Go.ChangeAt Go.RowKit
open Ieee.Format (fin finE htE allFin allHt all_true all_false mulF subF addF Ht Bd divF rootF floorF easeF mixF)
set_option linter.unusedVariables false

theorem bl_blt0 {w : World} {b o : Nat} {l : List Nat} (h : SRow w (some ⟨b, o, none⟩) l) (hn : 0 < l.length) : b < w.heap.size := by
  have := h.at_ hn
  rcases Nat.lt_or_ge b w.heap.size with hlt | hge
  · exact hlt
  · simp [World.cell?, Array.getElem?_eq_none hge] at this
theorem bl_pos0 {X Y : Int} {Wn Hn : Nat} {l : List Nat} (h : Right X Y Wn Hn l) : 0 < l.length := by
  have := Nat.mul_le_mul h.h1 h.w1
  rw [← h.len] at this; omega
theorem MakeInv.mid0 {w w2 w3 : World} {k5 : Nat} {X Y W H : Int} {v : Value} {m : List Nat} (h : MakeInv w w2 k5 X Y W H v m) (hg : w2.grownBy w3 v.ownBlock) :
    Reg w3 w.heap.size X Y W H ∧ Fld w3 (w.heap.size + 1) 0 0 0 0 (.slice none 0 0) ∧ Fld w3 k5 X Y W H v ∧ Below w.heap.size w w3 := by
  have hne : ∀ k, k < w.heap.size + 2 → some k ≠ v.ownBlock := fun k hk e => by
    have := (h.own.lt k e.symm).1; omega
  refine ⟨h.rg.grown hg (hne _ (by omega)), h.rz.grown hg (hne _ (by omega)), h.fo.grown hg (fun e => h.ne e.symm), ?_⟩
  have hz := h.below.size
  refine h.below.grown hg (by omega) (fun k hk => ?_)
  have := (h.own.lt k hk).1
  omega
theorem MakeInv.appN {w w2 w3 : World} {k5 : Nat} {X Y W H : Int} {v : Value} {m : List Nat} (h : MakeInv w w2 k5 X Y W H v m) {ys : List Nat} {g cap n : Nat} (hn : ys.length = n) (hy : ∀ y ∈ ys, y < 4294967296)
    (hown : w3.ownsRow (w.heap.size + 2) 37 1 (.slice (some ⟨g, 0, none⟩) (m.length + n) cap) (m.length + n) (fls m ++ fls ys)) (hg : w2.grownBy w3 v.ownBlock) (hgk : g ≠ k5) :
    MakeInv w (w3.setCell ⟨k5, 4, none⟩ (.slice (some ⟨g, 0, none⟩) (m.length + n) cap)) k5 X Y W H (.slice (some ⟨g, 0, none⟩) (m.length + n) cap) (m ++ ys) := by
  subst hn
  obtain ⟨a, b, c, d⟩ := h.mid0 hg
  have hgl := (hown.lt g rfl).1
  have hk5 := h.k5g
  have hne : w.heap.size ≠ k5 := by omega
  have hne2 : w.heap.size + 1 ≠ k5 := by omega
  refine ⟨a.setCell hne _, b.setCell hne2 _, c.set4 _, hk5, (by simp [Value.ownBlock]; exact hgk), ?_, ?_, d.setCell (by show w.heap.size ≤ k5; omega) _⟩
  · have e : fls (m ++ ys) = fls m ++ fls ys := by unfold fls; simp
    have e2 : (m ++ ys).length = m.length + ys.length := by simp
    rw [e, e2]
    have ho : OwnF w3 (w.heap.size + 2) g cap (m ++ ys) := ⟨by rw [e, e2]; exact hown, fun y hy' => by
      rcases List.mem_append.1 hy' with h' | h'
      · exact h.wf _ h'
      · exact hy _ h'⟩
    have := (ho.setCell (p := ⟨k5, 4, none⟩) hgk (.slice (some ⟨g, 0, none⟩) (m.length + ys.length) cap)).1
    rw [e, e2] at this
    exact this
  · intro y hy'
    rcases List.mem_append.1 hy' with h' | h'
    · exact h.wf _ h'
    · exact hy _ h'

set_option maxRecDepth 100000 in
set_option maxHeartbeats 4000000 in
theorem part_any (X Y : Int) (Wn Hn : Nat) (b o c : Nat) (l : List Nat) (P Q : Int) (A B : Nat) (w : World) (hl : SRow w (some ⟨b, o, none⟩) l) (hc : l.length ≤ c) (hr : Right X Y Wn Hn l) (hA : 1 ≤ A) (hB : 1 ≤ B) (h1 : X ≤ P) (h2 : P + A ≤ X + Wn) (h3 : Y ≤ Q) (h4 : Q + B ≤ Y + Hn) :
    Calls Try.prog 102 #[fldV X Y Wn Hn (some ⟨b, o, none⟩) l.length c, reg P Q A B] w fun e w' => NewF w.heap.size P Q A B (cutL l X Y Wn P Q A (B * A)) w e w' := by
  have HL := Lib.hid hl
  have HR := Lib.hid hr
  have g1 := hr.w2; have g2 := hr.h2; have g3 := hr.x1; have g4 := hr.x2; have g5 := hr.y1; have g6 := hr.y2
  have HLE := Lib.hid hr.len
  have KR := Lib.hid (fun j hj => cut_row l X Y Wn Hn P Q A B j hr.len hj h1 h2 h3 h4)
  have KB : Hid (∀ j, j < B → (rowAt X Y Wn P Q j : Int) = (Q + j - Y) * Wn + P - X ∧ rowAt X Y Wn P Q j + A ≤ l.length ∧ 0 ≤ (Q + j - Y) * Wn ∧ (Q + j - Y) * Wn ≤ 262144) := by
    intro j hj
    obtain ⟨q, hq⟩ : ∃ q : Nat, (q : Int) = Q + j - Y := ⟨(Q + j - Y).toNat, by omega⟩
    have hle : (q + 1) * Wn ≤ Hn * Wn := Nat.mul_le_mul_right _ (by omega)
    rw [Nat.add_mul, Nat.one_mul] at hle
    have h5 : q * Wn ≤ 512 * 512 := Nat.mul_le_mul (by omega) (by omega)
    unfold rowAt
    rw [← hq, ← Int.natCast_mul, hr.len]
    omega
  obtain ⟨i0, hi, hz0, hz1, hz2⟩ := info_parts info24
  obtain ⟨n, hn, hn2, hn3⟩ : ∃ n : Nat, IntKind.i64.wrap ((A : Int) * (B : Int)) = (n : Int) ∧ n = B * A ∧ n ≤ 262144 := by
    have h3 : B * A ≤ 512 * 512 := Nat.mul_le_mul (by omega) (by omega)
    refine ⟨B * A, ?_, rfl, by omega⟩
    rw [show (A : Int) * (B : Int) = ((B * A : Nat) : Int) from by rw [Int.natCast_mul, Int.mul_comm]]
    rw [IntKind.wrap_i64]; omega
  have hlen2 : l.length ≤ 262144 := by have := Nat.mul_le_mul hr.h2 hr.w2; rw [hr.len]; omega
  obtain ⟨oM, hmk, hMO⟩ := make_law i0 hi hz0 hz1 hz2 n hn3
  have HMO := Lib.hid hMO
  have bl : b < w.heap.size := bl_blt0 hl (bl_pos0 hr)
  clear hMO hl hr hn2
  have HF1 := Lib.hid (Fld.new w X Y Wn Hn (.slice (some ⟨b, o, none⟩) l.length c))
  have b1 : Below w.heap.size w (w.alloc (.cells #[.int .i64 X, .int .i64 Y, .int .i64 Wn, .int .i64 Hn, .slice (some ⟨b, o, none⟩) l.length c] 36)) := (by repeat (first | with_reducible exact Below.refl _ _ | with_reducible apply Below.drew | with_reducible refine below_drewN ?_ _ | (with_reducible refine Below.setCell ?_ ?_ _; rotate_left; focus (first | omega | (simp <;> omega))) | (with_reducible refine Below.alloc ?_ ?_ _; rotate_left; focus (first | omega | (simp <;> omega)))))
  have HB1 := Lib.hid b1
  have hs1 : (w.alloc (.cells #[.int .i64 X, .int .i64 Y, .int .i64 Wn, .int .i64 Hn, .slice (some ⟨b, o, none⟩) l.length c] 36)).heap.size = w.heap.size + 1 := by simp
  have HS1 := Lib.hid hs1
  clear b1 hs1
  go_enter Try.func102, Try.ntmps102
  go_wp2_with fail
  go_region
  all_goals
    first
      | (obtain ⟨W0, hW0⟩ : ∃ W0 : World, ((((w.alloc (.cells #[.int .i64 X, .int .i64 Y, .int .i64 Wn, .int .i64 Hn, .slice (some ⟨b, o, none⟩) l.length c] 36)).alloc (.cells #[.int .i64 P, .int .i64 Q, .int .i64 (A : Int), .int .i64 (B : Int)] 23)).alloc (.cells #[.int .i64 0, .int .i64 0, .int .i64 0, .int .i64 0, .slice none 0 0] 36)).alloc (.cells #[.int .i64 P, .int .i64 Q, .int .i64 A, .int .i64 B, .slice (some ⟨w.heap.size + 1 + 1 + 1 + 1, 0, none⟩) 0 n] 36)).alloc oM = W0 := ⟨_, rfl⟩
         rw [hW0]
         have I0 := (make_start1 (w.alloc (.cells #[.int .i64 X, .int .i64 Y, .int .i64 Wn, .int .i64 Hn, .slice (some ⟨b, o, none⟩) l.length c] 36)) P Q A B oM n HMO.out W0 (by rw [← hW0]; simp)).drew
         rw [HS1.out] at I0
         have hk5 : w.heap.size + 3 ≤ w.heap.size + 1 + 1 + 1 := by omega
         generalize w.heap.size + 1 + 1 + 1 = k5 at *)
      | (obtain ⟨W0, hW0⟩ : ∃ W0 : World, ((((w.alloc (.cells #[.int .i64 X, .int .i64 Y, .int .i64 Wn, .int .i64 Hn, .slice (some ⟨b, o, none⟩) l.length c] 36)).alloc (.cells #[.int .i64 P, .int .i64 Q, .int .i64 (A : Int), .int .i64 (B : Int)] 23)).alloc (.cells #[.int .i64 0, .int .i64 0, .int .i64 0, .int .i64 0, .slice none 0 0] 36)).alloc oM).alloc (.cells #[.int .i64 P, .int .i64 Q, .int .i64 A, .int .i64 B, .slice (some ⟨w.heap.size + 1 + 1 + 1, 0, none⟩) 0 n] 36) = W0 := ⟨_, rfl⟩
         rw [hW0]
         have I0 := (make_start2 (w.alloc (.cells #[.int .i64 X, .int .i64 Y, .int .i64 Wn, .int .i64 Hn, .slice (some ⟨b, o, none⟩) l.length c] 36)) P Q A B oM n HMO.out W0 (by rw [← hW0]; simp)).drew
         rw [HS1.out] at I0
         have hk5 : w.heap.size + 3 ≤ w.heap.size + 1 + 1 + 1 + 1 := by omega
         generalize w.heap.size + 1 + 1 + 1 + 1 = k5 at *)
    clear hW0
    generalize W0.drew = W1 at *
    clear HMO hmk hn
    generalize w.alloc (.cells #[.int .i64 X, .int .i64 Y, .int .i64 Wn, .int .i64 Hn, .slice (some ⟨b, o, none⟩) l.length c] 36) = w1 at *
    have R0 : Reg W1 (w.heap.size + 1) P Q A B := by have := I0.rg; rwa [HS1.out] at this
    obtain ⟨q0, q1, q2, q3⟩ := R0.cells
    have lr := R0.lt
    have HI0 := Lib.hid I0
    clear R0 I0
    go_wp2_with fail
    clear q0 q1 q2 q3 lr
    go_loopw [6, 7] (fun vy _ wr => ∃ j : Nat, j ≤ B ∧ vy = .int .i64 (Q + j) ∧ ∃ v, MakeInv w1 wr k5 P Q A B v (cutL l X Y Wn P Q A (j * A))) (fun vy _ _ => (Q + B - intOf vy).toNat)
    case atStart => exact ⟨0, by omega, by simp, _, by rw [Nat.zero_mul]; exact HI0.out⟩
    case round =>
      clear HI0
      obtain ⟨j, hj, rfl, v, I⟩ := hrel
      have IH := Lib.hid I
      have R : Reg wr (w.heap.size + 1) P Q A B := by have := I.rg; rwa [HS1.out] at this
      have F := HF1.out.below I.below (by have := HS1.out; omega)
      obtain ⟨r0, r1, r2, r3⟩ := R.cells
      obtain ⟨f0, f1, f2, f3, f4⟩ := F.cells
      have c4 := I.fo.cells.2.2.2.2
      have lr := R.lt
      have lf := F.lt
      have lk := I.fo.lt
      have HRG := Lib.hid R
      clear R F I
      by_cases hlt : j < B
      · have b1 : (Q + j : Int) < Q + B := by omega
        obtain ⟨e1, e2, e3, e4⟩ := KB.out j hlt
        have HK := Lib.hid (KR.out j hlt)
        have hml : (cutL l X Y Wn P Q A (j * A)).length ≤ 262144 := by
          rw [cutL_len]
          have := Nat.mul_le_mul (show j ≤ 512 by omega) (show A ≤ 512 by omega)
          omega
        have hwf : Hid (∀ y ∈ (l.drop (rowAt X Y Wn P Q j)).take A, y < 4294967296) := fun y hy => HL.out.1.2 y (List.mem_of_mem_drop (List.mem_of_mem_take hy))
        have hyl : ((l.drop (rowAt X Y Wn P Q j)).take A).length = A := by rw [List.length_take, List.length_drop]; omega
        have hnews : Hid (∀ jj u, (fls ((l.drop (rowAt X Y Wn P Q j)).take A))[jj]? = some u → wr.cell? ((⟨b, o + rowAt X Y Wn P Q j, none⟩ : Addr).add jj) = some u) := by
          intro jj u hu
          have hjj : jj < A := by
            rcases Nat.lt_or_ge jj A with h | h
            · exact h
            · rw [List.getElem?_eq_none (by unfold fls; rw [List.length_map, hyl]; exact h)] at hu; cases hu
          unfold fls at hu
          rw [List.getElem?_map, List.getElem?_take, if_pos hjj, List.getElem?_drop, List.getElem?_eq_getElem (by omega)] at hu
          have hcell := (SRow.below HL.out (HB1.out.trans (IH.out.below.mono (by have := HS1.out; omega)))).at_ (k := rowAt X Y Wn P Q j + jj) (by omega)
          rw [List.getD_eq_getElem?_getD, List.getElem?_eq_getElem (by omega)] at hcell
          rw [Go.WideShapes.add_plain, Nat.add_assoc, hcell]
          exact hu
        have HYL := Lib.hid hyl
        have hKe : (Q + j - Y) * Wn + P - X = (rowAt X Y Wn P Q j : Int) := e1.symm
        clear e1 hyl
        generalize hPA : (Q + (j : Int) - Y) * (Wn : Int) = PA at *
        generalize (l.drop (rowAt X Y Wn P Q j)).take A = ys at *
        generalize rowAt X Y Wn P Q j = k0 at *
        generalize hm0 : cutL l X Y Wn P Q A (j * A) = m at *
        clear hm0
        have s1 : IntKind.i64.wrap ((k0 : Int) + (A : Int)) = (k0 : Int) + (A : Int) := IntWalk.i64_in _ (by omega)
        have s2 : ((k0 : Int) + (A : Int)).toNat = k0 + A := by omega
        have s3 : (0 : Int) ≤ (k0 : Int) + A := by omega
        have s4 : (k0 : Int) + A ≤ c := by omega
        have s5 : (k0 : Int) ≤ (k0 : Int) + A := by omega
        have s6 : ¬ c = k0 := by omega
        have G0 : Hid ((fls ys).length = A * 1) := by unfold Hid fls; rw [List.length_map, HYL.out, Nat.mul_one]
        have G1 : Hid (m.length + A ≤ maxLen) := by unfold maxLen Hid; omega
        have G2 : Hid ((m.length + A) * 4 ≤ 140737488355328) := by unfold Hid; omega
        have G3 : Hid (w1.heap.size + 2 ≤ wr.drew.heap.size) := by show w1.heap.size + 2 ≤ wr.heap.size; have := IH.out.k5g; omega
        have G4 : Hid (∀ u ∈ fls ys, u.oneCell' = true) := by
          intro u hu
          unfold fls at hu
          obtain ⟨x, _, rfl⟩ := List.mem_map.1 hu
          rfl
        have HLK := Lib.hid lk
        have HM : Hid (m ++ ys = cutL l X Y Wn P Q A ((j + 1) * A)) := by unfold Hid; rw [Nat.add_mul, Nat.one_mul]; exact HK.out.symm
        go_wp2_with fail
        go_region_law (first
          | (refine step_append_lies _ (by rfl) _ _ _ (by rfl) (w1.heap.size + 2) 37 i0 (.float .f32 0) 1 4 Try.underlying34 hi hz0 hz1 hz2 rfl (by omega) v m.length (fls m) (by rfl) IH.out.drew.own ⟨b, o + k0, none⟩ A (c - k0) (fls ys) (by rfl) G0.out hnews.out G4.out hA G1.out G2.out G3.out wr.heap.size rfl ?_; intro gg cap w3 hown3 hgrow3 hat3 hlt3; obtain ⟨e1, e2, e3, e4⟩ := IH.out.drew.mid0 hgrow3; have e5 := e3.cells.2.2.2.2; have e6 := e3.frozen 4; have hgk : gg ≠ k5 := (by rcases hat3 with h | h; exact (fun e => IH.out.ne (e ▸ h)); exact (fun e => by have := HLK.out; omega)); have M3 := Lib.hid (IH.out.drew.appN HYL.out hwf.out hown3 hgrow3 hgk); clear e1 e2 e3 e4 hown3 hgrow3 hat3 hlt3 hgk))
        all_goals
          go_wp2_with fail
          go_roundw
          case rel => exact ⟨j + 1, by omega, by go_num, _, HM.out ▸ M3.out⟩
          case measure => simp [intOf]; omega
      · have HE : Hid (j * A = B * A) := by
          have : j = B := by omega
          unfold Hid; rw [this]
        have IH2 : Hid (MakeInv w1 wr k5 P Q A B v (cutL l X Y Wn P Q A (B * A))) := HE.out ▸ IH.out
        clear IH
        have hml : Hid ((cutL l X Y Wn P Q A (B * A)).length = B * A) := cutL_len _ _ _ _ _ _ _ _
        have hm1 : Hid (1 ≤ B * A) := Nat.mul_le_mul hB hA
        generalize hmq : cutL l X Y Wn P Q A (B * A) = m at *
        have HMQ := Lib.hid hmq
        clear hmq
        obtain ⟨g, cap, rfl, hown⟩ : ∃ g cap, v = .slice (some ⟨g, 0, none⟩) m.length cap ∧ OwnF wr w.heap.size g cap m := by
          have ho := IH2.out.own
          have hs := HS1.out
          rcases ho.2 with ⟨_, h0⟩ | ⟨g, cap, cur, rfl, hB, hh, r⟩
          · exfalso
            have := hml.out; have := hm1.out; omega
          · exact ⟨g, cap, rfl, OwnF.base ⟨ho, IH2.out.wf⟩ (by omega)⟩
        have HO := Lib.hid hown
        have hgk : Hid (w1.heap.size + 2 ≤ g) := (IH2.out.own.lt g rfl).1
        clear hown
        clear c4
        obtain ⟨c0, c1, c2, c3, c4⟩ := IH2.out.fo.cells
        have FB : Fld wr (w.heap.size + 1 + 1) 0 0 0 0 (.slice none 0 0) := by have := IH2.out.rz; rwa [HS1.out] at this
        obtain ⟨d0, d1, d2, d3, d4⟩ := FB.cells
        have qf0 := FB.frozen 0
        have qf1 := FB.frozen 1
        have qf2 := FB.frozen 2
        have qf3 := FB.frozen 3
        have qf4 := FB.frozen 4
        have lz := FB.lt
        clear FB
        have HBX := Lib.hid (HB1.out.trans (IH2.out.below.mono (by have := HS1.out; omega)))
        clear IH2
        go_wp2_with fail
        obtain rfl := HMQ.out
        have B2 := HBX.out
        have O2 := HO.out
        have hgk2 := hgk.out
        have hs1 := HS1.out
        have hje : j = B := by omega
        subst hje
        refine bodyPost_ret (v := fldV P Q A j (some ⟨g, 0, none⟩) (cutL l X Y Wn P Q A (j * A)).length cap) (by simp [results, Try.results102, go_sem, *]) rfl ⟨g, cap, rfl, (by have hgg := O2.lt; repeat (first | with_reducible exact O2 | with_reducible refine OwnF.drew ?_ | with_reducible refine OwnF.drewN ?_ _ | (with_reducible refine OwnF.setCell ?_ ?_ _; rotate_left; focus (first | omega | (simp <;> omega))) | with_reducible refine OwnF.alloc ?_ _)), (by have hszz := B2.size; repeat (first | with_reducible exact B2 | with_reducible apply Below.drew | with_reducible refine below_drewN ?_ _ | (with_reducible refine Below.setCell ?_ ?_ _; rotate_left; focus (first | omega | (simp <;> omega))) | (with_reducible refine Below.alloc ?_ ?_ _; rotate_left; focus (first | omega | (simp <;> omega)))))⟩
end Go.Proofs.Ytnfebeebjelgbaa
