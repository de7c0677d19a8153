import Derived.Test.YtiiogjjjgoeghaaG09
import Derived.Deep.AppendLies
import Derived.IntWalk
import Derived.BigQuiet
import Derived.StillTailTactics
import Derived.Test.YtiiogjjjgoeghaaG05
import Derived.BigRegion
import Derived.Deep.QuietTactic
import Derived.Deep.DeepCutAuto
import Derived.Deep.RegionHeld3
import Derived.Test.YtiiogjjjgoeghaaG02
import Derived.WalkLawsBesides
namespace Go.Proofs.Ytiiogjjjgoeghaa
open Go.ChangeShapes Go.WideShapes Go.ChangeAt Go.RowKit
open Ieee.Format (fin finE htE allFin allHt all_true all_false mulF subF addF Ht Bd divF rootF floorF easeF mixF)
set_option linter.unusedVariables false

theorem bl_blt0 {w : World} {b o : Nat} {l : List Nat} (h : SRow w (some ⟨b, o, none⟩) l) (hn : 0 < l.length) : b < w.heap.size := by
  have := h.at_ hn
  rcases Nat.lt_or_ge b w.heap.size with hlt | hge
  · exact hlt
  · simp [World.cell?, Array.getElem?_eq_none hge] at this
theorem bl_pos0 {X Y : Int} {Wn Hn : Nat} {l : List Nat} (h : Right X Y Wn Hn l) : 0 < l.length := by
  have := Nat.mul_le_mul h.h1 h.w1
  rw [← h.len] at this; omega
theorem MakeInv.mid0 {w w2 w3 : World} {k5 : Nat} {X Y W H : Int} {v : Value} {m : List Nat} (h : MakeInv w w2 k5 X Y W H v m) (hg : w2.grownBy w3 v.ownBlock) :
    Reg w3 w.heap.size X Y W H ∧ Fld w3 (w.heap.size + 1) 0 0 0 0 (.slice none 0 0) ∧ Fld w3 k5 X Y W H v ∧ Below w.heap.size w w3 := by
  have hne : ∀ k, k < w.heap.size + 2 → some k ≠ v.ownBlock := fun k hk e => by
    have := (h.own.lt k e.symm).1; omega
  refine ⟨h.rg.grown hg (hne _ (by omega)), h.rz.grown hg (hne _ (by omega)), h.fo.grown hg (fun e => h.ne e.symm), ?_⟩
  have hz := h.below.size
  refine h.below.grown hg (by omega) (fun k hk => ?_)
  have := (h.own.lt k hk).1
  omega
theorem MakeInv.appN {w w2 w3 : World} {k5 : Nat} {X Y W H : Int} {v : Value} {m : List Nat} (h : MakeInv w w2 k5 X Y W H v m) {ys : List Nat} {g cap n : Nat} (hn : ys.length = n) (hy : ∀ y ∈ ys, y < 4294967296)
    (hown : w3.ownsRow (w.heap.size + 2) 27 1 (.slice (some ⟨g, 0, none⟩) (m.length + n) cap) (m.length + n) (fls m ++ fls ys)) (hg : w2.grownBy w3 v.ownBlock) (hgk : g ≠ k5) :
    MakeInv w (w3.setCell ⟨k5, 4, none⟩ (.slice (some ⟨g, 0, none⟩) (m.length + n) cap)) k5 X Y W H (.slice (some ⟨g, 0, none⟩) (m.length + n) cap) (m ++ ys) := by
  subst hn
  obtain ⟨a, b, c, d⟩ := h.mid0 hg
  have hgl := (hown.lt g rfl).1
  have hk5 := h.k5g
  have hne : w.heap.size ≠ k5 := by omega
  have hne2 : w.heap.size + 1 ≠ k5 := by omega
  refine ⟨a.setCell hne _, b.setCell hne2 _, c.set4 _, hk5, (by simp [Value.ownBlock]; exact hgk), ?_, ?_, d.setCell (by show w.heap.size ≤ k5; omega) _⟩
  · have e : fls (m ++ ys) = fls m ++ fls ys := by unfold fls; simp
    have e2 : (m ++ ys).length = m.length + ys.length := by simp
    rw [e, e2]
    have ho : OwnF w3 (w.heap.size + 2) g cap (m ++ ys) := ⟨by rw [e, e2]; exact hown, fun y hy' => by
      rcases List.mem_append.1 hy' with h' | h'
      · exact h.wf _ h'
      · exact hy _ h'⟩
    have := (ho.setCell (p := ⟨k5, 4, none⟩) hgk (.slice (some ⟨g, 0, none⟩) (m.length + ys.length) cap)).1
    rw [e, e2] at this
    exact this
  · intro y hy'
    rcases List.mem_append.1 hy' with h' | h'
    · exact h.wf _ h'
    · exact hy _ h'

set_option maxRecDepth 100000 in
set_option maxHeartbeats 4000000 in
theorem part_any (X Y : Int) (Wn Hn : Nat) (b o c : Nat) (l : List Nat) (P Q : Int) (A B : Nat) (w : World) (hl : SRow w (some ⟨b, o, none⟩) l) (hc : l.length ≤ c) (hr : Right X Y Wn Hn l) (hA : 1 ≤ A) (hB : 1 ≤ B) (h1 : X ≤ P) (h2 : P + A ≤ X + Wn) (h3 : Y ≤ Q) (h4 : Q + B ≤ Y + Hn) :
    Calls Try.prog 20 #[fldV X Y Wn Hn (some ⟨b, o, none⟩) l.length c, reg P Q A B] w fun e w' => NewF w.heap.size P Q A B (cutL l X Y Wn P Q A (B * A)) w e w' := by
  have HL := Lib.hid hl
  have HR := Lib.hid hr
  have g1 := hr.w2; have g2 := hr.h2; have g3 := hr.x1; have g4 := hr.x2; have g5 := hr.y1; have g6 := hr.y2
  have HLE := Lib.hid hr.len
  have KR := Lib.hid (fun j hj => cut_row l X Y Wn Hn P Q A B j hr.len hj h1 h2 h3 h4)
  have KB : Hid (∀ j, j < B → (rowAt X Y Wn P Q j : Int) = (Q + j - Y) * Wn + P - X ∧ rowAt X Y Wn P Q j + A ≤ l.length ∧ 0 ≤ (Q + j - Y) * Wn ∧ (Q + j - Y) * Wn ≤ 262144) := by
    intro j hj
    obtain ⟨q, hq⟩ : ∃ q : Nat, (q : Int) = Q + j - Y := ⟨(Q + j - Y).toNat, by omega⟩
    have hle : (q + 1) * Wn ≤ Hn * Wn := Nat.mul_le_mul_right _ (by omega)
    rw [Nat.add_mul, Nat.one_mul] at hle
    have h5 : q * Wn ≤ 512 * 512 := Nat.mul_le_mul (by omega) (by omega)
    unfold rowAt
    rw [← hq, ← Int.natCast_mul, hr.len]
    omega
  obtain ⟨i0, hi, hz0, hz1, hz2⟩ := info_parts info24
  obtain ⟨n, hn, hn2, hn3⟩ : ∃ n : Nat, IntKind.i64.wrap ((A : Int) * (B : Int)) = (n : Int) ∧ n = B * A ∧ n ≤ 262144 := by
    have h3 : B * A ≤ 512 * 512 := Nat.mul_le_mul (by omega) (by omega)
    refine ⟨B * A, ?_, rfl, by omega⟩
    rw [show (A : Int) * (B : Int) = ((B * A : Nat) : Int) from by rw [Int.natCast_mul, Int.mul_comm]]
    rw [IntKind.wrap_i64]; omega
  have hlen2 : l.length ≤ 262144 := by have := Nat.mul_le_mul hr.h2 hr.w2; rw [hr.len]; omega
  obtain ⟨oM, hmk, hMO⟩ := make_law i0 hi hz0 hz1 hz2 n hn3
  have HMO := Lib.hid hMO
  have bl : b < w.heap.size := bl_blt0 hl (bl_pos0 hr)
  clear hMO hl hr hn2
  have HF1 := Lib.hid (Fld.new w X Y Wn Hn (.slice (some ⟨b, o, none⟩) l.length c))
  have b1 : Below w.heap.size w (w.alloc (.cells #[.int .i64 X, .int .i64 Y, .int .i64 Wn, .int .i64 Hn, .slice (some ⟨b, o, none⟩) l.length c] 26)) := (by repeat (first | with_reducible exact Below.refl _ _ | with_reducible apply Below.drew | with_reducible refine below_drewN ?_ _ | (with_reducible refine Below.setCell ?_ ?_ _; rotate_left; focus (first | omega | (simp <;> omega))) | (with_reducible refine Below.alloc ?_ ?_ _; rotate_left; focus (first | omega | (simp <;> omega)))))
  have HB1 := Lib.hid b1
  have hs1 : (w.alloc (.cells #[.int .i64 X, .int .i64 Y, .int .i64 Wn, .int .i64 Hn, .slice (some ⟨b, o, none⟩) l.length c] 26)).heap.size = w.heap.size + 1 := by simp
  have HS1 := Lib.hid hs1
  clear b1 hs1
  go_enter Try.func20, Try.ntmps20
  go_wp2_with fail
  go_region
  all_goals
    first
      | (obtain ⟨W0, hW0⟩ : ∃ W0 : World, ((((w.alloc (.cells #[.int .i64 X, .int .i64 Y, .int .i64 Wn, .int .i64 Hn, .slice (some ⟨b, o, none⟩) l.length c] 26)).alloc (.cells #[.int .i64 P, .int .i64 Q, .int .i64 (A : Int), .int .i64 (B : Int)] 23)).alloc (.cells #[.int .i64 0, .int .i64 0, .int .i64 0, .int .i64 0, .slice none 0 0] 26)).alloc (.cells #[.int .i64 P, .int .i64 Q, .int .i64 A, .int .i64 B, .slice (some ⟨w.heap.size + 1 + 1 + 1 + 1, 0, none⟩) 0 n] 26)).alloc oM = W0 := ⟨_, rfl⟩
         rw [hW0]
         have I0 := (make_start1 (w.alloc (.cells #[.int .i64 X, .int .i64 Y, .int .i64 Wn, .int .i64 Hn, .slice (some ⟨b, o, none⟩) l.length c] 26)) P Q A B oM n HMO.out W0 (by rw [← hW0]; simp)).drew
         rw [HS1.out] at I0
         have hk5 : w.heap.size + 3 ≤ w.heap.size + 1 + 1 + 1 := by omega
         generalize w.heap.size + 1 + 1 + 1 = k5 at *)
      | (obtain ⟨W0, hW0⟩ : ∃ W0 : World, ((((w.alloc (.cells #[.int .i64 X, .int .i64 Y, .int .i64 Wn, .int .i64 Hn, .slice (some ⟨b, o, none⟩) l.length c] 26)).alloc (.cells #[.int .i64 P, .int .i64 Q, .int .i64 (A : Int), .int .i64 (B : Int)] 23)).alloc (.cells #[.int .i64 0, .int .i64 0, .int .i64 0, .int .i64 0, .slice none 0 0] 26)).alloc oM).alloc (.cells #[.int .i64 P, .int .i64 Q, .int .i64 A, .int .i64 B, .slice (some ⟨w.heap.size + 1 + 1 + 1, 0, none⟩) 0 n] 26) = W0 := ⟨_, rfl⟩
         rw [hW0]
         have I0 := (make_start2 (w.alloc (.cells #[.int .i64 X, .int .i64 Y, .int .i64 Wn, .int .i64 Hn, .slice (some ⟨b, o, none⟩) l.length c] 26)) P Q A B oM n HMO.out W0 (by rw [← hW0]; simp)).drew
         rw [HS1.out] at I0
         have hk5 : w.heap.size + 3 ≤ w.heap.size + 1 + 1 + 1 + 1 := by omega
         generalize w.heap.size + 1 + 1 + 1 + 1 = k5 at *)
    clear hW0
    generalize W0.drew = W1 at *
    clear HMO hmk hn
    generalize w.alloc (.cells #[.int .i64 X, .int .i64 Y, .int .i64 Wn, .int .i64 Hn, .slice (some ⟨b, o, none⟩) l.length c] 26) = w1 at *
    have R0 : Reg W1 (w.heap.size + 1) P Q A B := by have := I0.rg; rwa [HS1.out] at this
    obtain ⟨q0, q1, q2, q3⟩ := R0.cells
    have lr := R0.lt
    have HI0 := Lib.hid I0
    clear R0 I0
    go_wp2_with fail
    clear q0 q1 q2 q3 lr
    go_loopw [6, 7] (fun vy _ wr => ∃ j : Nat, j ≤ B ∧ vy = .int .i64 (Q + j) ∧ ∃ v, MakeInv w1 wr k5 P Q A B v (cutL l X Y Wn P Q A (j * A))) (fun vy _ _ => (Q + B - intOf vy).toNat)
    case atStart => exact ⟨0, by omega, by simp, _, by rw [Nat.zero_mul]; exact HI0.out⟩
    case round =>
      clear HI0
      obtain ⟨j, hj, rfl, v, I⟩ := hrel
      have IH := Lib.hid I
      have R : Reg wr (w.heap.size + 1) P Q A B := by have := I.rg; rwa [HS1.out] at this
      have F := HF1.out.below I.below (by have := HS1.out; omega)
      obtain ⟨r0, r1, r2, r3⟩ := R.cells
      obtain ⟨f0, f1, f2, f3, f4⟩ := F.cells
      have c4 := I.fo.cells.2.2.2.2
      have lr := R.lt
      have lf := F.lt
      have lk := I.fo.lt
      have HRG := Lib.hid R
      clear R F I
      by_cases hlt : j < B
      · have b1 : (Q + j : Int) < Q + B := by omega
        obtain ⟨e1, e2, e3, e4⟩ := KB.out j hlt
        have HK := Lib.hid (KR.out j hlt)
        have hml : (cutL l X Y Wn P Q A (j * A)).length ≤ 262144 := by
          rw [cutL_len]
          have := Nat.mul_le_mul (show j ≤ 512 by omega) (show A ≤ 512 by omega)
          omega
        have hwf : Hid (∀ y ∈ (l.drop (rowAt X Y Wn P Q j)).take A, y < 4294967296) := fun y hy => HL.out.1.2 y (List.mem_of_mem_drop (List.mem_of_mem_take hy))
        have hyl : ((l.drop (rowAt X Y Wn P Q j)).take A).length = A := by rw [List.length_take, List.length_drop]; omega
        have hnews : Hid (∀ jj u, (fls ((l.drop (rowAt X Y Wn P Q j)).take A))[jj]? = some u → wr.cell? ((⟨b, o + rowAt X Y Wn P Q j, none⟩ : Addr).add jj) = some u) := by
          intro jj u hu
          have hjj : jj < A := by
            rcases Nat.lt_or_ge jj A with h | h
            · exact h
            · rw [List.getElem?_eq_none (by unfold fls; rw [List.length_map, hyl]; exact h)] at hu; cases hu
          unfold fls at hu
          rw [List.getElem?_map, List.getElem?_take, if_pos hjj, List.getElem?_drop, List.getElem?_eq_getElem (by omega)] at hu
          have hcell := (SRow.below HL.out (HB1.out.trans (IH.out.below.mono (by have := HS1.out; omega)))).at_ (k := rowAt X Y Wn P Q j + jj) (by omega)
          rw [List.getD_eq_getElem?_getD, List.getElem?_eq_getElem (by omega)] at hcell
          rw [Go.WideShapes.add_plain, Nat.add_assoc, hcell]
          exact hu
        have HYL := Lib.hid hyl
        have hKe : (Q + j - Y) * Wn + P - X = (rowAt X Y Wn P Q j : Int) := e1.symm
        clear e1 hyl
        generalize hPA : (Q + (j : Int) - Y) * (Wn : Int) = PA at *
        generalize (l.drop (rowAt X Y Wn P Q j)).take A = ys at *
        generalize rowAt X Y Wn P Q j = k0 at *
        generalize hm0 : cutL l X Y Wn P Q A (j * A) = m at *
        clear hm0
        have s1 : IntKind.i64.wrap ((k0 : Int) + (A : Int)) = (k0 : Int) + (A : Int) := IntWalk.i64_in _ (by omega)
        have s2 : ((k0 : Int) + (A : Int)).toNat = k0 + A := by omega
        have s3 : (0 : Int) ≤ (k0 : Int) + A := by omega
        have s4 : (k0 : Int) + A ≤ c := by omega
        have s5 : (k0 : Int) ≤ (k0 : Int) + A := by omega
        have s6 : ¬ c = k0 := by omega
        have G0 : Hid ((fls ys).length = A * 1) := by unfold Hid fls; rw [List.length_map, HYL.out, Nat.mul_one]
        have G1 : Hid (m.length + A ≤ maxLen) := by unfold maxLen Hid; omega
        have G2 : Hid ((m.length + A) * 4 ≤ 140737488355328) := by unfold Hid; omega
        have G3 : Hid (w1.heap.size + 2 ≤ wr.drew.heap.size) := by show w1.heap.size + 2 ≤ wr.heap.size; have := IH.out.k5g; omega
        have G4 : Hid (∀ u ∈ fls ys, u.oneCell' = true) := by
          intro u hu
          unfold fls at hu
          obtain ⟨x, _, rfl⟩ := List.mem_map.1 hu
          rfl
        have HLK := Lib.hid lk
        have HM : Hid (m ++ ys = cutL l X Y Wn P Q A ((j + 1) * A)) := by unfold Hid; rw [Nat.add_mul, Nat.one_mul]; exact HK.out.symm
        go_wp2_with fail
        go_region_law (first
          | (refine step_append_lies _ (by rfl) _ _ _ (by rfl) (w1.heap.size + 2) 27 i0 (.float .f32 0) 1 4 Try.underlying24 hi hz0 hz1 hz2 rfl (by omega) v m.length (fls m) (by rfl) IH.out.drew.own ⟨b, o + k0, none⟩ A (c - k0) (fls ys) (by rfl) G0.out hnews.out G4.out hA G1.out G2.out G3.out wr.heap.size rfl ?_; intro gg cap w3 hown3 hgrow3 hat3 hlt3; obtain ⟨e1, e2, e3, e4⟩ := IH.out.drew.mid0 hgrow3; have e5 := e3.cells.2.2.2.2; have e6 := e3.frozen 4; have hgk : gg ≠ k5 := (by rcases hat3 with h | h; exact (fun e => IH.out.ne (e ▸ h)); exact (fun e => by have := HLK.out; omega)); have M3 := Lib.hid (IH.out.drew.appN HYL.out hwf.out hown3 hgrow3 hgk); clear e1 e2 e3 e4 hown3 hgrow3 hat3 hlt3 hgk))
        all_goals
          go_wp2_with fail
          go_roundw
          case rel => exact ⟨j + 1, by omega, by go_num, _, HM.out ▸ M3.out⟩
          case measure => simp [intOf]; omega
      · have HE : Hid (j * A = B * A) := by
          have : j = B := by omega
          unfold Hid; rw [this]
        have IH2 : Hid (MakeInv w1 wr k5 P Q A B v (cutL l X Y Wn P Q A (B * A))) := HE.out ▸ IH.out
        clear IH
        have hml : Hid ((cutL l X Y Wn P Q A (B * A)).length = B * A) := cutL_len _ _ _ _ _ _ _ _
        have hm1 : Hid (1 ≤ B * A) := Nat.mul_le_mul hB hA
        generalize hmq : cutL l X Y Wn P Q A (B * A) = m at *
        have HMQ := Lib.hid hmq
        clear hmq
        obtain ⟨g, cap, rfl, hown⟩ : ∃ g cap, v = .slice (some ⟨g, 0, none⟩) m.length cap ∧ OwnF wr w.heap.size g cap m := by
          have ho := IH2.out.own
          have hs := HS1.out
          rcases ho.2 with ⟨_, h0⟩ | ⟨g, cap, cur, rfl, hB, hh, r⟩
          · exfalso
            have := hml.out; have := hm1.out; omega
          · exact ⟨g, cap, rfl, OwnF.base ⟨ho, IH2.out.wf⟩ (by omega)⟩
        have HO := Lib.hid hown
        have hgk : Hid (w1.heap.size + 2 ≤ g) := (IH2.out.own.lt g rfl).1
        clear hown
        clear c4
        obtain ⟨c0, c1, c2, c3, c4⟩ := IH2.out.fo.cells
        have FB : Fld wr (w.heap.size + 1 + 1) 0 0 0 0 (.slice none 0 0) := by have := IH2.out.rz; rwa [HS1.out] at this
        obtain ⟨d0, d1, d2, d3, d4⟩ := FB.cells
        have qf0 := FB.frozen 0
        have qf1 := FB.frozen 1
        have qf2 := FB.frozen 2
        have qf3 := FB.frozen 3
        have qf4 := FB.frozen 4
        have lz := FB.lt
        clear FB
        have HBX := Lib.hid (HB1.out.trans (IH2.out.below.mono (by have := HS1.out; omega)))
        clear IH2
        go_wp2_with fail
        obtain rfl := HMQ.out
        have B2 := HBX.out
        have O2 := HO.out
        have hgk2 := hgk.out
        have hs1 := HS1.out
        have hje : j = B := by omega
        subst hje
        refine bodyPost_ret (v := fldV P Q A j (some ⟨g, 0, none⟩) (cutL l X Y Wn P Q A (j * A)).length cap) (by simp [results, Try.results20, go_sem, *]) rfl ⟨g, cap, rfl, (by have hgg := O2.lt; repeat (first | with_reducible exact O2 | with_reducible refine OwnF.drew ?_ | with_reducible refine OwnF.drewN ?_ _ | (with_reducible refine OwnF.setCell ?_ ?_ _; rotate_left; focus (first | omega | (simp <;> omega))) | with_reducible refine OwnF.alloc ?_ _)), (by have hszz := B2.size; repeat (first | with_reducible exact B2 | with_reducible apply Below.drew | with_reducible refine below_drewN ?_ _ | (with_reducible refine Below.setCell ?_ ?_ _; rotate_left; focus (first | omega | (simp <;> omega))) | (with_reducible refine Below.alloc ?_ ?_ _; rotate_left; focus (first | omega | (simp <;> omega)))))⟩
end Go.Proofs.Ytiiogjjjgoeghaa

namespace Go.Proofs.Ytiiogjjjgoeghaa
open Go.ChangeShapes Go.WideShapes Go.ChangeAt Go.RowKit
open Ieee.Format (fin finE htE allFin allHt all_true all_false mulF subF addF Ht Bd divF rootF floorF easeF mixF)
set_option linter.unusedVariables false
set_option linter.unusedSimpArgs false
open Ieee.Format (lvN hiS loS lvN_lt)

theorem Right.home {X Y : Int} {Wn Hn : Nat} {l : List Nat} (h : Right X Y Wn Hn l) : Right 0 0 Wn Hn l := by
  have := h.w2; have := h.h2
  exact ⟨h.w1, h.w2, h.h1, h.h2, h.wh, by omega, by omega, by omega, by omega, h.len, h.ht⟩
theorem bxC_len (l : List Nat) (Wn Hn L x y : Nat) : (bxC l Wn Hn L x y).length = min (2 ^ L) (Hn - y * 2 ^ L) * min (2 ^ L) (Wn - x * 2 ^ L) := cutL_len _ _ _ _ _ _ _ _
theorem cutL_mem {l : List Nat} {X Y : Int} {Wn : Nat} {P Q : Int} {A n v : Nat} (h : v ∈ cutL l X Y Wn P Q A n) (h0 : ∀ x ∈ l, Ht x) : Ht v := by
  unfold cutL madeL at h
  obtain ⟨i, _, rfl⟩ := List.mem_map.1 h
  unfold cutV
  generalize (cellNo X Y Wn _ _).toNat = k
  rcases Nat.lt_or_ge k l.length with q | q
  · rw [List.getD_eq_getElem?_getD, List.getElem?_eq_getElem q]; exact h0 _ (List.getElem_mem q)
  · rw [List.getD_eq_getElem?_getD, List.getElem?_eq_none q]; show Ht 0; decide
theorem OwnF.caps {w : World} {B g cap : Nat} {l : List Nat} (h : OwnF w B g cap l) : l.length ≤ cap ∧ cap ≤ 9223372036854775807 := by
  rcases h.1.2 with ⟨h, _⟩ | ⟨g', cap', cur, hv, _, _, h2, h3, _⟩
  · simp at h
  · obtain rfl : cap = cap' := by simp at hv; exact hv.2
    exact ⟨h2, h3⟩
theorem blk_ne {w : World} {k j : Nat} {cs ds : Array Value} {t u : TypeId} (h : Blk w k cs t) (g : Blk w j ds u) (ht : t ≠ u) : k ≠ j := by
  rintro rfl
  have h2 := h.symm.trans g
  simp at h2
  exact ht h2.2
theorem offB_mono (Wn Hn : Nat) {a b : Nat} (h : a ≤ b) : offB Wn Hn a ≤ offB Wn Hn b := by
  induction b with
  | zero => rw [show a = 0 by omega]; exact Nat.le_refl _
  | succ n ih =>
    rcases Nat.lt_or_ge n a with q | q
    · rw [show a = n + 1 by omega]; exact Nat.le_refl _
    · exact Nat.le_trans (ih q) (Nat.le_add_right _ _)
def BdP (l : List Nat) (Wn Hn K : Nat) (w : World) (e : Ending) (w' : World) : Prop :=
  (∃ g cap, e = .returned (.slice (some ⟨g, 0, none⟩) (offB Wn Hn (K + 1)) cap) ∧ Rw w' g (alB l Wn Hn (K + 1))) ∧ Below w.heap.size w w'
set_option maxRecDepth 100000 in
set_option maxHeartbeats 4000000 in
theorem bounds_any (X Y : Int) (Wn Hn K : Nat) (b o c : Nat) (l : List Nat) (w : World) (hl : SRow w (some ⟨b, o, none⟩) l) (hc : l.length ≤ c) (hr : Right X Y Wn Hn l) (hK : Top Wn Hn K) :
    Calls Try.prog 10 #[fldV X Y Wn Hn (some ⟨b, o, none⟩) l.length c] w fun e w' => BdP l Wn Hn K w e w' := by
  have hw1 := hr.w1; have hw2 := hr.w2; have hh1 := hr.h1; have hh2 := hr.h2; have hwh := hr.wh
  have hK9 := hK.le hw2 hh2
  obtain ⟨i0, hi, hz0, hz1, hz2⟩ := info_parts infoBx
  have hlen := hr.len
  have HL := Lib.hid hl
  have KLV := Lib.hid (fun w => levels_any X Y Wn Hn K w hw2 hh2 hK)
  have KP := Lib.hid (fun (L x y : Nat) (hx : x * 2 ^ L < Wn) (hy : y * 2 ^ L < Hn) w hl => part_any 0 0 Wn Hn b o c l ((x * 2 ^ L : Nat) : Int) ((y * 2 ^ L : Nat) : Int) (min (2 ^ L) (Wn - x * 2 ^ L)) (min (2 ^ L) (Hn - y * 2 ^ L)) w hl hc hr.home (by have := Nat.pow_pos (n := L) (show 0 < 2 by omega); omega) (by have := Nat.pow_pos (n := L) (show 0 < 2 by omega); omega) (by omega) (by omega) (by omega) (by omega))
  have HT := Lib.hid hr.ht
  have KB := Lib.hid (fun l => lvN_bound hw2 l)
  have KC := Lib.hid (fun l => lvN_bound hh2 l)
  have KO := Lib.hid (fun L => offB_le hw1 hh1 hwh L)
  have KW := Lib.hid (fun L => Nat.mul_le_mul (lvN_self hw1 L) (lvN_self hh1 L))
  have HLW := Lib.hid (fun L x (h : x < lvN Wn L) => lvN_lt hw1 L x h)
  have HLH := Lib.hid (fun L x (h : x < lvN Hn L) => lvN_lt hh1 L x h)
  have hlt16 : l.length ≤ 65536 := by rw [hlen, Nat.mul_comm]; exact hwh
  have hlb : b < w.heap.size := bl_blt0 hl (bl_pos0 hr)
  clear hl hr hK hlen
  go_enter Try.func10, Try.ntmps10
  go_upto_region 1 with fail
  have b0 : Below w.heap.size w (w.alloc (.cells #[.int .i64 X, .int .i64 Y, .int .i64 (Wn : Int), .int .i64 (Hn : Int), .slice (some ⟨b, o, none⟩) l.length c] 26)) := (by repeat (first | with_reducible exact Below.refl _ _ | with_reducible apply Below.drew | with_reducible refine below_drewN ?_ _ | (with_reducible refine Below.setCell ?_ ?_ _; rotate_left; focus (first | omega | (simp <;> omega))) | (with_reducible refine Below.alloc ?_ ?_ _; rotate_left; focus (first | omega | (simp <;> omega)))))
  have F0 := Fld.new w X Y Wn Hn (.slice (some ⟨b, o, none⟩) l.length c)
  generalize w.alloc (.cells #[.int .i64 X, .int .i64 Y, .int .i64 (Wn : Int), .int .i64 (Hn : Int), .slice (some ⟨b, o, none⟩) l.length c] 26) = W0 at *
  obtain ⟨d0, d1, d2, d3, d4⟩ := F0.cells
  have l0 := F0.lt
  go_wp2_with fail
  refine (KLV.out _).mono ?_
  rintro e w1 ⟨⟨gS, capS, rfl, hS⟩, b1⟩
  have F1 := F0.below b1 F0.lt
  have hB1 := b0.trans (b1.mono b0.size)
  obtain ⟨B, hB⟩ : ∃ B, B = w1.heap.size := ⟨_, rfl⟩
  have I0 : BdInv w w1 X Y Wn Hn gS B (szs Wn Hn (K + 1)) (.slice (some ⟨b, o, none⟩) l.length c) (.slice none 0 0) 0 [] :=
    ⟨F1, hS, World.ownsRow_nil _ _ _ _, hB1, by have := F1.lt; omega, by have := hS.1; omega, by omega⟩
  have HI := Lib.hid I0
  clear F0 F1 b0 b1 hB1 hS I0 d0 d1 d2 d3 d4 l0 KLV hB
  go_wp2_with fail
  go_loopw [3, 14] (fun v iv wr => ∃ L : Nat, L ≤ K + 1 ∧ iv = .int .i64 (L : Int) ∧ BdInv w wr X Y Wn Hn gS B (szs Wn Hn (K + 1)) (.slice (some ⟨b, o, none⟩) l.length c) v (offB Wn Hn L) (alB l Wn Hn L)) (fun _ iv _ => K + 1 - (intOf iv).toNat)
  case atStart => exact ⟨0, by omega, rfl, HI.out⟩
  case round =>
    clear HI
    obtain ⟨L, hL, rfl, I⟩ := hrel
    have IH := Lib.hid I
    clear I
    by_cases hlt : L < K + 1
    · have hlt' : (L : Int) < (K : Int) + 1 := by omega
      obtain ⟨z1, z2⟩ := szs_get Wn Hn (K + 1) L hlt
      have s1 := IH.out.sz.2 _ _ z1
      have s2 := IH.out.sz.2 _ _ z2
      clear z1 z2
      have hWL := KB.out L
      have hHL := KC.out L
      generalize hnW : lvN Wn L = nW at *
      generalize hnH : lvN Hn L = nH at *
      go_upto_region 6 with fail
      have P5 : Pr (wr.alloc (.cells #[.int .i64 (nW : Int), .int .i64 (nH : Int)] 59)) wr.heap.size nW nH := Blk.new _ _ _
      have I5 := IH.out.alloc (.cells #[.int .i64 (nW : Int), .int .i64 (nH : Int)] 59)
      have G5 : B ≤ wr.heap.size := IH.out.bz
      generalize wr.alloc (.cells #[.int .i64 (nW : Int), .int .i64 (nH : Int)] 59) = W5 at *
      generalize wr.heap.size = k5 at *
      have HP5 := Lib.hid P5
      have HI5 := Lib.hid I5
      have HNW := Lib.hid hnW
      have HNH := Lib.hid hnH
      clear IH P5 I5 s1 s2 hnW hnH
      go_loopw [3, 21] (fun v iv wi => ∃ y : Nat, y ≤ nH ∧ iv = .int .i64 (y : Int) ∧ Pr wi k5 nW nH ∧ BdInv w wi X Y Wn Hn gS B (szs Wn Hn (K + 1)) (.slice (some ⟨b, o, none⟩) l.length c) v (offB Wn Hn L + y * nW) (alB l Wn Hn L ++ lvB l Wn Hn L y)) (fun _ iv _ => nH - (intOf iv).toNat)
      case atStart => exact ⟨0, by omega, rfl, HP5.out, by rw [Nat.zero_mul, Nat.add_zero, show lvB l Wn Hn L 0 = [] from rfl, List.append_nil]; exact HI5.out⟩
      case round =>
        clear HP5 HI5
        obtain ⟨y, hy, rfl, P, I⟩ := hrel
        have IH := Lib.hid I
        have HP := Lib.hid P
        have s1 : wr.cell? ⟨k5, 0, none⟩ = some (.int .i64 (nW : Int)) := P.cell 0
        have lk5 := P.lt
        clear I P
        by_cases hlty : y < nH
        · have hlty' : (y : Int) < (nH : Int) := by omega
          go_upto_region 9 with fail
          clear s1 lk5
          obtain ⟨wo, rfl⟩ : ∃ wo : World, wo = wr := ⟨_, rfl⟩
          go_loopw [3, 26] (fun v iv wx => ∃ x : Nat, x ≤ nW ∧ iv = .int .i64 (x : Int) ∧ Pr wx k5 nW nH ∧ BdInv w wx X Y Wn Hn gS B (szs Wn Hn (K + 1)) (.slice (some ⟨b, o, none⟩) l.length c) v (offB Wn Hn L + y * nW + x) ((alB l Wn Hn L ++ lvB l Wn Hn L y) ++ rwB l Wn Hn L y x)) (fun _ iv _ => nW - (intOf iv).toNat)
          case atStart => exact ⟨0, by omega, rfl, HP.out, by rw [Nat.add_zero, show rwB l Wn Hn L y 0 = [] from rfl, List.append_nil]; exact IH.out⟩
          case round =>
            clear IH HP
            obtain ⟨x, hx, rfl, P, I⟩ := hrel
            have IH := Lib.hid I
            have HP := Lib.hid P
            clear I P
            by_cases hltx : x < nW
            · have hltx' : (x : Int) < (nW : Int) := by omega
              have hxw := HLW.out L x (by rw [HNW.out]; exact hltx)
              have hyh := HLH.out L y (by rw [HNH.out]; exact hlty)
              have KC1 := Lib.hid (fun W => cells_any X Y Wn Hn L x y 0 0 W (by omega) hxw hyh hw2 hh2)
              have KP1 := Lib.hid (KP.out L x y hxw hyh)
              have HBX : Hid (bxC l Wn Hn L x y = cutL l 0 0 Wn ((x * 2 ^ L : Nat) : Int) ((y * 2 ^ L : Nat) : Int) (min (2 ^ L) (Wn - x * 2 ^ L)) (min (2 ^ L) (Hn - y * 2 ^ L) * min (2 ^ L) (Wn - x * 2 ^ L))) := Lib.hid rfl
              have HCT : Hid (∀ v ∈ bxC l Wn Hn L x y, Ht v) := fun v hv => cutL_mem hv HT.out
              have HCL : Hid (0 < (bxC l Wn Hn L x y).length ∧ (bxC l Wn Hn L x y).length ≤ 262144) := by
                unfold Hid
                rw [bxC_len]
                have p1 : 0 < 2 ^ L := Nat.pow_pos (by omega)
                have q1 : 0 < min (2 ^ L) (Hn - y * 2 ^ L) := by omega
                have q2 : 0 < min (2 ^ L) (Wn - x * 2 ^ L) := by omega
                exact ⟨Nat.mul_pos q1 q2, Nat.mul_le_mul (show min (2 ^ L) (Hn - y * 2 ^ L) ≤ 512 by omega) (show min (2 ^ L) (Wn - x * 2 ^ L) ≤ 512 by omega)⟩
              have HBB : Hid (bxB l Wn Hn L x y = [.int .i64 (L : Int), .int .i64 (x : Int), .int .i64 (y : Int), .float .f32 (loP (bxC l Wn Hn L x y)), .float .f32 (hiP (bxC l Wn Hn L x y))]) := Lib.hid rfl
              generalize min (2 ^ L) (Wn - x * 2 ^ L) = A at *
              generalize min (2 ^ L) (Hn - y * 2 ^ L) = A2 at *
              generalize x * 2 ^ L = sx at *
              generalize y * 2 ^ L = sy at *
              have e9 := HBX.out
              rw [← e9] at KP1
              clear e9 HBX hxw hyh
              generalize bxC l Wn Hn L x y = C at *
              go_upto_region 12 with fail
              have hvb : some wr.heap.size ≠ u3.ownBlock := fun e => by have := (IH.out.own.lt _ e.symm).2; omega
              have P8 : Blk (wr.alloc (.cells (boxL L x y 0 0) 53)) wr.heap.size (boxL L x y 0 0) 53 := Blk.new _ _ _
              have I8 := IH.out.alloc (.cells (boxL L x y 0 0) 53)
              have R8 : Pr (wr.alloc (.cells (boxL L x y 0 0) 53)) k5 nW nH := Blk.alloc HP.out _
              have G8 : B ≤ wr.heap.size := IH.out.bz
              clear IH HP
              generalize wr.alloc (.cells (boxL L x y 0 0) 53) = W8 at *
              generalize wr.heap.size = k8 at *
              have KC2 := Lib.hid (KC1.out W8)
              obtain ⟨d0, d1, d2, d3, d4⟩ := I8.fl.cells
              have s0 : W8.cell? ⟨k8, 0, none⟩ = some (.int .i64 (L : Int)) := P8.cell 0
              have s1 : W8.cell? ⟨k8, 1, none⟩ = some (.int .i64 (x : Int)) := P8.cell 1
              have s2 : W8.cell? ⟨k8, 2, none⟩ = some (.int .i64 (y : Int)) := P8.cell 2
              have s3 : W8.cell? ⟨k8, 3, none⟩ = some (.float .f32 0) := P8.cell 3
              have s4 : W8.cell? ⟨k8, 4, none⟩ = some (.float .f32 0) := P8.cell 4
              have lk8 := P8.lt
              have lw8 := I8.fl.lt
              have HP8 := Lib.hid P8
              have HI8 := Lib.hid I8
              have HR8 := Lib.hid R8
              clear P8 I8 R8 KC1
              go_wp2_with fail
              refine KC2.out.mono ?_
              rintro e w2 ⟨rfl, b2⟩
              have HB2 := Lib.hid b2
              clear b2 KC2 d0 d1 d2 d3 d4 s0 s1 s2 s3 s4
              go_upto_region 13 with fail
              have P9 : Blk (w2.alloc (.cells #[.int .i64 (sx : Int), .int .i64 (sy : Int), .int .i64 (A : Int), .int .i64 (A2 : Int)] 23)) k8 (boxL L x y 0 0) 53 := (HP8.out.below HB2.out lk8).alloc _
              have R9 : Pr (w2.alloc (.cells #[.int .i64 (sx : Int), .int .i64 (sy : Int), .int .i64 (A : Int), .int .i64 (A2 : Int)] 23)) k5 nW nH := (Blk.below HR8.out HB2.out HR8.out.lt).alloc _
              have I9 := (HI8.out.call HB2.out).alloc (.cells #[.int .i64 (sx : Int), .int .i64 (sy : Int), .int .i64 (A : Int), .int .i64 (A2 : Int)] 23)
              have C9 := Reg.new w2 (sx : Int) (sy : Int) (A : Int) (A2 : Int)
              clear HP8 HR8 HI8 HB2
              generalize w2.alloc (.cells #[.int .i64 (sx : Int), .int .i64 (sy : Int), .int .i64 (A : Int), .int .i64 (A2 : Int)] 23) = W9 at *
              generalize w2.heap.size = k9 at *
              obtain ⟨d0, d1, d2, d3, d4⟩ := I9.fl.cells
              obtain ⟨c0, c1, c2, c3⟩ := C9.cells
              have lk8 := P9.lt
              have lw8 := I9.fl.lt
              have lc9 := C9.lt
              have KP2 := Lib.hid (KP1.out W9 (HL.out.below I9.below))
              have HP9 := Lib.hid P9
              have HI9 := Lib.hid I9
              have HR9 := Lib.hid R9
              clear P9 I9 R9 C9 KP1
              go_wp2_with fail
              refine KP2.out.mono ?_
              rintro e w3 ⟨gp, cp, rfl, hO, b3⟩
              have P10 := HP9.out.below b3 HP9.out.lt
              have R10 := Blk.below HR9.out b3 HR9.out.lt
              have I10 := HI9.out.call b3
              have KS := Lib.hid (span_list sx sy A A2 C gp 0 cp w3 (hO.row (by have := HCL.out.2; omega)) HCL.out.1 hO.caps.1 hO.caps.2 HCT.out)
              have HP10 := Lib.hid P10
              have HI10 := Lib.hid I10
              have HR10 := Lib.hid R10
              clear P10 R10 I10 HP9 HI9 HR9 KP2 d0 d1 d2 d3 d4 c0 c1 c2 c3 lk8 lw8 lc9 hO b3
              go_wp2_with fail
              refine KS.out.mono ?_
              rintro e w4 ⟨rfl, b4⟩
              have P11 := HP10.out.below b4 HP10.out.lt
              have R11 := Blk.below HR10.out b4 HR10.out.lt
              have I11 := HI10.out.call b4
              have s3 : w4.cell? ⟨k8, 3, none⟩ = some (.float .f32 0) := P11.cell 3
              have s4 : w4.cell? ⟨k8, 4, none⟩ = some (.float .f32 0) := P11.cell 4
              have f3 := P11.frozen 3
              have f4 := P11.frozen 4
              have lk8 := P11.lt
              have HP11 := Lib.hid P11
              have HI11 := Lib.hid I11
              have HR11 := Lib.hid R11
              clear HP10 HI10 HR10 KS b4 P11 R11 I11
              generalize loP C = lo at *
              generalize hiP C = hh at *
              go_upto_region 14 with fail
              have n58 : k5 ≠ k8 := blk_ne HR11.out HP11.out (by decide)
              have P12 : Blk ((w4.setCell ⟨k8, 3, none⟩ (.float .f32 lo)).setCell ⟨k8, 4, none⟩ (.float .f32 hh)) k8 (boxL L x y lo hh) 53 := heap_setCell_same _ k8 4 _ _ (.float .f32 hh) (heap_setCell_same _ k8 3 _ _ (.float .f32 lo) HP11.out)
              have I12 := (HI11.out.setc (i := 3) G8 hvb (.float .f32 lo)).setc (i := 4) G8 hvb (.float .f32 hh)
              have R12 : Pr ((w4.setCell ⟨k8, 3, none⟩ (.float .f32 lo)).setCell ⟨k8, 4, none⟩ (.float .f32 hh)) k5 nW nH := Blk.setCell (Blk.setCell HR11.out (p := ⟨k8, 3, none⟩) n58 _) (p := ⟨k8, 4, none⟩) n58 _
              clear HP11 HI11 HR11 s3 s4 f3 f4 lk8
              generalize (w4.setCell ⟨k8, 3, none⟩ (.float .f32 lo)).setCell ⟨k8, 4, none⟩ (.float .f32 hh) = W12 at *
              have s0 : W12.cell? ⟨k8, 0, none⟩ = some (.int .i64 (L : Int)) := P12.cell 0
              have s1 : W12.cell? ⟨k8, 1, none⟩ = some (.int .i64 (x : Int)) := P12.cell 1
              have s2 : W12.cell? ⟨k8, 2, none⟩ = some (.int .i64 (y : Int)) := P12.cell 2
              have s3 : W12.cell? ⟨k8, 3, none⟩ = some (.float .f32 lo) := P12.cell 3
              have s4 : W12.cell? ⟨k8, 4, none⟩ = some (.float .f32 hh) := P12.cell 4
              have lk8 := P12.lt
              obtain ⟨N, hN⟩ : ∃ N, N = offB Wn Hn L + y * nW + x := ⟨_, rfl⟩
              obtain ⟨Ls, hLs⟩ : ∃ Ls, Ls = ((alB l Wn Hn L ++ lvB l Wn Hn L y) ++ rwB l Wn Hn L y x) := ⟨_, rfl⟩
              rw [← hN, ← hLs] at I12
              have HN2 : Hid (offB Wn Hn L + y * nW + (x + 1) = N + 1) := by unfold Hid; omega
              have HL2 : Hid (((alB l Wn Hn L ++ lvB l Wn Hn L y) ++ rwB l Wn Hn L y (x + 1)) = Ls ++ [.int .i64 (L : Int), .int .i64 (x : Int), .int .i64 (y : Int), .float .f32 lo, .float .f32 hh]) := by
                unfold Hid
                rw [← HBB.out, hLs, rwB]; simp only [List.append_assoc]
              have g0 := KO.out L
              have g1 : y * nW ≤ 512 * 512 := Nat.mul_le_mul (by omega) (by omega)
              have G1 : Hid (N + 1 ≤ maxLen) := by unfold maxLen Hid; omega
              have G2 : Hid ((N + 1) * 32 ≤ 140737488355328) := by unfold Hid; omega
              have G3 : Hid (B ≤ (W12.alloc (.cells (boxL L x y lo hh) 53)).heap.size) := by have := I12.bz; unfold Hid; simp; omega
              have HI12 := Lib.hid I12
              have HR12 := Lib.hid R12
              clear hN hLs g0 g1 P12 I12 R12 HCT HCL HBB
              go_wp2_with (at_builtin; refine wpList_append_own _ rfl _ _ 31 rfl B 53 i0 (.agg #[.int .i64 0, .int .i64 0, .int .i64 0, .float .f32 0, .float .f32 0]) 5 32 Try.underlying31 hi hz0 hz1 hz2 rfl (by decide) _ N Ls rfl (HI12.out.own.alloc _) ⟨W12.heap.size, 0, none⟩ 1 1 [.int .i64 (L : Int), .int .i64 (x : Int), .int .i64 (y : Int), .float .f32 lo, .float .f32 hh] rfl rfl (World.news_of_block (cs := boxL L x y lo hh) (t := 53) (fr := (0, 0)) (heap_alloc_new W12 _)) (by simp [Value.oneCell']) G1.out G2.out G3.out ?_; intro v' w5 hown' hgrow hnil; have HI13 := Lib.hid (HI12.out.app hown' hgrow); have HR13 := Lib.hid (HI12.out.prg HR12.out hgrow); clear hown' hgrow hnil s0 s1 s2 s3 s4 HI12 HR12)
              go_roundw
              case rel =>
                refine ⟨x + 1, by omega, by go_num, HR13.out, ?_⟩
                rw [HN2.out, HL2.out]
                exact HI13.out
              case measure => simp [intOf]; omega
            · obtain rfl : x = nW := by omega
              have e1 := HNW.out
              have HI2 : Hid (BdInv w wr X Y Wn Hn gS B (szs Wn Hn (K + 1)) (.slice (some ⟨b, o, none⟩) l.length c) u3 (offB Wn Hn L + (y + 1) * x) (alB l Wn Hn L ++ lvB l Wn Hn L (y + 1))) := by
                unfold Hid
                have h := IH.out
                rw [show offB Wn Hn L + (y + 1) * x = offB Wn Hn L + y * x + x by rw [Nat.add_mul, Nat.one_mul]; omega, lvB, e1, ← List.append_assoc]
                exact h
              clear IH e1
              go_wp2_with fail
              go_roundw
              case rel => exact ⟨y + 1, by omega, by go_num, HP.out, HI2.out⟩
              case measure => simp [intOf]; omega
        · obtain rfl : y = nH := by omega
          have e1 := HNW.out
          have e2 := HNH.out
          have HI2 : Hid (BdInv w wr X Y Wn Hn gS B (szs Wn Hn (K + 1)) (.slice (some ⟨b, o, none⟩) l.length c) u3 (offB Wn Hn (L + 1)) (alB l Wn Hn (L + 1))) := by
            unfold Hid
            have h := IH.out
            rw [show offB Wn Hn (L + 1) = offB Wn Hn L + y * nW by rw [offB, e1, e2, Nat.mul_comm], alB, e2]
            exact h
          clear IH HP s1 e1 e2
          go_wp2_with fail
          go_roundw
          case rel => exact ⟨L + 1, by omega, by go_num, HI2.out⟩
          case measure => simp [intOf]; omega
    · obtain rfl : L = K + 1 := by omega
      have h0 : 0 < offB Wn Hn (K + 1) := by
        have h1 : 0 < lvN Wn 0 * lvN Hn 0 := Nat.mul_pos hw1 hh1
        have h2 : offB Wn Hn 1 ≤ offB Wn Hn (K + 1) := offB_mono Wn Hn (by omega)
        have h3 : offB Wn Hn 1 = 0 + lvN Wn 0 * lvN Hn 0 := rfl
        omega
      obtain ⟨g, cap, rfl⟩ : ∃ g cap, u3 = .slice (some ⟨g, 0, none⟩) (offB Wn Hn (K + 1)) cap := by
        rcases IH.out.own.2 with ⟨_, h0'⟩ | ⟨g, cap, cur, rfl, _⟩
        · omega
        · exact ⟨g, cap, rfl⟩
      have HR := Lib.hid (Rw.own IH.out.own)
      have HB := Lib.hid IH.out.below
      clear IH h0
      generalize hN : offB Wn Hn (K + 1) = N at *
      have HNN := Lib.hid hN
      clear hN
      go_wp2_with fail
      exact bodyPost_ret (v := .slice (some ⟨g, 0, none⟩) N cap) (by simp [results, Try.results10, go_sem, *]) rfl ⟨⟨g, cap, by rw [HNN.out], HR.out⟩, HB.out⟩
end Go.Proofs.Ytiiogjjjgoeghaa

namespace Go.Proofs.Ytiiogjjjgoeghaa
open Go.ChangeShapes Go.WideShapes Go.ChangeAt Go.RowKit
open Ieee.Format (fin finE htE allFin allHt all_true all_false mulF subF addF Ht Bd divF rootF floorF easeF mixF)
set_option linter.unusedVariables false
set_option linter.unusedSimpArgs false
open Ieee.Format (num fin_num Ry Bx stF stF_some cr_tm crI crO upB hgF hg_mono lsF_num grF_num quo_num)

theorem But.set {B : Nat} {q : Nat → Prop} {w w' : World} (h : But B q w w') {p : Addr} (hq : q p.block ∨ B ≤ p.block) (u : Value) : But B q w (w'.setCell p u) :=
  h.trans ⟨rfl, rfl, rfl, by simp [World.setCell], fun k hk hn => Below.heap_setCell _ _ _ _ (by rintro rfl; rcases hq with h | h; exact hn h; omega)⟩
theorem But.call {q : Nat → Prop} {w w' w2 : World} (h : But w.heap.size q w w') (hb : Below w'.heap.size w' w2) : But w.heap.size q w w2 := h.trans ((But.of hb).mono h.size)
theorem But.alloc {q : Nat → Prop} {w w' : World} (h : But w.heap.size q w w') (o : Obj) : But w.heap.size q w (w'.alloc o) := h.call ((Below.refl _ _).alloc (Nat.le_refl _) _)

/-! ### a shot -/
def bX (X : Int) (Wn : Nat) : Option (Nat × Nat) → Int
  | none => 0
  | some (k, _) => X + ((k % Wn : Nat) : Int)
def bY (Y : Int) (Wn : Nat) : Option (Nat × Nat) → Int
  | none => 0
  | some (k, _) => Y + ((k / Wn : Nat) : Int)
def bT : Option (Nat × Nat) → Nat
  | none => 0
  | some (_, t) => t
def bK : Option (Nat × Nat) → Nat
  | none => 0
  | some (k, _) => k
abbrev shC (X Y Wn Hn : Int) (fv : Value) (r : Ry) (px py : Int) (t : Nat) (kc : Int) (st : Bool) (n : Int) : Array Value :=
  #[.int .i64 X, .int .i64 Y, .int .i64 Wn, .int .i64 Hn, fv, .float .f32 r.X, .float .f32 r.Y, .float .f32 r.H, .float .f32 r.DX, .float .f32 r.DY, .float .f32 r.DH, .float .f32 r.Mo, .int .i64 px, .int .i64 py, .float .f32 t, .int .i64 kc, .bool st, .int .i64 n]
/-- a shot of what was found so far -/
def Sh (w : World) (q : Nat) (X Y : Int) (Wn Hn : Nat) (fv : Value) (r : Ry) (S : Option (Nat × Nat)) (n : Nat) : Prop :=
  Blk w q (shC X Y Wn Hn fv r (bX X Wn S) (bY Y Wn S) (bT S) (bK S) S.isSome n) 49
/-- the region of a cell -/
def clB (X Y : Int) (Wn k : Nat) : Bx := ⟨X + ((k % Wn : Nat) : Int), Y + ((k / Wn : Nat) : Int), X + ((k % Wn : Nat) : Int) + 1, Y + ((k / Wn : Nat) : Int) + 1⟩

theorem clB_ok {X Y : Int} {Wn Hn k : Nat} (hw2 : Wn ≤ 512) (hh2 : Hn ≤ 512) (x1 : -4194304 ≤ X) (x2 : X ≤ 4194304 - Wn) (y1 : -4194304 ≤ Y) (y2 : Y ≤ 4194304 - Hn) (hkx : k % Wn < Wn) (hky : k / Wn < Hn) : (clB X Y Wn k).ok := by
  unfold clB
  generalize k % Wn = kx at *
  generalize k / Wn = ky at *
  constructor <;> dsimp only <;> omega
def TyP (b0 q : Nat) (X Y : Int) (Wn Hn : Nat) (fv : Value) (r : Ry) (S : Option (Nat × Nat)) (n : Nat) (w : World) (e : Ending) (w' : World) : Prop :=
  e = .returned (.tuple #[]) ∧ Sh w' q X Y Wn Hn fv r S n ∧ But w.heap.size (fun k => k = q) w w'
/-- what is written when a cell is the best so far -/
theorem Sh.upd {w : World} {q : Nat} {X Y : Int} {Wn Hn : Nat} {fv : Value} {r : Ry} {S : Option (Nat × Nat)} {n : Nat} (h : Sh w q X Y Wn Hn fv r S n) (k t : Nat) (px py : Int) (hx : bX X Wn (some (k, t)) = px) (hy : bY Y Wn (some (k, t)) = py) :
    Sh (((((w.setCell ⟨q, 12, none⟩ (.int .i64 px)).setCell ⟨q, 13, none⟩ (.int .i64 py)).setCell ⟨q, 14, none⟩ (.float .f32 t)).setCell ⟨q, 15, none⟩ (.int .i64 (k : Int))).setCell ⟨q, 16, none⟩ (.bool true)) q X Y Wn Hn fv r (some (k, t)) n := by
  unfold Sh
  rw [hx, hy]
  exact heap_setCell_same _ q 16 _ _ _ (heap_setCell_same _ q 15 _ _ _ (heap_setCell_same _ q 14 _ _ _ (heap_setCell_same _ q 13 _ _ _ (heap_setCell_same _ q 12 _ _ _ h))))
/-- one more was looked at -/
theorem Sh.inc {w : World} {q : Nat} {X Y : Int} {Wn Hn : Nat} {fv : Value} {r : Ry} {S : Option (Nat × Nat)} {n : Nat} (h : Sh w q X Y Wn Hn fv r S n) : Sh (w.setCell ⟨q, 17, none⟩ (.int .i64 ((n : Int) + 1))) q X Y Wn Hn fv r S (n + 1) := by
  have e : (((n + 1 : Nat) : Int)) = (n : Int) + 1 := by omega
  unfold Sh
  rw [e]
  exact heap_setCell_same _ q 17 _ _ _ h
theorem stF_tm {r : Ry} {c : Bx} {v t : Nat} (hr : r.ok) (hc : c.ok) (hv : Ht v) (h : stF r c v = some t) : Ieee.Format.Tm r t := by
  obtain ⟨hb, h1, h2, _⟩ := stF_some h
  obtain ⟨t1, t2⟩ := cr_tm hr hc hb
  refine ⟨?_, by have := t1.lo; grind, by have := t2.hi; grind⟩
  unfold stF at h
  rw [if_neg (by simpa using hb)] at h
  by_cases q1 : Ieee.single.V (hgF r (crI r c)) ≤ Ieee.single.V v
  · rw [if_pos q1] at h; obtain rfl := Option.some.inj h; exact t1.n
  · rw [if_neg q1] at h
    by_cases q2 : Ieee.single.V (hgF r (crO r c)) ≤ Ieee.single.V v
    · rw [if_pos q2] at h
      obtain rfl := Option.some.inj h
      have hD : Ieee.single.V r.DH ≠ 0 := fun h0 => by
        have := (hg_mono hr t1 t2 hb.2.2).2 (by rw [h0]; exact Rat.le_refl)
        have := (hg_mono hr t1 t2 hb.2.2).1 (by rw [h0]; exact Rat.le_refl)
        grind
      have fs := (hv.bd.sub hr.h.bd (by omega)).1
      exact lsF_num (grF_num (quo_num fs hr.dh.fin hD) t1.n) t2.n
    · rw [if_neg q2] at h; cases h
end Go.Proofs.Ytiiogjjjgoeghaa

namespace Go.Proofs.Ytiiogjjjgoeghaa
open Go.ChangeShapes Go.WideShapes Go.ChangeAt Go.RowKit
open Ieee.Format (fin finE htE allFin allHt all_true all_false mulF subF addF Ht Bd divF rootF floorF easeF mixF)
set_option linter.unusedVariables false
set_option linter.unusedSimpArgs false
open Ieee.Format (num fin_num Ry Bx stF stF_some cr_tm crI crO upB)

set_option maxRecDepth 100000 in
set_option maxHeartbeats 4000000 in
theorem try_any (X Y : Int) (Wn Hn q : Nat) (b o c : Nat) (l : List Nat) (r : Ry) (S : Option (Nat × Nat)) (n k : Nat) (w : World) (hl : SRow w (some ⟨b, o, none⟩) l) (hc : l.length ≤ c) (hr : Right X Y Wn Hn l) (hry : r.ok)
    (hs : Sh w q X Y Wn Hn (.slice (some ⟨b, o, none⟩) l.length c) r S n) (hbq : b ≠ q) (hk : k < l.length) (hSn : ∀ k0 t0, S = some (k0, t0) → num t0 ∧ k0 < l.length) :
    Calls Try.prog 12 #[.pointer (some ⟨q, 0, none⟩), .int .i64 (k : Int)] w fun e w' => TyP b q X Y Wn Hn (.slice (some ⟨b, o, none⟩) l.length c) r (upB S k (stF r (clB X Y Wn k) (l.getD k 0))) n w e w' := by
  have hw1 := hr.w1; have hw2 := hr.w2; have hh1 := hr.h1; have hh2 := hr.h2
  have x1 := hr.x1; have x2 := hr.x2; have y1 := hr.y1; have y2 := hr.y2
  have hwl : l.length = Hn * Wn := hr.len
  have hkx : k % Wn < Wn := Nat.mod_lt _ (by omega)
  have hky : k / Wn < Hn := Nat.div_lt_of_lt_mul (by rw [Nat.mul_comm]; omega)
  have hk16 : k < 65536 := Nat.lt_of_lt_of_le hk (by rw [hwl, Nat.mul_comm]; exact hr.wh)
  have HV : Hid (Ht (l.getD k 0)) := by
    unfold Hid
    rw [List.getD_eq_getElem?_getD, List.getElem?_eq_getElem hk]; exact hr.ht _ (List.getElem_mem hk)
  have c0 : w.cell? ⟨b, o + k, none⟩ = some (.float .f32 (l.getD k 0)) := hl.at_ hk
  have KS := Lib.hid (fun v (hv : Ht v) w => strikes_any r (clB X Y Wn k) v w hry (clB_ok hw2 hh2 x1 x2 y1 y2 hkx hky) hv)
  have HS := Lib.hid hs
  have hqw : q < w.heap.size := hs.lt
  have g0 : w.cell? ⟨q, 0, none⟩ = some (.int .i64 X) := hs.cell 0
  have g1 : w.cell? ⟨q, 1, none⟩ = some (.int .i64 Y) := hs.cell 1
  have g2 : w.cell? ⟨q, 2, none⟩ = some (.int .i64 Wn) := hs.cell 2
  have hw0 : ((Wn : Int) == 0) = false := by simp; omega
  have HCB : Hid (bxV (clB X Y Wn k) = reg (X + ((k % Wn : Nat) : Int)) (Y + ((k / Wn : Nat) : Int)) 1 1) := by
    unfold Hid clB bxV
    dsimp only
    rw [show X + ((k % Wn : Nat) : Int) + 1 - (X + ((k % Wn : Nat) : Int)) = 1 by omega, show Y + ((k / Wn : Nat) : Int) + 1 - (Y + ((k / Wn : Nat) : Int)) = 1 by omega]
  have kb : b < w.heap.size := bl_blt0 hl (by omega)
  have HL := Lib.hid hl
  clear hs hl hr
  have HKX : Hid (k % Wn < Wn ∧ k / Wn < Hn) := Lib.hid ⟨hkx, hky⟩
  have HCO : Hid ((clB X Y Wn k).ok) := Lib.hid (clB_ok hw2 hh2 x1 x2 y1 y2 hkx hky)
  have e1 : (k : Int).tmod (Wn : Int) = ((k % Wn : Nat) : Int) := by rw [Int.ofNat_tmod]
  have e2 : (k : Int).tdiv (Wn : Int) = ((k / Wn : Nat) : Int) := by rw [Int.ofNat_tdiv]
  have e3 : (k : Int) % (Wn : Int) = ((k % Wn : Nat) : Int) := by rw [Int.natCast_emod]
  have e4 : (k : Int) / (Wn : Int) = ((k / Wn : Nat) : Int) := by rw [Int.natCast_ediv]
  have HST : Hid (∀ t, bX X Wn (some (k, t)) = X + ((k % Wn : Nat) : Int) ∧ bY Y Wn (some (k, t)) = Y + ((k / Wn : Nat) : Int)) := fun t => ⟨rfl, rfl⟩
  generalize k % Wn = kx at *
  generalize k / Wn = ky at *
  have i1 : IntKind.i64.wrap (X + (kx : Int)) = X + (kx : Int) := IntWalk.i64_in _ (by omega)
  have i2 : IntKind.i64.wrap (Y + (ky : Int)) = Y + (ky : Int) := IntWalk.i64_in _ (by omega)
  obtain ⟨R2, hR2⟩ : ∃ z, z = upB S k (stF r (clB X Y Wn k) (l.getD k 0)) := ⟨_, rfl⟩
  rw [← hR2]
  have HR2 := Lib.hid hR2
  clear hR2
  go_enter Try.func12, Try.ntmps12
  go_wp2_with fail
  go_region
  have B1 : But w.heap.size (fun k => k = q) w (w.alloc (.cells #[.int .i64 (X + (kx : Int)), .int .i64 (Y + (ky : Int))] 36)).drew := (But.of (Below.refl _ _)).call (((Below.refl _ _).alloc (Nat.le_refl _) _).drew)
  have P1 : Blk (w.alloc (.cells #[.int .i64 (X + (kx : Int)), .int .i64 (Y + (ky : Int))] 36)).drew w.heap.size #[.int .i64 (X + (kx : Int)), .int .i64 (Y + (ky : Int))] 36 := (Blk.new _ _ _).drew
  have S1 : Sh (w.alloc (.cells #[.int .i64 (X + (kx : Int)), .int .i64 (Y + (ky : Int))] 36)).drew q X Y Wn Hn (.slice (some ⟨b, o, none⟩) l.length c) r S n := (Blk.alloc HS.out _).drew
  have c1 : (w.alloc (.cells #[.int .i64 (X + (kx : Int)), .int .i64 (Y + (ky : Int))] 36)).drew.cell? ⟨b, o + k, none⟩ = some (.float .f32 (l.getD k 0)) := (World.cell?_of_block (Below.heap_alloc w _ b kb)).trans c0
  have hqk : q ≠ w.heap.size := by omega
  clear HS c0 g0 g1 g2 e1 e2 e3 e4 i1 i2 HL
  generalize (w.alloc (.cells #[.int .i64 (X + (kx : Int)), .int .i64 (Y + (ky : Int))] 36)).drew = W1 at *
  generalize hk4 : w.heap.size = k4 at *
  have v0 : W1.cell? ⟨q, 4, none⟩ = some (.slice (some ⟨b, o, none⟩) l.length c) := S1.cell 4
  have p0 : W1.cell? ⟨q, 5, none⟩ = some (.float .f32 r.X) := S1.cell 5
  have p1 : W1.cell? ⟨q, 6, none⟩ = some (.float .f32 r.Y) := S1.cell 6
  have p2 : W1.cell? ⟨q, 7, none⟩ = some (.float .f32 r.H) := S1.cell 7
  have p3 : W1.cell? ⟨q, 8, none⟩ = some (.float .f32 r.DX) := S1.cell 8
  have p4 : W1.cell? ⟨q, 9, none⟩ = some (.float .f32 r.DY) := S1.cell 9
  have p5 : W1.cell? ⟨q, 10, none⟩ = some (.float .f32 r.DH) := S1.cell 10
  have p6 : W1.cell? ⟨q, 11, none⟩ = some (.float .f32 r.Mo) := S1.cell 11
  have t0 : W1.cell? ⟨k4, 0, none⟩ = some (.int .i64 (X + (kx : Int))) := P1.cell 0
  have t1 : W1.cell? ⟨k4, 1, none⟩ = some (.int .i64 (Y + (ky : Int))) := P1.cell 1
  have lq := S1.lt
  have lp := P1.lt
  have lb : b < W1.heap.size := World.block_lt_of_cell? W1 _ c1
  have KS2 := Lib.hid (KS.out _ HV.out)
  rw [HCB.out] at KS2
  have HON : Hid (∀ t, stF r (clB X Y Wn k) (l.getD k 0) = some t → num t) := fun t ht => by
    exact (stF_tm hry HCO.out HV.out ht).n
  unfold stA at KS2
  generalize hSF : stF r (clB X Y Wn k) (l.getD k 0) = ot at *
  generalize l.getD k 0 = v at *
  have HS1 := Lib.hid S1
  have HK4 := Lib.hid hk4
  have HP1 := Lib.hid P1
  have HB1 := Lib.hid B1
  clear S1 P1 B1 KS HV HCB hk4 hwl hSF HKX HCO
  go_wp2_with fail
  go_region_held3 (fun w' => w'.cell? ⟨q, 4, none⟩ = some (.slice (some ⟨b, o, none⟩) l.length c) ∧ w'.cell? ⟨q, 5, none⟩ = some (.float .f32 r.X) ∧ w'.cell? ⟨q, 6, none⟩ = some (.float .f32 r.Y) ∧ w'.cell? ⟨q, 7, none⟩ = some (.float .f32 r.H) ∧ w'.cell? ⟨q, 8, none⟩ = some (.float .f32 r.DX) ∧ w'.cell? ⟨q, 9, none⟩ = some (.float .f32 r.DY) ∧ w'.cell? ⟨q, 10, none⟩ = some (.float .f32 r.DH) ∧ w'.cell? ⟨q, 11, none⟩ = some (.float .f32 r.Mo) ∧ w'.cell? ⟨k4, 0, none⟩ = some (.int .i64 (X + (kx : Int))) ∧ w'.cell? ⟨k4, 1, none⟩ = some (.int .i64 (Y + (ky : Int))) ∧ w'.cell? ⟨b, o + k, none⟩ = some (.float .f32 v) ∧ Below W1.heap.size W1 w')
    (first
      | exact ⟨v0, p0, p1, p2, p3, p4, p5, p6, t0, t1, c1, (Below.refl _ _).drew⟩
      | (go_split_ands
         have hs := hb.size
         have hs2 := (show Below W1.heap.size W1 _ by assumption).size
         refine ⟨?_, ?_, ?_, ?_, ?_, ?_, ?_, ?_, ?_, ?_, ?_, ?_⟩
         all_goals first
           | (rw [hb.cell (by simp; omega)]; assumption)
           | exact Below.trans (by assumption) (hb.mono (by omega)))
      | (go_split_ands; refine ⟨?_, ?_, ?_, ?_, ?_, ?_, ?_, ?_, ?_, ?_, ?_, ?_⟩ <;> assumption))
    ((go_at_call 22; go_split_ands; refine (KS2.out _).mono ?_; rintro e2 w5 ⟨rfl, hb⟩))
  rename_i hHeld
  have BW := hHeld.2.2.2.2.2.2.2.2.2.2.2
  have u0 := hHeld.2.2.2.2.2.2.2.2.1
  have u1 := hHeld.2.2.2.2.2.2.2.2.2.1
  have S5 := Blk.below HS1.out BW lq
  have HS5 : Hid (Sh w5 q X Y Wn Hn (.slice (some ⟨b, o, none⟩) l.length c) r S n) := Lib.hid S5
  have HB5 := Lib.hid (HB1.out.trans ((But.of BW).mono (show k4 ≤ W1.heap.size by omega)))
  have lq5 := S5.lt
  have lp5 := (Blk.below HP1.out BW lp).lt
  clear hHeld S5 BW HS1 HB1 HP1 KS2 v0 p0 p1 p2 p3 p4 p5 p6 t0 t1 c1 lq lp lb
  rcases ot with _ | tt
  · go_wp2_with fail
    exact bodyPost_ret (v := .tuple #[]) (by simp [results, Try.results12, go_sem, *]) rfl ⟨rfl, by rw [HR2.out]; exact HS5.out, by rw [HK4.out]; exact HB5.out⟩
  · have ntt := HON.out tt rfl
    have fz := (HS5.out).frozen
    rcases S with _ | ⟨k0, t0⟩
    · have g16 : w5.cell? ⟨q, 16, none⟩ = some (.bool false) := HS5.out.cell 16
      have HU : Hid (upB none k (some tt) = some (k, tt)) := Lib.hid rfl
      have f12 := fz 12
      have f13 := fz 13
      have f14 := fz 14
      have f15 := fz 15
      have f16 := fz 16
      have h12 : w5.cell? ⟨q, 12, none⟩ = _ := HS5.out.cell 12
      have h13 : w5.cell? ⟨q, 13, none⟩ = _ := HS5.out.cell 13
      have h14 : w5.cell? ⟨q, 14, none⟩ = _ := HS5.out.cell 14
      have h15 : w5.cell? ⟨q, 15, none⟩ = _ := HS5.out.cell 15
      clear fz
      go_wp2_with fail
      refine bodyPost_ret (v := .tuple #[]) (by simp [results, Try.results12, go_sem, *]) rfl ⟨rfl, ?_, ?_⟩
      · rw [HR2.out, HU.out]
        exact HS5.out.upd k tt _ _ (HST.out tt).1 (HST.out tt).2
      · rw [HK4.out]
        exact ((((HB5.out.set (p := ⟨q, 12, none⟩) (.inl rfl) _).set (p := ⟨q, 13, none⟩) (.inl rfl) _).set (p := ⟨q, 14, none⟩) (.inl rfl) _).set (p := ⟨q, 15, none⟩) (.inl rfl) _).set (p := ⟨q, 16, none⟩) (.inl rfl) _
    · obtain ⟨nt0, hk0⟩ := hSn k0 t0 rfl
      have g16 : w5.cell? ⟨q, 16, none⟩ = some (.bool true) := HS5.out.cell 16
      have g14 : w5.cell? ⟨q, 14, none⟩ = some (.float .f32 t0) := HS5.out.cell 14
      have g15 : w5.cell? ⟨q, 15, none⟩ = some (.int .i64 (k0 : Int)) := HS5.out.cell 15
      have l1 := oL ntt nt0
      have l2 := oE ntt nt0
      by_cases d1 : Ieee.single.V tt < Ieee.single.V t0
      · rw [decide_eq_true d1] at l1
        have HU : Hid (upB (some (k0, t0)) k (some tt) = some (k, tt)) := by unfold Hid upB; dsimp only; rw [if_pos (.inl d1)]
        clear l2 d1
        have f12 := fz 12
        have f13 := fz 13
        have f14 := fz 14
        have f15 := fz 15
        have f16 := fz 16
        have h12 : w5.cell? ⟨q, 12, none⟩ = _ := HS5.out.cell 12
        have h13 : w5.cell? ⟨q, 13, none⟩ = _ := HS5.out.cell 13
        have h14 : w5.cell? ⟨q, 14, none⟩ = _ := HS5.out.cell 14
        have h15 : w5.cell? ⟨q, 15, none⟩ = _ := HS5.out.cell 15
        clear fz
        go_wp2_with fail
        refine bodyPost_ret (v := .tuple #[]) (by simp [results, Try.results12, go_sem, *]) rfl ⟨rfl, ?_, ?_⟩
        · rw [HR2.out, HU.out]
          exact HS5.out.upd k tt _ _ (HST.out tt).1 (HST.out tt).2
        · rw [HK4.out]
          exact ((((HB5.out.set (p := ⟨q, 12, none⟩) (.inl rfl) _).set (p := ⟨q, 13, none⟩) (.inl rfl) _).set (p := ⟨q, 14, none⟩) (.inl rfl) _).set (p := ⟨q, 15, none⟩) (.inl rfl) _).set (p := ⟨q, 16, none⟩) (.inl rfl) _
      · rw [decide_eq_false d1] at l1
        by_cases d2 : Ieee.single.V tt = Ieee.single.V t0
        · rw [decide_eq_true d2] at l2
          by_cases d3 : k < k0
          · have d3' : (k : Int) < (k0 : Int) := by omega
            have HU : Hid (upB (some (k0, t0)) k (some tt) = some (k, tt)) := by unfold Hid upB; dsimp only; rw [if_pos (.inr ⟨d2, d3⟩)]
            clear d1 d2
            have f12 := fz 12
            have f13 := fz 13
            have f14 := fz 14
            have f15 := fz 15
            have f16 := fz 16
            have h12 : w5.cell? ⟨q, 12, none⟩ = _ := HS5.out.cell 12
            have h13 : w5.cell? ⟨q, 13, none⟩ = _ := HS5.out.cell 13
            have h14 : w5.cell? ⟨q, 14, none⟩ = _ := HS5.out.cell 14
            have h15 : w5.cell? ⟨q, 15, none⟩ = _ := HS5.out.cell 15
            clear fz
            go_wp2_with fail
            refine bodyPost_ret (v := .tuple #[]) (by simp [results, Try.results12, go_sem, *]) rfl ⟨rfl, ?_, ?_⟩
            · rw [HR2.out, HU.out]
              exact HS5.out.upd k tt _ _ (HST.out tt).1 (HST.out tt).2
            · rw [HK4.out]
              exact ((((HB5.out.set (p := ⟨q, 12, none⟩) (.inl rfl) _).set (p := ⟨q, 13, none⟩) (.inl rfl) _).set (p := ⟨q, 14, none⟩) (.inl rfl) _).set (p := ⟨q, 15, none⟩) (.inl rfl) _).set (p := ⟨q, 16, none⟩) (.inl rfl) _
          · have d3' : ¬ (k : Int) < (k0 : Int) := by omega
            have HU : Hid (upB (some (k0, t0)) k (some tt) = some (k0, t0)) := by unfold Hid upB; dsimp only; rw [if_neg (by rintro (h | h); exact d1 h; exact d3 h.2)]
            clear d1 d2
            go_wp2_with fail
            exact bodyPost_ret (v := .tuple #[]) (by simp [results, Try.results12, go_sem, *]) rfl ⟨rfl, by rw [HR2.out, HU.out]; exact HS5.out, by rw [HK4.out]; exact HB5.out⟩
        · rw [decide_eq_false d2] at l2
          have HU : Hid (upB (some (k0, t0)) k (some tt) = some (k0, t0)) := by unfold Hid upB; dsimp only; rw [if_neg (by rintro (h | h); exact d1 h; exact d2 h.1)]
          clear d1 d2
          go_wp2_with fail
          exact bodyPost_ret (v := .tuple #[]) (by simp [results, Try.results12, go_sem, *]) rfl ⟨rfl, by rw [HR2.out, HU.out]; exact HS5.out, by rw [HK4.out]; exact HB5.out⟩
end Go.Proofs.Ytiiogjjjgoeghaa

namespace Go.Proofs.Ytiiogjjjgoeghaa
open Go.ChangeShapes Go.WideShapes Go.ChangeAt Go.RowKit
open Ieee.Format (fin finE htE allFin allHt all_true all_false mulF subF addF Ht Bd divF rootF floorF easeF mixF)
set_option linter.unusedVariables false
open Ieee.Format (floor_spec whole_int frac_bd frac_zero const_40)

theorem const_n40 : fin Ieee.single 3548381184 ∧ Ieee.single.V 3548381184 = -Ieee.P2 40 := by
  refine ⟨by decide, ?_⟩
  rw [← const_40.2.1]
  exact Ieee.Format.V_neg_word (by decide) const_40.2.2 (by decide)
theorem const_23 : fin Ieee.single 1258291200 ∧ Ieee.single.V 1258291200 = Ieee.P2 23 ∧ Ieee.single.sgn 1258291200 = false := by
  have := Ieee.Format.V_const false 149 8388608 (.inr (by decide)) (by decide) (by decide)
  rw [show Ieee.single.word false (149 * 8388608 + 8388608) = 1258291200 from by decide] at this
  refine ⟨this.1, ?_, this.2.2⟩
  rw [this.2.1, show ((149 : Nat) : Int) - 149 = 0 from rfl, Ieee.P2_zero]
  have e : Ieee.P2 23 = ((8388608 : Nat) : Rat) := Ieee.P2_nat 23
  rw [e]; simp [Ieee.sg]

def floorZ (x : Nat) : Int := (floatToIntVal .f32 (floorF x) .i64).getD 0
theorem floorZ_spec {x : Nat} (hx : fin Ieee.single x) (hl : x < 4294967296) (h1 : -Ieee.P2 40 ≤ Ieee.single.V x) (h2 : Ieee.single.V x ≤ Ieee.P2 40) :
    floatToIntVal .f32 (floorF x) .i64 = some (floorZ x) ∧ Ieee.single.V (floorF x) = (floorZ x : Rat) ∧ (floorZ x : Rat) ≤ Ieee.single.V x ∧ Ieee.single.V x < (floorZ x : Rat) + 1 ∧ -1099511627776 ≤ floorZ x ∧ floorZ x ≤ 1099511627776 := by
  obtain ⟨X, s, m, i, _, _, _, hf, _, z, g1, g2, g3⟩ := floor_spec hx hl
  have e40 : Ieee.P2 40 = ((1099511627776 : Int) : Rat) := Ieee.P2_nat 40
  have b1 : z ≤ 1099511627776 := by
    have : (z : Rat) ≤ ((1099511627776 : Int) : Rat) := by rw [← e40]; grind
    exact Rat.intCast_le_intCast.1 this
  have b2 : -1099511627776 < z + 1 := by
    have : ((-1099511627776 : Int) : Rat) < ((z + 1 : Int) : Rat) := by
      rw [Rat.intCast_add, show (-1099511627776 : Int) = -(1099511627776 : Int) from rfl, Rat.intCast_neg, ← e40]
      have : ((1 : Int) : Rat) = 1 := rfl
      grind
    exact Rat.intCast_lt_intCast.1 this
  have hw := whole_int hf g1 (by omega) (by omega)
  have e : floorZ x = z := by unfold floorZ; rw [hw]; rfl
  rw [e]
  exact ⟨hw, g1, g2, g3, by omega, b1⟩

def wholeF (x : Nat) : Int := if lss x 3548381184 = true then -1099511627776 else if gtr x 1400897536 = true then 1099511627776 else floorZ x
theorem wholeF_bd {x : Nat} (hx : fin Ieee.single x) (hl : x < 4294967296) : -1099511627776 ≤ wholeF x ∧ wholeF x ≤ 1099511627776 := by
  unfold wholeF
  split
  · omega
  · split
    · omega
    · rename_i h1 h2
      rw [lss_V hx const_n40.1, const_n40.2] at h1
      rw [gtr_V hx const_40.1, const_40.2.1] at h2
      simp only [decide_eq_true_eq] at h1 h2
      have := floorZ_spec hx hl (by grind) (by grind)
      omega

/-- the value between the cells -/
def betR (X Y : Int) (Wn Hn : Nat) (l : List Nat) (x y : Nat) : Option Nat := bilV X Y Wn Hn l (wholeF x) (wholeF y) (subF x (floorF x)) (subF y (floorF y))

end Go.Proofs.Ytiiogjjjgoeghaa
