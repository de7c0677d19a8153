import Derived.Test.YtiiogjjjgoeghaaG08
import Derived.Test.YtiiogjjjgoeghaaG05
import Derived.IntWalk
import Derived.BigQuiet
import Derived.StillTailTactics
import Derived.Test.YtiiogjjjgoeghaaG01
import Derived.Test.YtiiogjjjgoeghaaG04
import Derived.Deep.RegionHeld3
import Derived.Test.YtiiogjjjgoeghaaG03
import Derived.Test.YtiiogjjjgoeghaaG06
import Derived.Test.YtiiogjjjgoeghaaG02
import Derived.Deep.QuietTactic
namespace Go.Proofs.Ytiiogjjjgoeghaa
open Go.ChangeShapes Go.WideShapes Go.ChangeAt Go.RowKit
open Ieee.Format (fin finE htE allFin allHt all_true all_false mulF subF addF Ht Bd divF rootF floorF easeF mixF)
set_option linter.unusedVariables false
set_option linter.unusedSimpArgs false
open Ieee.Format (lvN)

theorem infoA2 : (Try.prog.info? 59).map (fun i => (i.zero, i.size, i.bytes)) = some (some (.agg #[.int .i64 0, .int .i64 0]), 2, 16) := by kernel_rfl
/-- values that lie in a block -/
def Rw (w : World) (g : Nat) (L : List Value) : Prop := g < w.heap.size ∧ ∀ i u, L[i]? = some u → w.cell? ⟨g, i, none⟩ = some u
theorem Rw.below {w w' : World} {B g : Nat} {L : List Value} (h : Rw w g L) (hb : Below B w w') (hg : g < B) : Rw w' g L :=
  ⟨Nat.lt_of_lt_of_le h.1 hb.size, fun i u hi => (hb.cell (p := ⟨g, i, none⟩) hg).trans (h.2 i u hi)⟩
theorem Rw.own {w : World} {B g cap n size : Nat} {e : TypeId} {L : List Value} (h : w.ownsRow B e size (.slice (some ⟨g, 0, none⟩) n cap) n L) : Rw w g L := by
  refine ⟨(h.lt g rfl).2, fun i u hi => ?_⟩
  have hl : i < L.length := by
    rcases Nat.lt_or_ge i L.length with q | q
    · exact q
    · rw [List.getElem?_eq_none q] at hi; cases hi
  rw [h.cellAt i (by rw [← h.1]; exact hl)]
  exact hi
/-- the sizes of levels -/
def szs (Wn Hn : Nat) : Nat → List Value
  | 0 => []
  | n + 1 => szs Wn Hn n ++ [.int .i64 (lvN Wn n : Int), .int .i64 (lvN Hn n : Int)]
theorem szs_len (Wn Hn : Nat) : ∀ n, (szs Wn Hn n).length = n * 2
  | 0 => rfl
  | n + 1 => by rw [szs, List.length_append, szs_len Wn Hn n]; simp; omega
theorem szs_get (Wn Hn : Nat) : ∀ n l, l < n → (szs Wn Hn n)[l * 2]? = some (.int .i64 (lvN Wn l : Int)) ∧ (szs Wn Hn n)[l * 2 + 1]? = some (.int .i64 (lvN Hn l : Int))
  | 0, l, h => by omega
  | n + 1, l, h => by
    have hl := szs_len Wn Hn n
    rw [szs]
    by_cases e : l = n
    · subst e
      rw [List.getElem?_append_right (by omega), List.getElem?_append_right (by omega), hl]
      rw [show l * 2 - l * 2 = 0 by omega, show l * 2 + 1 - l * 2 = 1 by omega]
      exact ⟨rfl, rfl⟩
    · rw [List.getElem?_append_left (by omega), List.getElem?_append_left (by omega)]
      exact szs_get Wn Hn n l (by omega)
theorem lvN_mono {n m : Nat} (h : n ≤ m) : ∀ l, lvN n l ≤ lvN m l
  | 0 => h
  | l + 1 => by have := lvN_mono h l; unfold lvN; omega
theorem lvN_bound {n : Nat} (h : n ≤ 512) : ∀ l, lvN n l ≤ 512
  | 0 => h
  | l + 1 => by have := lvN_bound h l; unfold lvN; omega
theorem lvN_nine {n : Nat} (h : n ≤ 512) : lvN n 9 ≤ 1 := Nat.le_trans (lvN_mono h 9) (by decide)
/-- which level is the top -/
structure Top (Wn Hn K : Nat) : Prop where
  w : lvN Wn K ≤ 1
  h : lvN Hn K ≤ 1
  lt : ∀ l, l < K → 1 < lvN Wn l ∨ 1 < lvN Hn l
theorem Top.le {Wn Hn K : Nat} (t : Top Wn Hn K) (hW : Wn ≤ 512) (hH : Hn ≤ 512) : K ≤ 9 := by
  rcases Nat.lt_or_ge 9 K with h | h
  · have := t.lt 9 h
    have := lvN_nine hW
    have := lvN_nine hH
    omega
  · exact h
theorem top_ex (p : Nat → Prop) : ∀ n, p n → ∃ k, p k ∧ ∀ l, l < k → ¬ p l
  | 0, h => ⟨0, h, fun l hl => by omega⟩
  | n + 1, h => by
    by_cases c : ∃ k, k ≤ n ∧ p k
    · obtain ⟨k, hk, hp⟩ := c
      exact top_ex (fun i => p i) k hp
    · exact ⟨n + 1, h, fun l hl hp => c ⟨l, by omega, hp⟩⟩
termination_by n => n
theorem Top.ex {Wn Hn : Nat} (hW : Wn ≤ 512) (hH : Hn ≤ 512) : ∃ K, Top Wn Hn K := by
  obtain ⟨k, h, hl⟩ := top_ex (fun l => lvN Wn l ≤ 1 ∧ lvN Hn l ≤ 1) 9 ⟨lvN_nine hW, lvN_nine hH⟩
  refine ⟨k, h.1, h.2, fun l hlk => ?_⟩
  have := hl l hlk
  omega

/-- a pair of ints in a block of its own -/
def Pr (w : World) (k : Nat) (a b : Int) : Prop := Blk w k #[.int .i64 a, .int .i64 b] 59
theorem Pr.set {w : World} {k : Nat} {a b : Int} (h : Pr w k a b) (c d : Int) : Pr ((w.setCell ⟨k, 0, none⟩ (.int .i64 c)).setCell ⟨k, 1, none⟩ (.int .i64 d)) k c d := by
  have h1 := heap_setCell_same w k 0 _ _ (.int .i64 c) h
  exact heap_setCell_same _ k 1 _ _ (.int .i64 d) h1
theorem Blk.grown {w w' : World} {k : Nat} {cs : Array Value} {t : TypeId} {r : Option Nat} (h : Blk w k cs t) (hg : w.grownBy w' r) (hk : some k ≠ r) : Blk w' k cs t := (hg.block k h.lt hk).trans h

def lenOf : Value → Nat
  | .slice _ n _ => n
  | _ => 0
theorem own_len {w : World} {B size n : Nat} {e : TypeId} {v : Value} {xs : List Value} (h : w.ownsRow B e size v n xs) (hn : 0 < n) : lenOf v = n := by
  rcases h.2 with ⟨_, h0⟩ | ⟨g, cap, cur, rfl, _⟩
  · omega
  · rfl
structure LvInv (w wr : World) (Wn Hn l k4 : Nat) (v : Value) : Prop where
  own : wr.ownsRow w.heap.size 59 2 v (l + 1) (szs Wn Hn (l + 1))
  pr : Pr wr k4 (lvN Wn l) (lvN Hn l)
  kg : w.heap.size ≤ k4
  ne : some k4 ≠ v.ownBlock
  below : Below w.heap.size w wr
def LvQ (Wn Hn K : Nat) (w : World) (e : Ending) (w' : World) : Prop := (∃ g cap, e = .returned (.slice (some ⟨g, 0, none⟩) (K + 1) cap) ∧ Rw w' g (szs Wn Hn (K + 1))) ∧ Below w.heap.size w w'
structure LvMid (w wr : World) (Wn Hn l k4 : Nat) (a2 b2 : Nat) (v : Value) : Prop where
  own : wr.ownsRow w.heap.size 59 2 v (l + 1) (szs Wn Hn (l + 1))
  pr : Pr wr k4 a2 b2
  kg : w.heap.size ≤ k4
  ne : some k4 ≠ v.ownBlock
  below : Below w.heap.size w wr
theorem LvInv.mid {w wr : World} {Wn Hn l k4 : Nat} {v : Value} (h : LvInv w wr Wn Hn l k4 v) (a2 b2 : Nat) :
    LvMid w ((wr.setCell ⟨k4, 0, none⟩ (.int .i64 a2)).setCell ⟨k4, 1, none⟩ (.int .i64 b2)) Wn Hn l k4 a2 b2 v := by
  have hne : v.ownBlock ≠ some k4 := fun e => h.ne e.symm
  have kg := h.kg
  have hb := h.below
  exact ⟨ownsRow_setCell_other (ownsRow_setCell_other h.own (a := ⟨k4, 0, none⟩) hne _) (a := ⟨k4, 1, none⟩) hne _, h.pr.set _ _, h.kg, h.ne, (by have hszz := hb.size; repeat (first | with_reducible exact hb | with_reducible apply Below.drew | with_reducible refine below_drewN ?_ _ | (with_reducible refine Below.setCell ?_ ?_ _; rotate_left; focus (first | omega | (simp <;> omega))) | (with_reducible refine Below.alloc ?_ ?_ _; rotate_left; focus (first | omega | (simp <;> omega)))))⟩
theorem LvMid.app {w wr w4 : World} {Wn Hn l k4 a2 b2 : Nat} {v v' : Value} {o : Obj} (h : LvMid w wr Wn Hn l k4 a2 b2 v)
    (hown : w4.ownsRow w.heap.size 59 2 v' (l + 1 + 1) (szs Wn Hn (l + 1) ++ [.int .i64 (a2 : Int), .int .i64 (b2 : Int)]))
    (hg : (wr.alloc o).grownBy w4 v.ownBlock) (hs : szs Wn Hn (l + 1 + 1) = szs Wn Hn (l + 1) ++ [.int .i64 (a2 : Int), .int .i64 (b2 : Int)]) (ea : a2 = lvN Wn (l + 1)) (eb : b2 = lvN Hn (l + 1)) :
    Pr w4 k4 a2 b2 ∧ ∀ u, u = (.cells #[.int .i64 (a2 : Int), .int .i64 (b2 : Int)] 59) → LvInv w (w4.alloc u) Wn Hn (l + 1) w4.heap.size v' := by
  have hA : Below w.heap.size w (wr.alloc o) := h.below.alloc h.below.size _
  have hB : Below w.heap.size w w4 := by
    refine hA.grown hg hA.size (fun k hk => ?_)
    have := (h.own.lt k hk).1
    omega
  have hP : Pr (wr.alloc o) k4 a2 b2 := Blk.alloc h.pr o
  refine ⟨Blk.grown hP hg h.ne, ?_⟩
  rintro u rfl
  refine ⟨?_, ?_, hB.size, ?_, hB.alloc hB.size _⟩
  · rw [hs]; exact hown.alloc _
  · rw [← ea, ← eb]; exact Blk.new _ _ _
  · intro e
    have := (hown.lt _ e.symm).2
    omega
set_option maxRecDepth 100000 in
set_option maxHeartbeats 2000000 in
theorem levels_any (X Y : Int) (Wn Hn K : Nat) (w : World) (hW : Wn ≤ 512) (hH : Hn ≤ 512) (hK : Top Wn Hn K) :
    Calls Try.prog 17 #[reg X Y Wn Hn] w fun e w' => LvQ Wn Hn K w e w' := by
  have hK9 := hK.le hW hH
  obtain ⟨i0, hi, hz0, hz1, hz2⟩ := info_parts infoA2
  have KB := Lib.hid (fun l => lvN_bound hW l)
  have KC := Lib.hid (fun l => lvN_bound hH l)
  have KT := Lib.hid hK
  clear hK
  go_enter Try.func17, Try.ntmps17
  go_upto_region 1 with fail
  have b0 : Below w.heap.size w (w.alloc (.cells #[.int .i64 X, .int .i64 Y, .int .i64 (Wn : Int), .int .i64 (Hn : Int)] 23)) := (by repeat (first | with_reducible exact Below.refl _ _ | with_reducible apply Below.drew | with_reducible refine below_drewN ?_ _ | (with_reducible refine Below.setCell ?_ ?_ _; rotate_left; focus (first | omega | (simp <;> omega))) | (with_reducible refine Below.alloc ?_ ?_ _; rotate_left; focus (first | omega | (simp <;> omega)))))
  have R0 := Reg.new w X Y Wn Hn
  generalize w.alloc (.cells #[.int .i64 X, .int .i64 Y, .int .i64 (Wn : Int), .int .i64 (Hn : Int)] 23) = W0 at *
  obtain ⟨r0, r1, r2, r3⟩ := R0.cells
  have l0 := R0.lt
  have hs0 := b0.size
  go_upto_region 2 with fail
  have O1 : (W0.alloc (.cells #[.int .i64 (Wn : Int), .int .i64 (Hn : Int)] 59)).ownsRow w.heap.size 59 2 (.slice (some ⟨W0.heap.size, 0, none⟩) 1 1) 1 (szs Wn Hn 1) := World.ownsRow_lit W0 #[.int .i64 (Wn : Int), .int .i64 (Hn : Int)] 1 hs0 (by decide) rfl
  have b1 := b0.trans (show Below w.heap.size W0 (W0.alloc (.cells #[.int .i64 (Wn : Int), .int .i64 (Hn : Int)] 59)) from (Below.refl _ _).alloc hs0 _)
  have hlt1 : W0.heap.size < (W0.alloc (.cells #[.int .i64 (Wn : Int), .int .i64 (Hn : Int)] 59)).heap.size := by simp
  clear r0 r1 r2 r3 R0 l0 b0
  generalize W0.alloc (.cells #[.int .i64 (Wn : Int), .int .i64 (Hn : Int)] 59) = W1 at *
  generalize W0.heap.size = g0 at *
  have p0 : W1.cell? ⟨g0, 0, none⟩ = some (.int .i64 (Wn : Int)) := O1.cellAt 0 (by decide)
  have p1 : W1.cell? ⟨g0, 1, none⟩ = some (.int .i64 (Hn : Int)) := O1.cellAt 1 (by decide)
  go_upto_region 3 with fail
  have I0 : LvInv w (W1.alloc (.cells #[.int .i64 (Wn : Int), .int .i64 (Hn : Int)] 59)) Wn Hn 0 W1.heap.size (.slice (some ⟨g0, 0, none⟩) 1 1) :=
    ⟨O1.alloc _, Blk.new _ _ _, b1.size, by simp [Value.ownBlock]; omega, b1.alloc b1.size _⟩
  clear p0 p1 O1 b1 hlt1 hs0
  have HI := Lib.hid I0
  clear I0
  generalize W1.heap.size = kk at *
  generalize W1.alloc (.cells #[.int .i64 (Wn : Int), .int .i64 (Hn : Int)] 59) = W2 at *
  go_loopw [3, 4] (fun v p wr => ∃ l k4 : Nat, l ≤ K ∧ p = .pointer (some ⟨k4, 0, none⟩) ∧ LvInv w wr Wn Hn l k4 v) (fun v _ _ => K + 1 - lenOf v)
  case atStart => exact ⟨0, kk, by omega, rfl, HI.out⟩
  case round =>
    obtain ⟨l, k4, hl, rfl, I⟩ := hrel
    have IH := Lib.hid I
    have q0 : wr.cell? ⟨k4, 0, none⟩ = some (.int .i64 (lvN Wn l : Int)) := I.pr.cell 0
    have q1 : wr.cell? ⟨k4, 1, none⟩ = some (.int .i64 (lvN Hn l : Int)) := I.pr.cell 1
    have lk := I.pr.lt
    clear I
    have ha := KB.out l
    have hb := KC.out l
    have hkk : Hid ((l + 1 = K ∨ l < K → True) ∧ szs Wn Hn (l + 1 + 1) = szs Wn Hn (l + 1) ++ [.int .i64 (lvN Wn (l + 1) : Int), .int .i64 (lvN Hn (l + 1) : Int)]) := ⟨fun _ => trivial, rfl⟩
    have e1 : lvN Wn (l + 1) = (lvN Wn l + 1) / 2 := rfl
    have e2 : lvN Hn (l + 1) = (lvN Hn l + 1) / 2 := rfl
    have hsz := szs_len Wn Hn (l + 1)
    by_cases hlt : l < K
    · have ht := KT.out.lt l hlt
      have G1 : Hid (l + 1 + 1 ≤ maxLen) := by unfold maxLen Hid; omega
      have G2 : Hid ((l + 1 + 1) * 16 ≤ 140737488355328) := by unfold Hid; omega
      have hea : ∃ z, z = lvN Wn (l + 1) := ⟨_, rfl⟩
      obtain ⟨a2, hea⟩ := hea
      have heb : ∃ z, z = lvN Hn (l + 1) := ⟨_, rfl⟩
      obtain ⟨b2, heb⟩ := heb
      have HEA := Lib.hid hea
      have HEB := Lib.hid heb
      rw [← hea, ← heb] at hkk
      rw [← hea] at e1
      rw [← heb] at e2
      have hpw := IH.out.pr.frozen 0
      have hpx := IH.out.pr.frozen 1
      have hva : IntKind.i64.wrap (((lvN Wn l : Int) + 1)) = (lvN Wn l : Int) + 1 := IntWalk.i64_in _ (by omega)
      have hvb : IntKind.i64.wrap (((lvN Hn l : Int) + 1)) = (lvN Hn l : Int) + 1 := IntWalk.i64_in _ (by omega)
      have ta : ((lvN Wn l : Int) + 1).tdiv 2 = (a2 : Int) := by rw [Int.tdiv_eq_ediv_of_nonneg (by omega)]; omega
      have tb : ((lvN Hn l : Int) + 1).tdiv 2 = (b2 : Int) := by rw [Int.tdiv_eq_ediv_of_nonneg (by omega)]; omega
      have tc : ((lvN Wn l : Int) + 1) / 2 = (a2 : Int) := by omega
      have td : ((lvN Hn l : Int) + 1) / 2 = (b2 : Int) := by omega
      have ga : a2 ≤ 512 := by omega
      have gb : b2 ≤ 512 := by omega
      clear e1 e2 hea heb
      generalize lvN Wn l = a at *
      generalize lvN Hn l = b at *
      rcases (show 1 < a ∨ (¬ 1 < a ∧ 1 < b) by omega) with hc | ⟨hc, hc2⟩
      · have hc' : (1 : Int) < (a : Int) := by omega
        go_upto_region 5 with fail
        have M0 := Lib.hid (IH.out.mid a2 b2)
        have q0 : ((wr.setCell ⟨k4, 0, none⟩ (.int .i64 (a2 : Int))).setCell ⟨k4, 1, none⟩ (.int .i64 (b2 : Int))).cell? ⟨k4, 0, none⟩ = some (.int .i64 (a2 : Int)) := M0.out.pr.cell 0
        have q1 : ((wr.setCell ⟨k4, 0, none⟩ (.int .i64 (a2 : Int))).setCell ⟨k4, 1, none⟩ (.int .i64 (b2 : Int))).cell? ⟨k4, 1, none⟩ = some (.int .i64 (b2 : Int)) := M0.out.pr.cell 1
        have lk := M0.out.pr.lt
        clear IH hpw hpx
        generalize (wr.setCell ⟨k4, 0, none⟩ (.int .i64 (a2 : Int))).setCell ⟨k4, 1, none⟩ (.int .i64 (b2 : Int)) = W3 at *
        have G3 : Hid (w.heap.size ≤ (W3.alloc (.cells #[.int .i64 (a2 : Int), .int .i64 (b2 : Int)] 59)).heap.size) := by have := M0.out.below.size; unfold Hid; simp; omega
        go_wp2_with (at_builtin; refine wpList_append_own _ rfl _ _ 57 rfl w.heap.size 59 i0 (.agg #[.int .i64 0, .int .i64 0]) 2 16 Try.underlying57 hi hz0 hz1 hz2 rfl (by decide) _ (l + 1) (szs Wn Hn (l + 1)) rfl (M0.out.own.alloc _) ⟨W3.heap.size, 0, none⟩ 1 1 [.int .i64 (a2 : Int), .int .i64 (b2 : Int)] rfl rfl (World.news_of_block (cs := #[.int .i64 (a2 : Int), .int .i64 (b2 : Int)]) (t := 59) (fr := (0, 0)) (heap_alloc_new W3 _)) (by simp [Value.oneCell']) G1.out G2.out G3.out ?_; intro v' w4 hown' hgrow hnil; obtain ⟨P4, M4⟩ := M0.out.app hown' hgrow hkk.out.2 HEA.out HEB.out; have c0 : w4.cell? ⟨k4, 0, none⟩ = some (.int .i64 (a2 : Int)) := P4.cell 0; have c1 : w4.cell? ⟨k4, 1, none⟩ = some (.int .i64 (b2 : Int)) := P4.cell 1; have lk4 := P4.lt; have hlen : Hid (lenOf v' = l + 1 + 1) := own_len hown' (by omega); have HM4 := Lib.hid M4; clear q0 q1 lk P4 M4 hown' hgrow hnil)
        go_roundw
        case rel => exact ⟨l + 1, _, by omega, rfl, HM4.out _ rfl⟩
        case measure =>
          have h1 := hlen.out
          have h2 := own_len M0.out.own (by omega)
          show K + 1 - lenOf v' < K + 1 - lenOf u3
          omega
      · have hc' : ¬ (1 : Int) < (a : Int) := by omega
        have hc2' : (1 : Int) < (b : Int) := by omega
        go_upto_region 5 with fail
        have M0 := Lib.hid (IH.out.mid a2 b2)
        have q0 : ((wr.setCell ⟨k4, 0, none⟩ (.int .i64 (a2 : Int))).setCell ⟨k4, 1, none⟩ (.int .i64 (b2 : Int))).cell? ⟨k4, 0, none⟩ = some (.int .i64 (a2 : Int)) := M0.out.pr.cell 0
        have q1 : ((wr.setCell ⟨k4, 0, none⟩ (.int .i64 (a2 : Int))).setCell ⟨k4, 1, none⟩ (.int .i64 (b2 : Int))).cell? ⟨k4, 1, none⟩ = some (.int .i64 (b2 : Int)) := M0.out.pr.cell 1
        have lk := M0.out.pr.lt
        clear IH hpw hpx
        generalize (wr.setCell ⟨k4, 0, none⟩ (.int .i64 (a2 : Int))).setCell ⟨k4, 1, none⟩ (.int .i64 (b2 : Int)) = W3 at *
        have G3 : Hid (w.heap.size ≤ (W3.alloc (.cells #[.int .i64 (a2 : Int), .int .i64 (b2 : Int)] 59)).heap.size) := by have := M0.out.below.size; unfold Hid; simp; omega
        go_wp2_with (at_builtin; refine wpList_append_own _ rfl _ _ 57 rfl w.heap.size 59 i0 (.agg #[.int .i64 0, .int .i64 0]) 2 16 Try.underlying57 hi hz0 hz1 hz2 rfl (by decide) _ (l + 1) (szs Wn Hn (l + 1)) rfl (M0.out.own.alloc _) ⟨W3.heap.size, 0, none⟩ 1 1 [.int .i64 (a2 : Int), .int .i64 (b2 : Int)] rfl rfl (World.news_of_block (cs := #[.int .i64 (a2 : Int), .int .i64 (b2 : Int)]) (t := 59) (fr := (0, 0)) (heap_alloc_new W3 _)) (by simp [Value.oneCell']) G1.out G2.out G3.out ?_; intro v' w4 hown' hgrow hnil; obtain ⟨P4, M4⟩ := M0.out.app hown' hgrow hkk.out.2 HEA.out HEB.out; have c0 : w4.cell? ⟨k4, 0, none⟩ = some (.int .i64 (a2 : Int)) := P4.cell 0; have c1 : w4.cell? ⟨k4, 1, none⟩ = some (.int .i64 (b2 : Int)) := P4.cell 1; have lk4 := P4.lt; have hlen : Hid (lenOf v' = l + 1 + 1) := own_len hown' (by omega); have HM4 := Lib.hid M4; clear q0 q1 lk P4 M4 hown' hgrow hnil)
        go_roundw
        case rel => exact ⟨l + 1, _, by omega, rfl, HM4.out _ rfl⟩
        case measure =>
          have h1 := hlen.out
          have h2 := own_len M0.out.own (by omega)
          show K + 1 - lenOf v' < K + 1 - lenOf u3
          omega
    · obtain rfl : l = K := by omega
      have hc := KT.out.w
      have hd := KT.out.h
      generalize lvN Wn l = a at *
      generalize lvN Hn l = b at *
      have hc' : ¬ (1 : Int) < (a : Int) := by omega
      have hd' : ¬ (1 : Int) < (b : Int) := by omega
      obtain ⟨g, cap, rfl⟩ : ∃ g cap, u3 = .slice (some ⟨g, 0, none⟩) (l + 1) cap := by
        rcases IH.out.own.2 with ⟨_, h0⟩ | ⟨g, cap, cur, rfl, _⟩
        · omega
        · exact ⟨g, cap, rfl⟩
      have HR := Lib.hid (Rw.own IH.out.own)
      have HB := Lib.hid IH.out.below
      clear IH e1 e2 hkk hsz
      go_wp2_with fail
      exact bodyPost_ret (v := .slice (some ⟨g, 0, none⟩) (l + 1) cap) (by simp [results, Try.results17, go_sem, *]) rfl ⟨⟨g, cap, rfl, HR.out⟩, HB.out⟩
end Go.Proofs.Ytiiogjjjgoeghaa

namespace Go.Proofs.Ytiiogjjjgoeghaa
open Go.Shelf
open Go.ChangeShapes Go.WideShapes Go.ChangeAt Go.RowKit
open Ieee.Format (fin finE htE allFin allHt all_true all_false mulF subF addF Ht Bd)
set_option linter.unusedVariables false

theorem tdiv_floor (a b : Int) (hb : 0 < b) : (a.tmod b < 0 → a.tdiv b - 1 = a / b ∧ a.tmod b + b = a % b) ∧ (¬ a.tmod b < 0 → a.tdiv b = a / b ∧ a.tmod b = a % b) := by
  have h1 := Int.mul_tdiv_add_tmod a b
  have h2 := Int.tmod_lt_of_pos a hb
  have h3 := Int.lt_tmod_of_pos a hb
  constructor
  · intro h
    have := (Int.ediv_emod_unique (a := a) (b := b) (r := a.tmod b + b) (q := a.tdiv b - 1) hb).2 ⟨by rw [Int.mul_sub, Int.mul_one]; omega, by omega, by omega⟩
    exact ⟨this.1.symm, this.2.symm⟩
  · intro h
    have := (Int.ediv_emod_unique (a := a) (b := b) (r := a.tmod b) (q := a.tdiv b) hb).2 ⟨by omega, by omega, h2⟩
    exact ⟨this.1.symm, this.2.symm⟩
theorem ediv_small (a b c : Int) (hb : 0 < b) (h1 : -c ≤ a) (h2 : a ≤ c) (hc : 0 ≤ c) : -c ≤ a / b ∧ a / b ≤ c := by
  have e := Int.mul_ediv_add_emod a b
  have m0 := Int.emod_nonneg a (show b ≠ 0 by omega)
  have m1 := Int.emod_lt_of_pos a hb
  constructor
  · refine (Int.le_ediv_iff_mul_le hb).2 ?_
    have := Int.mul_le_mul_of_nonneg_left (show 1 ≤ b by omega) hc
    rw [Int.neg_mul]; omega
  · by_cases h : a / b ≤ c
    · exact h
    · exfalso
      have := Int.mul_le_mul_of_nonneg_left (show c + 1 ≤ a / b by omega) (show 0 ≤ b by omega)
      have h3 := Int.mul_le_mul_of_nonneg_right (show 1 ≤ b by omega) (show 0 ≤ c + 1 by omega)
      omega

end Go.Proofs.Ytiiogjjjgoeghaa

namespace Go.Proofs.Ytiiogjjjgoeghaa
open Go.Shelf
open Go.ChangeShapes Go.WideShapes Go.ChangeAt Go.RowKit
open Ieee.Format (fin finE htE allFin allHt all_true all_false mulF subF addF Ht Bd mixF mix_bd shareF share_facts)
set_option linter.unusedVariables false

/-- a place is in a region -/
def inR (X Y W H x y : Int) : Prop := X ≤ x ∧ x < X + W ∧ Y ≤ y ∧ y < Y + H
instance (X Y W H x y : Int) : Decidable (inR X Y W H x y) := inferInstanceAs (Decidable (_ ∧ _ ∧ _ ∧ _))

end Go.Proofs.Ytiiogjjjgoeghaa

namespace Go.Proofs.Ytiiogjjjgoeghaa
open Go.Shelf
open Go.ChangeShapes Go.WideShapes Go.ChangeAt Go.RowKit
open Ieee.Format (fin finE htE allFin allHt all_true all_false mulF subF addF Ht Bd mixF mix_bd shareF share_facts)
set_option linter.unusedVariables false

/-- a single is zero -/
def zf (s : Nat) : Bool := Go.FloatKind.f32.format.order s 0 == some .eq
/-- the value between two cells of a row -/
def rowV (X Y : Int) (Wn Hn : Nat) (l : List Nat) (i y : Int) (s : Nat) : Option Nat :=
  if inR X Y Wn Hn i y then
    if zf s = true then some (l.getD (cellNo X Y Wn i y).toNat 0)
    else if inR X Y Wn Hn (i + 1) y then some (mixF (l.getD (cellNo X Y Wn i y).toNat 0) (l.getD (cellNo X Y Wn (i + 1) y).toNat 0) s) else none
  else none
theorem rowV_bd {X Y : Int} {Wn Hn : Nat} {l : List Nat} {i y : Int} {s v : Nat} (hl : ∀ j, Bd 20 (l.getD j 0)) (hs : Bd 0 s) (h : rowV X Y Wn Hn l i y s = some v) : Bd 22 v := by
  unfold rowV at h
  split at h
  · split at h
    · cases h; exact (hl _).mono (by omega)
    · split at h
      · cases h; exact (mix_bd (hl _) (hl _) hs (by omega)).2.2
      · cases h
  · cases h
theorem cell_in {X Y : Int} {Wn Hn : Nat} {i y : Int} (h1 : 1 ≤ Wn) (h2 : Wn ≤ 512) (h3 : 1 ≤ Hn) (h4 : Hn ≤ 512) (h : inR X Y Wn Hn i y) : cellNo X Y Wn i y = ((cellNo X Y Wn i y).toNat : Int) ∧ (cellNo X Y Wn i y).toNat < Hn * Wn := by
  obtain ⟨a1, a2, a3, a4⟩ := h
  obtain ⟨m0, m1, m2, m3⟩ := cellNo_in (show (1 : Int) ≤ Wn by omega) (by omega) (show (1 : Int) ≤ Hn by omega) (by omega) a1 a2 a3 a4
  refine ⟨by omega, ?_⟩
  have e : ((Hn * Wn : Nat) : Int) = (Wn : Int) * Hn := by rw [Int.natCast_mul, Int.mul_comm]
  omega

end Go.Proofs.Ytiiogjjjgoeghaa

namespace Go.Proofs.Ytiiogjjjgoeghaa
open Go.Shelf
open Go.ChangeShapes Go.WideShapes Go.ChangeAt Go.RowKit
open Ieee.Format (fin finE htE allFin allHt all_true all_false mulF subF addF Ht Bd mixF mix_bd shareF share_facts)
set_option linter.unusedVariables false

/-- the value between four cells -/
def bilV (X Y : Int) (Wn Hn : Nat) (l : List Nat) (i j : Int) (s t : Nat) : Option Nat :=
  match rowV X Y Wn Hn l i j s with
  | none => none
  | some p => if zf t = true then some p else match rowV X Y Wn Hn l i (j + 1) s with
    | none => none
    | some q => some (mixF p q t)
theorem bilV_bd {X Y : Int} {Wn Hn : Nat} {l : List Nat} {i j : Int} {s t v : Nat} (hl : ∀ j, Bd 20 (l.getD j 0)) (hs : Bd 0 s) (ht : Bd 0 t) (h : bilV X Y Wn Hn l i j s t = some v) : Bd 24 v := by
  unfold bilV at h
  split at h
  · cases h
  · rename_i p hp
    split at h
    · cases h; exact (rowV_bd hl hs hp).mono (by omega)
    · split at h
      · cases h
      · rename_i q hq
        cases h
        exact (mix_bd (rowV_bd hl hs hp) (rowV_bd hl hs hq) ht (by omega)).2.2

theorem bil_world (w : World) (X Y W H : Int) (v : Value) (i : Int) (s : Nat) : ∀ W0, W0 = ((w.alloc (.cells #[.int .i64 X, .int .i64 Y, .int .i64 W, .int .i64 H, v] /-T-/26)).alloc (.cells #[.int .i64 i] /-T-/3)).alloc (.cells #[.float .f32 s] /-T-/27) →
    Fld W0 w.heap.size X Y W H v ∧ W0.cell? ⟨w.heap.size + 1, 0, none⟩ = some (.int .i64 i) ∧ W0.cell? ⟨w.heap.size + 1 + 1, 0, none⟩ = some (.float .f32 s) ∧ Below w.heap.size w W0 ∧ W0.heap.size = w.heap.size + 3 := by
  rintro _ rfl
  exact ⟨((Fld.new w X Y W H v).alloc _).alloc _, by simp [go_sem], by simp [go_sem], (by repeat (first | with_reducible exact Below.refl _ _ | with_reducible apply Below.drew | with_reducible refine below_drewN ?_ _ | (with_reducible refine Below.setCell ?_ ?_ _; rotate_left; focus (first | omega | (simp <;> omega))) | (with_reducible refine Below.alloc ?_ ?_ _; rotate_left; focus (first | omega | (simp <;> omega))))), by simp⟩

end Go.Proofs.Ytiiogjjjgoeghaa

namespace Go.Proofs.Ytiiogjjjgoeghaa
open Go.Shelf
open Go.ChangeShapes Go.WideShapes Go.ChangeAt Go.RowKit
open Ieee.Format (fin finE htE allFin allHt all_true all_false mulF subF addF Ht Bd mixF mix_bd shareF share_facts)
set_option linter.unusedVariables false

end Go.Proofs.Ytiiogjjjgoeghaa

namespace Go.Proofs.Ytiiogjjjgoeghaa
open Go.Shelf
open Go.ChangeShapes Go.WideShapes Go.ChangeAt Go.RowKit
open Ieee.Format (fin finE htE allFin allHt all_true all_false mulF subF addF Ht Bd mixF mix_bd shareF share_facts)
set_option linter.unusedVariables false

/-- the error of a value that may not be there -/
def bilC : Option Nat → Int
  | none => 5
  | some v => outE [v]
theorem rowV_lt {X Y : Int} {Wn Hn : Nat} {l : List Nat} {i y : Int} {s v : Nat} (hl : ∀ x ∈ l, x < 4294967296) (h : rowV X Y Wn Hn l i y s = some v) : v < 4294967296 := by
  unfold rowV at h
  split at h
  · split at h
    · cases h
      rcases Nat.lt_or_ge (cellNo X Y Wn i y).toNat l.length with hlt | hge
      · rw [List.getD_eq_getElem?_getD, List.getElem?_eq_getElem hlt]; exact hl _ (List.getElem_mem hlt)
      · rw [List.getD_eq_getElem?_getD, List.getElem?_eq_none hge]; show (0 : Nat) < 4294967296; decide
    · split at h
      · cases h; exact Ieee.Format.mixF_lt _ _ _
      · cases h
  · cases h

end Go.Proofs.Ytiiogjjjgoeghaa

namespace Ieee
namespace Format
open Go
theorem sg_key (s t : Bool) (q : Rat) (hq : 0 ≤ q) (h : 0 ≤ sg s * (sg t * q)) : sg s * (sg t * q) = q := by
  cases s <;> cases t <;> simp [sg] at h ⊢ <;> grind
/-- a number that the format has comes out as it is -/
theorem Rounds.sing {x : Rat} {s : Bool} {w y : Nat} (h : single.Rounds x s w) (hy : single.fin y) (hx : x = single.V y) : single.fin w ∧ single.V w = x := by
  obtain ⟨r, rfl, hr⟩ := h
  have h0 := hr.2.2
  have hn := single.rv_nonneg (single.rung y)
  have e : sg s * x = single.rv (single.rung y) := by
    rw [hx] at h0 ⊢
    exact sg_key _ _ _ hn h0
  rw [e] at hr
  obtain rfl := hr.eq_of
  have lt : single.rung y < single.infRung := hy
  refine ⟨(single.fin_word_iff s _).2 lt, ?_⟩
  rw [single.V_word lt, ← e, ← Rat.mul_assoc, sg_sq, Rat.one_mul]
theorem mix_same {v s : Nat} (hv : single.fin v) (hs : single.fin s) : single.fin (mixF v v s) ∧ single.V (mixF v v s) = single.V v := by
  have h1 := (subF_spec hv hv).2.sing const_0.1 (by rw [const_0.2.1]; grind)
  have h2 := (mulF_spec h1.1 hs).2.sing const_0.1 (by rw [const_0.2.1, h1.2]; grind)
  have h3 := (addF_spec hv h2.1).2.sing hv (by rw [h2.2, h1.2]; grind)
  unfold mixF
  exact ⟨h3.1, by rw [h3.2, h2.2, h1.2]; grind⟩
end Format
end Ieee
namespace Go.Proofs.Ytiiogjjjgoeghaa
open Go.ChangeShapes Go.WideShapes Go.ChangeAt Go.RowKit
open Ieee.Format (fin finE htE allFin allHt all_true all_false mulF subF addF Ht Bd divF rootF floorF easeF mixF)
set_option linter.unusedVariables false
/-! ### the blend of lists, in plain Lean -/
/-- the first k are the turned ones -/
def blL (ψ : Nat → Nat) (l : List Nat) (k : Nat) : List Nat := (List.range k).map ψ ++ l.drop k
theorem blL_zero (ψ : Nat → Nat) (l : List Nat) : blL ψ l 0 = l := by simp [blL]
theorem blL_len (ψ : Nat → Nat) (l : List Nat) (k : Nat) (hk : k ≤ l.length) : (blL ψ l k).length = l.length := by
  unfold blL; rw [List.length_append, List.length_map, List.length_range, List.length_drop]; omega
theorem blL_succ (ψ : Nat → Nat) (l : List Nat) (k : Nat) (hk : k < l.length) : (blL ψ l k).set k (ψ k) = blL ψ l (k + 1) := by
  unfold blL
  have h1 : ((List.range k).map ψ).length = k := by simp
  have hd := List.drop_eq_getElem_cons hk
  rw [List.set_append_right _ _ (by omega), h1, Nat.sub_self, List.range_succ, List.map_append, List.append_assoc, hd]
  rfl
/-- what Blend gives -/
def mixL (A B S : List Nat) : List Nat := (List.range A.length).map fun i => mixF (A.getD i 0) (B.getD i 0) (S.getD i 0)
theorem mixL_len (A B S : List Nat) : (mixL A B S).length = A.length := by simp [mixL]
theorem mixL_at (A B S : List Nat) (i : Nat) (hi : i < A.length) : (mixL A B S).getD i 0 = mixF (A.getD i 0) (B.getD i 0) (S.getD i 0) := by
  simp [mixL, List.getD_eq_getElem?_getD, List.getElem?_map, List.getElem?_range hi]
theorem blL_all (A B S : List Nat) : blL (fun i => mixF (A.getD i 0) (B.getD i 0) (S.getD i 0)) A A.length = mixL A B S := by simp [blL, mixL]
/-- a weight that Blend does not take -/
def noWt (v : Nat) : Bool := lss v 0 || gtr v 1065353216
theorem wt_bd {v : Nat} (hv : fin Ieee.single v) (h : noWt v = false) : Bd 0 v := by
  have h1 : lss v 0 = false ∧ gtr v 1065353216 = false := by unfold noWt at h; simpa using h
  have a : decide (Ieee.single.V v < Ieee.single.V 0) = false := by rw [← h1.1]; exact (Ieee.single.order_lt hv Ieee.Format.const_0.1).symm
  have b : decide (Ieee.single.V 1065353216 < Ieee.single.V v) = false := by rw [← h1.2]; exact (Ieee.single.order_gt hv Ieee.Format.const_1.1).symm
  rw [Ieee.Format.const_0.2.1] at a
  rw [Ieee.Format.const_1.2.1] at b
  have a' := of_decide_eq_false a
  have b' := of_decide_eq_false b
  refine ⟨hv, ?_, ?_⟩
  · have : Ieee.P2 ((0 : Nat) : Int) = 1 := Ieee.P2_zero
    rw [this]; grind
  · have : Ieee.P2 ((0 : Nat) : Int) = 1 := Ieee.P2_zero
    rw [this]; grind
end Go.Proofs.Ytiiogjjjgoeghaa

namespace Go.Proofs.Ytiiogjjjgoeghaa
open Go.ChangeShapes Go.WideShapes Go.ChangeAt Go.RowKit
open Ieee.Format (fin finE htE allFin allHt all_true all_false mulF subF addF Ht Bd divF rootF floorF easeF mixF)
set_option linter.unusedVariables false

theorem SRow.cellAt {w : World} {a : Option Addr} {l : List Nat} (h : SRow w a l) (k : Nat) (hk : k < l.length) : ∃ b o, a = some ⟨b, o, none⟩ ∧ w.cell? ⟨b, o + k, none⟩ = some (.float .f32 (l.getD k 0)) := by
  rcases h.2 with h0 | ⟨b, o, rfl, h1⟩
  · subst h0; exact absurd hk (by simp)
  · exact ⟨b, o, rfl, h1 k hk⟩

theorem first_true (p : Nat → Bool) (n : Nat) : (∀ i, i < n → p i = false) ∨ ∃ j, j < n ∧ (∀ i, i < j → p i = false) ∧ p j = true := by
  induction n with
  | zero => exact .inl fun i hi => absurd hi (by omega)
  | succ n ih =>
    rcases ih with h | ⟨j, hj, h1, h2⟩
    · cases hp : p n
      · exact .inl fun i hi => by
          rcases Nat.lt_or_ge i n with c | c
          · exact h i c
          · rw [show i = n by omega]; exact hp
      · exact .inr ⟨n, by omega, h, hp⟩
    · exact .inr ⟨j, by omega, h1, h2⟩

end Go.Proofs.Ytiiogjjjgoeghaa

namespace Go.Proofs.Ytiiogjjjgoeghaa
open Go.ChangeShapes Go.WideShapes Go.ChangeAt Go.RowKit
open Ieee.Format (fin finE htE allFin allHt all_true all_false mulF subF addF Ht Bd divF rootF floorF easeF mixF)
set_option linter.unusedVariables false
open Ieee.Format (addF_lt)

/-- three boxes: a field, something, an empty field -/
theorem box_fbz (w : World) (X Y W H : Int) (v : Value) (cs : Array Value) (t : TypeId) : ∀ W0, W0 = ((w.alloc (.cells #[.int .i64 X, .int .i64 Y, .int .i64 W, .int .i64 H, v] 26)).alloc (.cells cs t)).alloc (.cells #[.int .i64 0, .int .i64 0, .int .i64 0, .int .i64 0, .slice none 0 0] 26) →
    Fld W0 w.heap.size X Y W H v ∧ Blk W0 (w.heap.size + 1) cs t ∧ Fld W0 (w.heap.size + 1 + 1) 0 0 0 0 (.slice none 0 0) ∧ Below w.heap.size w W0 ∧ W0.heap.size = w.heap.size + 3 := by
  rintro _ rfl
  refine ⟨((Fld.new w X Y W H v).alloc _).alloc _, ?_, ?_, (by repeat (first | with_reducible exact Below.refl _ _ | with_reducible apply Below.drew | with_reducible refine below_drewN ?_ _ | (with_reducible refine Below.setCell ?_ ?_ _; rotate_left; focus (first | omega | (simp <;> omega))) | (with_reducible refine Below.alloc ?_ ?_ _; rotate_left; focus (first | omega | (simp <;> omega))))), by simp⟩
  · have := (Blk.new (w.alloc (.cells #[.int .i64 X, .int .i64 Y, .int .i64 W, .int .i64 H, v] 26)) cs t).alloc (.cells #[.int .i64 0, .int .i64 0, .int .i64 0, .int .i64 0, .slice none 0 0] 26)
    simpa using this
  · have := Fld.new ((w.alloc (.cells #[.int .i64 X, .int .i64 Y, .int .i64 W, .int .i64 H, v] 26)).alloc (.cells cs t)) 0 0 0 0 (.slice none 0 0)
    simpa using this

theorem OutV.base {c X Y W H : Int} {m : List Nat} {w : World} {B B' : Nat} {x y p q : Int} {a : Option Addr} {n k : Nat} (h : OutV c X Y W H m w B x y p q a n k) (hb : B' ≤ B) : OutV c X Y W H m w B' x y p q a n k := by
  rcases h with h | ⟨h0, h1, h2, h3, h4, g, h5, h6, h7⟩
  · exact .inl h
  · exact .inr ⟨h0, h1, h2, h3, h4, g, h5, h6, h7.base hb⟩

def ThP (i x : Nat) : Prop := Bd (20 + 8 * i) x ∧ x < 4294967296
theorem ThP.zero (i : Nat) : ThP i 0 := ⟨(Ieee.Format.Ht.bd (show Ht 0 by decide)).mono (by omega), by decide⟩
theorem ThP.next {T R i n s e w v : Nat} (hW : WearOk T R) (hi : i ≤ 7) (hn : ThP i n) (hs : ThP i s) (he : ThP i e) (hw : ThP i w) (hv : ThP i v) : ThP (i + 1) (thermalF T R n s e w v) :=
  ⟨(addT_bd hW hn.1 hs.1 he.1 hw.1 hv.1 (by omega) (by omega) 4 (by omega)).mono (by omega), addF_lt _ _⟩
theorem ThP.all {X Y : Int} {Wn Hn : Nat} {l : List Nat} (hr : Right X Y Wn Hn l) (h : ∀ x ∈ l, x < 4294967296) : ∀ x ∈ l, ThP 0 x := fun x hx => ⟨(hr.ht x hx).bd, h x hx⟩

def thermC (T R : Nat) (X Y : Int) (Wn Hn : Nat) (l : List Nat) (N : Nat) : Int :=
  if Wn < 1 + 2 * N ∨ Hn < 1 + 2 * N then 10 else if allHt (stepsL (thermalF T R) X Y Wn Hn l N) = true then 0 else 3

def movedE (T R : Nat) (n : Int) (a b : Nat) : Int := if wearE T R n ≠ 0 then wearE T R n else htE [a, b]
def movedV (T R : Nat) (n : Int) (a b : Nat) : Nat := if movedE T R n a b = 0 then movedF T R a b else 0
theorem movedF_ht {T R a b : Nat} (hW : WearOk T R) (ha : Ht a) (hb : Ht b) : Ht (movedF T R a b) := by
  have := (moved_bd hW (Ieee.Format.Ht.bd ha) (Ieee.Format.Ht.bd hb) (by omega) (by omega)).2.2.2
  exact Ieee.Format.Ht.of ⟨this.2.1, this.2.2⟩
theorem movedE_w {T R : Nat} {n : Int} {a b : Nat} (h : wearE T R n ≠ 0) : movedE T R n a b = wearE T R n ∧ movedV T R n a b = 0 := by
  have e : movedE T R n a b = wearE T R n := by unfold movedE; rw [if_pos h]
  exact ⟨e, by unfold movedV; rw [e, if_neg h]⟩
theorem movedE_h {T R : Nat} {n : Int} {a b : Nat} (h : wearE T R n = 0) (h2 : htE [a, b] ≠ 0) : movedE T R n a b = htE [a, b] ∧ movedV T R n a b = 0 := by
  have e : movedE T R n a b = htE [a, b] := by unfold movedE; rw [if_neg (by omega)]
  exact ⟨e, by unfold movedV; rw [e, if_neg h2]⟩
theorem movedE_ok {T R : Nat} {n : Int} {a b : Nat} (h : wearE T R n = 0) (h2 : htE [a, b] = 0) : movedE T R n a b = 0 ∧ movedV T R n a b = movedF T R a b := by
  have e : movedE T R n a b = 0 := by unfold movedE; rw [if_neg (by omega)]; exact h2
  exact ⟨e, by unfold movedV; rw [e, if_pos rfl]⟩
theorem ret_f32e2 {x y : Nat} {c d : Int} (h : x = y) (h' : c = d) : Ending.returned (.tuple #[.float .f32 x, .int .i64 c]) = .returned (.tuple #[.float .f32 y, .int .i64 d]) := by rw [h, h']
end Go.Proofs.Ytiiogjjjgoeghaa

namespace Go.Proofs.Ytiiogjjjgoeghaa
open Go.ChangeShapes Go.WideShapes Go.ChangeAt Go.RowKit
open Ieee.Format (fin finE htE allFin allHt all_true all_false mulF subF addF Ht Bd divF rootF floorF easeF mixF)
set_option linter.unusedVariables false
open Ieee.Format (negF gradF hypF slopeF lenF curve1 curveF nxF nyF nzF)

theorem run_neg (P : Program) (x : Nat) (w : World) : (Op.unary .neg (.float .f32 x)).run P w = .ok (.float .f32 (negF x)) w := by
  simp [Op.unary, Op.negFloat, negF, FloatKind.format, Ieee.single]

theorem one_ne {y : Nat} (h : 1 ≤ Ieee.single.V y) : Ieee.single.V y ≠ 0 := by intro e; rw [e] at h; exact absurd h (by decide)

/-! ### the region without a rim -/
theorem inner_world (w : World) (X Y W H : Int) (v : Value) : ∀ W0, W0 = (w.alloc (.cells #[.int .i64 X, .int .i64 Y, .int .i64 W, .int .i64 H, v] 26)).alloc (.cells #[.int .i64 0, .int .i64 0, .int .i64 0, .int .i64 0] 23) →
    Fld W0 w.heap.size X Y W H v ∧ Reg W0 (w.heap.size + 1) 0 0 0 0 ∧ Below w.heap.size w W0 := by
  rintro _ rfl
  refine ⟨(Fld.new w X Y W H v).alloc _, ?_, (by repeat (first | with_reducible exact Below.refl _ _ | with_reducible apply Below.drew | with_reducible refine below_drewN ?_ _ | (with_reducible refine Below.setCell ?_ ?_ _; rotate_left; focus (first | omega | (simp <;> omega))) | (with_reducible refine Below.alloc ?_ ?_ _; rotate_left; focus (first | omega | (simp <;> omega)))))⟩
  have := Reg.new (w.alloc (.cells #[.int .i64 X, .int .i64 Y, .int .i64 W, .int .i64 H, v] 26)) 0 0 0 0
  simpa using this

/-- what an operation gives, its memory from the block 'B' on -/
def OpB (c : Int) (X Y W H : Int) (m : List Nat) (B : Nat) (w : World) (e : Ending) (w' : World) : Prop :=
  (∃ x y p q a n k, e = .returned (.tuple #[fldV x y p q a n k, .int .i64 c]) ∧ OutV c X Y W H m w' B x y p q a n k) ∧ Below w.heap.size w w'
def resC (m : List Nat) : Int := if allHt m = true then 0 else 3
end Go.Proofs.Ytiiogjjjgoeghaa

namespace Go.Proofs.Ytiiogjjjgoeghaa
open Go.ChangeShapes Go.WideShapes Go.ChangeAt Go.RowKit
open Ieee.Format (fin finE htE allFin allHt all_true all_false mulF subF addF Ht Bd divF rootF floorF easeF mixF)
set_option linter.unusedVariables false

/-- a right field in these five cells -/
def FlAt (w : World) (b p : Nat) : Prop := ∃ (X Y : Int) (Wn Hn b' o' c : Nat) (l : List Nat), Right X Y Wn Hn l ∧ SRow w (some ⟨b', o', none⟩) l ∧
  w.cell? ⟨b, p, none⟩ = some (.int .i64 X) ∧ w.cell? ⟨b, p + 1, none⟩ = some (.int .i64 Y) ∧ w.cell? ⟨b, p + 2, none⟩ = some (.int .i64 (Wn : Int)) ∧ w.cell? ⟨b, p + 3, none⟩ = some (.int .i64 (Hn : Int)) ∧ w.cell? ⟨b, p + 4, none⟩ = some (.slice (some ⟨b', o', none⟩) l.length c)

end Go.Proofs.Ytiiogjjjgoeghaa

namespace Go.Proofs.Ytiiogjjjgoeghaa
open Go.ChangeShapes Go.WideShapes Go.ChangeAt Go.RowKit
open Ieee.Format (fin finE htE allFin allHt all_true all_false mulF subF addF Ht Bd divF rootF floorF easeF mixF)
set_option linter.unusedVariables false

def mixV (A B S : List Nat) (X Y : Int) (Wn : Nat) (x y : Int) : Nat := mixF (A.getD (cellNo X Y Wn x y).toNat 0) (B.getD (cellNo X Y Wn x y).toNat 0) (S.getD (cellNo X Y Wn x y).toNat 0)
theorem madeL_mix (A B S : List Nat) (X Y : Int) (Wn Hn : Nat) (hl : A.length = Hn * Wn) : madeL (mixV A B S X Y Wn) X Y Wn (Hn * Wn) = mixL A B S := by
  unfold madeL mixL
  rw [hl]
  refine List.map_congr_left fun k hk => ?_
  have e : (cellNo X Y Wn (X + ((k % Wn : Nat) : Int)) (Y + ((k / Wn : Nat) : Int))).toNat = k := by
    unfold cellNo
    have := Nat.div_add_mod k Wn
    have h : (Y + ((k / Wn : Nat) : Int) - Y) * (Wn : Int) = ((Wn * (k / Wn) : Nat) : Int) := by
      rw [show Y + ((k / Wn : Nat) : Int) - Y = ((k / Wn : Nat) : Int) from by omega, Int.natCast_mul, Int.mul_comm]
    rw [h]
    omega
  unfold mixV
  rw [e]

end Go.Proofs.Ytiiogjjjgoeghaa

namespace Go.Proofs.Ytiiogjjjgoeghaa
open Go.ChangeShapes Go.WideShapes Go.ChangeAt Go.RowKit
open Ieee.Format (fin finE htE allFin allHt all_true all_false mulF subF addF Ht Bd divF rootF floorF easeF mixF)
set_option linter.unusedVariables false

/-! ### parts of fields, in plain Lean -/
/-- what Cut gives: the cells of a region inside the field -/
def cutV (l : List Nat) (X Y : Int) (Wn : Nat) (x y : Int) : Nat := l.getD (cellNo X Y Wn x y).toNat 0
def cutL (l : List Nat) (X Y : Int) (Wn : Nat) (P Q : Int) (A n : Nat) : List Nat := madeL (cutV l X Y Wn) P Q A n
theorem cutL_len (l : List Nat) (X Y : Int) (Wn : Nat) (P Q : Int) (A n : Nat) : (cutL l X Y Wn P Q A n).length = n := madeL_len _ _ _ _ _
/-- the first cell of row j of the part -/
def rowAt (X Y : Int) (Wn : Nat) (P Q : Int) (j : Nat) : Nat := ((Q + j - Y) * Wn + P - X).toNat
theorem cut_row (l : List Nat) (X Y : Int) (Wn Hn : Nat) (P Q : Int) (A B j : Nat) (hl : l.length = Hn * Wn) (hj : j < B) (h1 : X ≤ P) (h2 : P + A ≤ X + Wn) (h3 : Y ≤ Q) (h4 : Q + B ≤ Y + Hn) :
    cutL l X Y Wn P Q A (j * A + A) = cutL l X Y Wn P Q A (j * A) ++ (l.drop (rowAt X Y Wn P Q j)).take A := by
  unfold cutL madeL
  rw [List.range_add, List.map_append, List.map_map]
  congr 1
  obtain ⟨q, hq⟩ : ∃ q : Nat, (q : Int) = Q + j - Y := ⟨(Q + j - Y).toNat, by omega⟩
  obtain ⟨p, hp⟩ : ∃ p : Nat, (p : Int) = P - X := ⟨(P - X).toNat, by omega⟩
  have hk : rowAt X Y Wn P Q j = q * Wn + p := by
    unfold rowAt
    rw [← hq, ← Int.natCast_mul]
    omega
  have hle : (q + 1) * Wn ≤ Hn * Wn := Nat.mul_le_mul_right _ (by omega)
  rw [Nat.add_mul, Nat.one_mul] at hle
  rw [hk]
  refine List.ext_getElem? fun i => ?_
  by_cases hi : i < A
  · have hm : (j * A + i) % A = i := by rw [Nat.mul_comm, Nat.mul_add_mod]; exact Nat.mod_eq_of_lt hi
    have hd : (j * A + i) / A = j := by
      rw [Nat.mul_comm, Nat.mul_add_div (by omega), Nat.div_eq_of_lt hi]; omega
    have e : (cellNo X Y Wn (P + (i : Int)) (Q + (j : Int))).toNat = q * Wn + p + i := by
      unfold cellNo
      rw [← hq, ← Int.natCast_mul]
      omega
    rw [List.getElem?_map, List.getElem?_range hi, List.getElem?_take, if_pos hi, List.getElem?_drop]
    simp only [Option.map_some, Function.comp]
    rw [hm, hd]
    unfold cutV
    rw [e, List.getD_eq_getElem?_getD, List.getElem?_eq_getElem (by omega)]
    rfl
  · rw [List.getElem?_eq_none (by simp; omega), List.getElem?_eq_none (by rw [List.length_take]; omega)]
end Go.Proofs.Ytiiogjjjgoeghaa

namespace Go.Proofs.Ytiiogjjjgoeghaa
open Go.ChangeShapes Go.WideShapes Go.ChangeAt Go.RowKit
open Ieee.Format (fin finE htE allFin allHt all_true all_false mulF subF addF Ht Bd divF rootF floorF easeF mixF)
set_option linter.unusedVariables false
set_option linter.unusedSimpArgs false
open Ieee.Format (lvN hiS loS)

theorem infoBx : (Try.prog.info? 53).map (fun i => (i.zero, i.size, i.bytes)) = some (some (.agg #[.int .i64 0, .int .i64 0, .int .i64 0, .float .f32 0, .float .f32 0]), 5, 32) := by kernel_rfl
/-! ### least and greatest of a list -/
def loP (l : List Nat) : Nat := loS (l.headD 0) l.tail
def hiP (l : List Nat) : Nat := hiS (l.headD 0) l.tail
theorem span_list (X Y Wn Hn : Int) (l : List Nat) (b o c : Nat) (w : World) (hl : SRow w (some ⟨b, o, none⟩) l) (h0 : 0 < l.length) (hc : l.length ≤ c) (hcm : c ≤ 9223372036854775807) (hm : ∀ v ∈ l, Ht v) :
    Calls Try.prog 19 #[fldV X Y Wn Hn (some ⟨b, o, none⟩) l.length c] w fun e w' => e = .returned (.tuple #[.float .f32 (loP l), .float .f32 (hiP l)]) ∧ Below w.heap.size w w' := by
  match l, h0 with
  | x :: m, _ => exact span_any X Y Wn Hn x m b o c w hl (by simpa using hc) hcm (hm x (by simp)) (fun v hv => hm v (by simp [hv]))
theorem hiP_mem {l : List Nat} (h0 : 0 < l.length) : hiP l ∈ l := by
  match l, h0 with
  | x :: m, _ =>
    rcases Ieee.Format.hiS_mem m x with h | h
    · show hiS x m ∈ _; rw [h]; simp
    · exact List.mem_cons_of_mem _ h
theorem loP_mem {l : List Nat} (h0 : 0 < l.length) : loP l ∈ l := by
  match l, h0 with
  | x :: m, _ =>
    rcases Ieee.Format.loS_mem m x with h | h
    · show loS x m ∈ _; rw [h]; simp
    · exact List.mem_cons_of_mem _ h
theorem hiP_ge {l : List Nat} {v : Nat} (hv : v ∈ l) : Ieee.single.V v ≤ Ieee.single.V (hiP l) := by
  match l, hv with
  | x :: m, hv =>
    obtain ⟨h1, h2⟩ := Ieee.Format.hiS_ge m x
    rcases List.mem_cons.1 hv with rfl | h
    · exact h1
    · exact h2 v h

/-! ### the boxes of a field -/
/-- the cells of a box -/
def bxC (l : List Nat) (Wn Hn L x y : Nat) : List Nat :=
  cutL l 0 0 Wn ((x * 2 ^ L : Nat) : Int) ((y * 2 ^ L : Nat) : Int) (min (2 ^ L) (Wn - x * 2 ^ L)) (min (2 ^ L) (Hn - y * 2 ^ L) * min (2 ^ L) (Wn - x * 2 ^ L))
/-- a box -/
def bxB (l : List Nat) (Wn Hn L x y : Nat) : List Value := [.int .i64 (L : Int), .int .i64 (x : Int), .int .i64 (y : Int), .float .f32 (loP (bxC l Wn Hn L x y)), .float .f32 (hiP (bxC l Wn Hn L x y))]
def rwB (l : List Nat) (Wn Hn L y : Nat) : Nat → List Value
  | 0 => []
  | x + 1 => rwB l Wn Hn L y x ++ bxB l Wn Hn L x y
def lvB (l : List Nat) (Wn Hn L : Nat) : Nat → List Value
  | 0 => []
  | y + 1 => lvB l Wn Hn L y ++ rwB l Wn Hn L y (lvN Wn L)
def alB (l : List Nat) (Wn Hn : Nat) : Nat → List Value
  | 0 => []
  | L + 1 => alB l Wn Hn L ++ lvB l Wn Hn L (lvN Hn L)
/-- how many boxes there are below a level -/
def offB (Wn Hn : Nat) : Nat → Nat
  | 0 => 0
  | L + 1 => offB Wn Hn L + lvN Wn L * lvN Hn L
theorem rwB_len (l : List Nat) (Wn Hn L y : Nat) : ∀ n, (rwB l Wn Hn L y n).length = n * 5
  | 0 => by simp [rwB]
  | n + 1 => by rw [rwB, List.length_append, rwB_len l Wn Hn L y n]; simp [bxB]; omega
theorem lvB_len (l : List Nat) (Wn Hn L : Nat) : ∀ n, (lvB l Wn Hn L n).length = n * lvN Wn L * 5
  | 0 => by simp [lvB]
  | n + 1 => by rw [lvB, List.length_append, lvB_len l Wn Hn L n, rwB_len, Nat.add_mul, Nat.one_mul]; omega
theorem alB_len (l : List Nat) (Wn Hn : Nat) : ∀ n, (alB l Wn Hn n).length = offB Wn Hn n * 5
  | 0 => by simp [alB, offB]
  | n + 1 => by rw [alB, List.length_append, alB_len l Wn Hn n, lvB_len, offB, Nat.mul_comm (lvN Hn n)]; omega
theorem rwB_get (l : List Nat) (Wn Hn L y : Nat) : ∀ n x t, x < n → t < 5 → (rwB l Wn Hn L y n)[x * 5 + t]? = (bxB l Wn Hn L x y)[t]?
  | 0, x, t, h, _ => by omega
  | n + 1, x, t, h, ht => by
    have hl := rwB_len l Wn Hn L y n
    rw [rwB]
    by_cases e : x = n
    · subst e
      rw [List.getElem?_append_right (by omega), hl, Nat.add_sub_cancel_left]
    · rw [List.getElem?_append_left (by omega)]
      exact rwB_get l Wn Hn L y n x t (by omega) ht
theorem lvB_get (l : List Nat) (Wn Hn L : Nat) : ∀ n y x t, y < n → x < lvN Wn L → t < 5 → (lvB l Wn Hn L n)[(y * lvN Wn L + x) * 5 + t]? = (bxB l Wn Hn L x y)[t]?
  | 0, y, x, t, h, _, _ => by omega
  | n + 1, y, x, t, h, hx, ht => by
    have hl := lvB_len l Wn Hn L n
    rw [lvB]
    by_cases e : y = n
    · subst e
      rw [List.getElem?_append_right (by omega), hl, show (y * lvN Wn L + x) * 5 + t - y * lvN Wn L * 5 = x * 5 + t by omega]
      exact rwB_get l Wn Hn L y _ x t hx ht
    · have := Nat.mul_le_mul_right (lvN Wn L) (show y + 1 ≤ n by omega)
      rw [Nat.add_mul, Nat.one_mul] at this
      rw [List.getElem?_append_left (by omega)]
      exact lvB_get l Wn Hn L n y x t (by omega) hx ht
theorem alB_get (l : List Nat) (Wn Hn : Nat) : ∀ n L y x t, L < n → y < lvN Hn L → x < lvN Wn L → t < 5 → (alB l Wn Hn n)[(offB Wn Hn L + y * lvN Wn L + x) * 5 + t]? = (bxB l Wn Hn L x y)[t]?
  | 0, L, y, x, t, h, _, _, _ => by omega
  | n + 1, L, y, x, t, h, hy, hx, ht => by
    have hl := alB_len l Wn Hn n
    rw [alB]
    by_cases e : L = n
    · subst e
      rw [List.getElem?_append_right (by omega), hl, show (offB Wn Hn L + y * lvN Wn L + x) * 5 + t - offB Wn Hn L * 5 = (y * lvN Wn L + x) * 5 + t by omega]
      exact lvB_get l Wn Hn L _ y x t hy hx ht
    · have h1 : offB Wn Hn L + y * lvN Wn L + x < offB Wn Hn n := by
        have h2 : offB Wn Hn (L + 1) ≤ offB Wn Hn n := by
          have : ∀ d, offB Wn Hn (L + 1) ≤ offB Wn Hn (L + 1 + d) := fun d => by
            induction d with
            | zero => exact Nat.le_refl _
            | succ d ih => exact Nat.le_trans ih (Nat.le_add_right _ _)
          have := this (n - (L + 1))
          rwa [show L + 1 + (n - (L + 1)) = n by omega] at this
        have h3 := Nat.mul_le_mul_right (lvN Wn L) (show y + 1 ≤ lvN Hn L by omega)
        rw [Nat.add_mul, Nat.one_mul, Nat.mul_comm (lvN Hn L)] at h3
        have : offB Wn Hn (L + 1) = offB Wn Hn L + lvN Wn L * lvN Hn L := rfl
        omega
      rw [List.getElem?_append_left (by omega)]
      exact alB_get l Wn Hn n L y x t (by omega) hy hx ht
theorem lvN_self {n : Nat} (h : 1 ≤ n) : ∀ l, lvN n l ≤ n
  | 0 => Nat.le_refl _
  | l + 1 => by have := lvN_self h l; unfold lvN; omega
theorem offB_le {Wn Hn : Nat} (hW : 1 ≤ Wn) (hH : 1 ≤ Hn) (hM : Wn * Hn ≤ 65536) : ∀ L, offB Wn Hn L ≤ L * 65536
  | 0 => by simp [offB]
  | L + 1 => by
    have := offB_le hW hH hM L
    have := Nat.mul_le_mul (lvN_self hW L) (lvN_self hH L)
    unfold offB
    omega

/-! ### what holds while boxes are made -/
theorem own_ne {w : World} {B size n k : Nat} {e t : TypeId} {v : Value} {xs : List Value} {cs : Array Value} (h : w.ownsRow B e size v n xs) (hk : Blk w k cs t) (ht : t ≠ e) : some k ≠ v.ownBlock := by
  rcases h.2 with ⟨rfl, _⟩ | ⟨g, cap, cur, rfl, _, hg, _⟩
  · simp [Value.ownBlock]
  · intro q
    obtain rfl : k = g := by simpa [Value.ownBlock] using q
    have h2 := hk.symm.trans hg
    simp at h2
    exact ht h2.2
structure BdInv (w wr : World) (X Y : Int) (Wn Hn gS B : Nat) (S : List Value) (fv v : Value) (n : Nat) (L : List Value) : Prop where
  fl : Fld wr w.heap.size X Y Wn Hn fv
  sz : Rw wr gS S
  own : wr.ownsRow B 53 5 v n L
  below : Below w.heap.size w wr
  l0 : w.heap.size < B
  gl : gS < B
  bz : B ≤ wr.heap.size
section
variable {w wr w2 w3 : World} {X Y : Int} {Wn Hn gS B n : Nat} {S L : List Value} {fv v v' : Value}
theorem BdInv.call (h : BdInv w wr X Y Wn Hn gS B S fv v n L) (hb : Below wr.heap.size wr w2) : BdInv w w2 X Y Wn Hn gS B S fv v n L :=
  ⟨h.fl.below hb h.fl.lt, h.sz.below hb h.sz.1, ownsRow_below h.own hb (fun k hk => (h.own.lt k hk).2), h.below.trans (hb.mono h.below.size), h.l0, h.gl, Nat.le_trans h.bz hb.size⟩
theorem BdInv.alloc (h : BdInv w wr X Y Wn Hn gS B S fv v n L) (o : Obj) : BdInv w (wr.alloc o) X Y Wn Hn gS B S fv v n L :=
  h.call ((Below.refl _ _).alloc (Nat.le_refl _) _)
theorem BdInv.setc {k i : Nat} (h : BdInv w wr X Y Wn Hn gS B S fv v n L) (hk : B ≤ k) (hne : some k ≠ v.ownBlock) (u : Value) : BdInv w (wr.setCell ⟨k, i, none⟩ u) X Y Wn Hn gS B S fv v n L := by
  have hb : Below B wr (wr.setCell ⟨k, i, none⟩ u) := Below.setCell (Below.refl _ _) (by simpa using hk) _
  exact ⟨h.fl.below hb h.l0, h.sz.below hb h.gl, ownsRow_setCell_other h.own (a := ⟨k, i, none⟩) (fun e => hne e.symm) _, h.below.trans (hb.mono (by have := h.l0; omega)), h.l0, h.gl, by simpa using h.bz⟩
theorem BdInv.app {o : Obj} {m : List Value} (h : BdInv w w2 X Y Wn Hn gS B S fv v n L)
    (hown : w3.ownsRow B 53 5 v' (n + 1) (L ++ m)) (hg : (w2.alloc o).grownBy w3 v.ownBlock) : BdInv w w3 X Y Wn Hn gS B S fv v' (n + 1) (L ++ m) := by
  have hne : ∀ k, k < B → some k ≠ v.ownBlock := fun k hk e => by
    have := (h.own.lt k e.symm).1; omega
  have hA := h.alloc o
  refine ⟨hA.fl.grown hg (hne _ h.l0), ⟨Nat.lt_of_lt_of_le hA.sz.1 hg.size, fun i u hi => ?_⟩, hown, ?_, h.l0, h.gl, Nat.le_trans hA.bz hg.size⟩
  · exact (World.cell?_of_block (hg.block gS hA.sz.1 (hne _ h.gl))).trans (hA.sz.2 i u hi)
  · refine hA.below.grown hg hA.below.size (fun k hk => ?_)
    have := (h.own.lt k hk).1
    have := h.l0
    omega
theorem BdInv.prg {k : Nat} {a b : Int} {o : Obj} (h : BdInv w w2 X Y Wn Hn gS B S fv v n L) (hp : Pr w2 k a b) (hg : (w2.alloc o).grownBy w3 v.ownBlock) : Pr w3 k a b :=
  Blk.grown (Blk.alloc hp o) hg (own_ne h.own hp (by decide))
end
end Go.Proofs.Ytiiogjjjgoeghaa
