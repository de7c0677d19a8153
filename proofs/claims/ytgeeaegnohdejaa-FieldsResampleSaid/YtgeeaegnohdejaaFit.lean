import Derived.Test.YtgeeaegnohdejaaClampB
import Derived.Laws.BitsAllLaws
import Derived.Laws.BitsLemmas
import Derived.OwnWalk
namespace Go.Proofs.Ytgeeaegnohdejaa
open Go.Shelf
open Go.ChangeShapes Go.WideShapes Go.ChangeAt Go.RowKit
open Ieee.Format (fin finE htE allFin allHt all_true all_false finE_ok finE_bad htE_ok htE_far htE_bad mulF subF addF Ht scaleF)
set_option linter.unusedVariables false

theorem and15 (n : Int) : ∃ k : Nat, k ≤ 15 ∧ bits .and .i64 n 15 = (k : Int) := by
  refine ⟨(BitVec.ofInt 64 n).toNat &&& 15, Nat.and_le_right, ?_⟩
  have hx : (BitVec.ofInt 64 n).toNat &&& 15 ≤ 15 := Nat.and_le_right
  show IntKind.i64.wrap ((BitVec.ofInt 64 n &&& BitVec.ofInt 64 15).toNat : Int) = _
  rw [BitVec.toNat_and, show (BitVec.ofInt 64 15).toNat = 15 from by decide, IntKind.wrap_i64]
  omega

theorem conv_all : (List.range 256).all (fun i => decide (floatOfInt .f32 (i : Int) % 2147483648 ≤ 1233125376 ∧ floatOfInt .f32 (i : Int) < 4294967296)) = true := by decide +kernel
theorem conv_ht {i : Nat} (h : i < 256) : Ht (floatOfInt .f32 (i : Int)) ∧ floatOfInt .f32 (i : Int) < 4294967296 := by
  have := List.all_eq_true.1 conv_all i (List.mem_range.2 h)
  exact of_decide_eq_true this
theorem made_zero {z : Value} {n : Nat} (hz : z = .float .f32 0) : (madeCells z.cells (n * 1)).toList = fls (List.replicate n 0) := by
  subst hz
  unfold madeCells fls
  refine List.ext_getElem? fun k => ?_
  by_cases hk : k < n
  · simp [Value.cells, hk, Nat.mod_one]
  · simp [Value.cells, hk]

/-- the loop of 'fit' -/
structure FitInv (w wr : World) (X Y P Q : Int) (v : Value) (g n i : Nat) (m : List Nat) : Prop where
  fo : Fld wr w.heap.size X Y P Q v
  rz : Fld wr (w.heap.size + 1) 0 0 0 0 (.slice none 0 0)
  own : OwnF wr w.heap.size g n m
  below : Below w.heap.size w wr
  len : m.length = n
  gg : w.heap.size + 1 < g
  ht : ∀ j, j < i → Ht (m.getD j 0)
theorem FitInv.set {w wr : World} {X Y P Q : Int} {v : Value} {g n i : Nat} {m : List Nat} (h : FitInv w wr X Y P Q v g n i m) (x : Nat) (hx : x < 4294967296) : FitInv w (wr.setCell ⟨g, i, none⟩ (.float .f32 x)) X Y P Q v g n i (m.set i x) := by
  have hg := h.gg
  refine ⟨h.fo.setCell (by simp; omega) _, h.rz.setCell (by simp; omega) _, h.own.store i x hx, Below.setCell h.below (by simp; omega) _, by rw [List.length_set]; exact h.len, hg, fun j hj => ?_⟩
  have := h.ht j hj
  rw [List.getD_eq_getElem?_getD, List.getElem?_set_ne (by omega), ← List.getD_eq_getElem?_getD]
  exact this
theorem FitInv.next {w wr : World} {X Y P Q : Int} {v : Value} {g n i : Nat} {m : List Nat} (h : FitInv w wr X Y P Q v g n i m) (hx : Ht (m.getD i 0)) : FitInv w wr X Y P Q v g n (i + 1) m := by
  refine ⟨h.fo, h.rz, h.own, h.below, h.len, h.gg, fun j hj => ?_⟩
  rcases Nat.lt_or_ge j i with hlt | hge
  · exact h.ht j hlt
  · have : j = i := by omega
    subst this; exact hx
theorem getD_set_self {m : List Nat} {i x : Nat} (h : i < m.length) : (m.set i x).getD i 0 = x := by
  rw [List.getD_eq_getElem?_getD, List.getElem?_set_self h]; rfl
theorem FitInv.alloc {w wr : World} {X Y P Q : Int} {v : Value} {g n i : Nat} {m : List Nat} (h : FitInv w wr X Y P Q v g n i m) (o : Obj) : FitInv w (wr.alloc o) X Y P Q v g n i m :=
  ⟨h.fo.alloc o, h.rz.alloc o, h.own.alloc o, Below.alloc h.below (by have := h.fo.lt; omega) o, h.len, h.gg, h.ht⟩
theorem FitInv.drew {w wr : World} {X Y P Q : Int} {v : Value} {g n i : Nat} {m : List Nat} (h : FitInv w wr X Y P Q v g n i m) : FitInv w wr.drew X Y P Q v g n i m :=
  ⟨h.fo, h.rz, h.own, h.below.drew, h.len, h.gg, h.ht⟩

/-- as SRow, of whatever length -/
def Row63 (w : World) (a : Option Addr) (l : List Nat) : Prop :=
  (l.length ≤ 9223372036854775807 ∧ ∀ x ∈ l, x < 4294967296) ∧ (l = [] ∨ ∃ b o, a = some ⟨b, o, none⟩ ∧ ∀ i, i < l.length → w.cell? ⟨b, o + i, none⟩ = some (.float .f32 (l.getD i 0)))
theorem Row63.below {w w' : World} {a : Option Addr} {l : List Nat} (h : Row63 w a l) (hb : Below w.heap.size w w') : Row63 w' a l := by
  obtain ⟨h1, h2⟩ := h
  refine ⟨h1, ?_⟩
  rcases h2 with h2 | ⟨b, o, rfl, hc⟩
  · exact .inl h2
  · refine .inr ⟨b, o, rfl, fun i hi => ?_⟩
    have h := hc i hi
    have hlt := World.block_lt_of_cell? _ _ h
    rw [hb.cell (p := ⟨b, o + i, none⟩) hlt]
    exact h
theorem Row63.at_ {w : World} {b o : Nat} {l : List Nat} (h : Row63 w (some ⟨b, o, none⟩) l) {k : Nat} (hk : k < l.length) : w.cell? ⟨b, o + k, none⟩ = some (.float .f32 (l.getD k 0)) := by
  rcases h.2 with h | ⟨b', o', e, hc⟩
  · subst h; simp at hk
  · cases e; exact hc k hk
theorem Row63.lt {w : World} {a : Option Addr} {l : List Nat} (h : Row63 w a l) (i : Nat) : l.getD i 0 < 4294967296 := by
  rcases Nat.lt_or_ge i l.length with hlt | hge
  · rw [List.getD_eq_getElem?_getD, List.getElem?_eq_getElem hlt]; exact h.1.2 _ (List.getElem_mem hlt)
  · rw [List.getD_eq_getElem?_getD, List.getElem?_eq_none hge]; show (0 : Nat) < 4294967296; decide

theorem refheight_one (W : World) (g x : Nat) (hx : x < 4294967296) (h0 : W.cell? ⟨g, 0, none⟩ = some (.float .f32 x)) :
    Calls Try.prog 39 #[.slice (some ⟨g, 0, none⟩) 1 1] W fun e w' => e = .returned (.int .i64 (htE [x])) ∧ W = w' := by
  refine refheight_any (some ⟨g, 0, none⟩) 1 [x] W ⟨⟨by simp, by simp; exact hx⟩, .inr ⟨g, 0, rfl, ?_⟩⟩
  intro i hi
  obtain rfl : i = 0 := by simp at hi; omega
  exact h0

/-- what 'fit' gives -/
def FitP (w : World) (e : Ending) (w' : World) : Prop :=
  ∃ (X Y : Int) (Wn Hn : Nat) (g cap : Nat) (l : List Nat), e = .returned (fldV X Y Wn Hn (some ⟨g, 0, none⟩) l.length cap) ∧ Right X Y Wn Hn l ∧ (-5000 ≤ X ∧ X ≤ 5000 ∧ -5000 ≤ Y ∧ Y ≤ 5000 ∧ Wn ≤ 16 ∧ Hn ≤ 16) ∧ OwnF w' w.heap.size g cap l ∧ Below w.heap.size w w'
set_option maxRecDepth 100000 in
theorem fit_any (X Y W H : Int) (a : Option Addr) (c : Nat) (l : List Nat) (w : World) (hl : Row63 w a l) :
    Calls Try.prog 46 #[fldV X Y W H a l.length c] w fun e w' => FitP w e w' := by
  obtain ⟨p, hp, eW⟩ := and15 W
  obtain ⟨q, hq, eH⟩ := and15 H
  obtain ⟨X1, gX⟩ : ∃ X1 : Int, (if X < -5000 then (-5000 : Int) else X) = X1 := ⟨_, rfl⟩
  obtain ⟨X2, jX⟩ : ∃ X2 : Int, (if 5000 < X1 then (5000 : Int) else X1) = X2 := ⟨_, rfl⟩
  obtain ⟨Y1, gY⟩ : ∃ X1 : Int, (if Y < -5000 then (-5000 : Int) else Y) = X1 := ⟨_, rfl⟩
  obtain ⟨Y2, jY⟩ : ∃ X2 : Int, (if 5000 < Y1 then (5000 : Int) else Y1) = X2 := ⟨_, rfl⟩
  have bX : -5000 ≤ X2 ∧ X2 ≤ 5000 := by subst gX jX; constructor <;> split <;> (try split) <;> omega
  have bY : -5000 ≤ Y2 ∧ Y2 ≤ 5000 := by subst gY jY; constructor <;> split <;> (try split) <;> omega
  have BX := Lib.hid bX
  have BY := Lib.hid bY
  clear bX bY
  go_enter Try.func46, Try.ntmps46
  go_wp2_with fail
  obtain ⟨i0, hi, hz0, hz1, hz2⟩ := info_parts info24
  generalize hW0 : (w.alloc (.cells #[.int .i64 X2, .int .i64 Y2, .int .i64 (1 + (p : Int)), .int .i64 (1 + (q : Int)), .slice a l.length c] /-T-/66)).alloc (.cells #[.int .i64 0, .int .i64 0, .int .i64 0, .int .i64 0, .slice none 0 0] /-T-/66) = W0 at *
  obtain ⟨f1, f2, hB, hz⟩ := two_fields w X2 Y2 (1 + (p : Int)) (1 + (q : Int)) (.slice a l.length c) W0 hW0.symm
  obtain ⟨n, hn, hn2, hn3⟩ : ∃ n : Nat, wrap64 ((1 + (p : Int)) * (1 + (q : Int))) = (n : Int) ∧ n = (1 + q) * (1 + p) ∧ n ≤ 256 := by
    have h3 : (1 + q) * (1 + p) ≤ 16 * 16 := Nat.mul_le_mul (by omega) (by omega)
    refine ⟨(1 + q) * (1 + p), ?_, rfl, by omega⟩
    rw [show (1 + (p : Int)) * (1 + (q : Int)) = (((1 + q) * (1 + p) : Nat) : Int) from by rw [Int.natCast_mul, Int.mul_comm]; rfl]
    unfold wrap64; omega
  rw [hn]
  obtain ⟨w1, hrun, r1, r2⟩ := run_make_full (P := Try.prog) W0 w.heap.size /-T-/64 /-T-/24 i0 (.float .f32 0) 1 (by rfl) hi hz0 hz1 .i64 .i64 n (by rw [hz2]; omega) (by unfold maxLen; omega) hB.size
  rw [hrun]
  rw [made_zero rfl] at r1
  have BB : Hid (n = (1 + q) * (1 + p)) := hn2
  rw [hz] at r1 ⊢
  have HZ := Lib.hid hz
  clear hn2 hz hn
  go_wp2_with fail
  have I0 : FitInv w w1 X2 Y2 (1 + (p : Int)) (1 + (q : Int)) (.slice a l.length c) (w.heap.size + 2) n 0 (List.replicate n 0) := by
    have hz := HZ.out
    have hb1 : Below W0.heap.size W0 w1 := OwnF.grown_below r2 (by intro k hk; cases hk) (Nat.le_refl _)
    refine ⟨f1.below hb1 f1.lt, f2.below hb1 f2.lt, ⟨by rw [List.length_replicate]; exact r1, fun x hx => by rw [List.eq_of_mem_replicate hx]; decide⟩, hB.trans (hb1.mono hB.size), List.length_replicate, by omega, fun j hj => by omega⟩
  have HL := Lib.hid hl
  have hll : l.length ≤ 9223372036854775807 := hl.1.1
  clear r1 r2 hrun hB f1 f2 hW0 hl eW eH gX jX gY jY HZ
  go_loopw [4, 43] (fun _ i wr => ∃ k : Nat, k ≤ n ∧ i = .int .i64 k ∧ ∃ m, FitInv w wr X2 Y2 (1 + (p : Int)) (1 + (q : Int)) (.slice a l.length c) (w.heap.size + 2) n k m) (fun _ i _ => n - (intOf i).toNat)
  case atStart => exact ⟨0, by omega, rfl, _, I0⟩
  case round =>
    clear I0
    obtain ⟨k, hk, rfl, m, I⟩ := hrel
    by_cases hlt : k < n
    · have c4 := I.fo.cells.2.2.2.2
      by_cases h0 : l.length = 0
      · obtain ⟨hcell, hfro⟩ := I.own.at_ (k := k) (by rw [I.len]; exact hlt)
        have hx : Hid (m.getD k 0 < 4294967296) := ht_lt (I.own.row (by rw [I.len]; omega)) k
        have IH := Lib.hid I
        have h00 : ¬ (0 : Int) < (l.length : Int) := by omega
        have H0 := Lib.hid h0
        clear I h0
        generalize hX0 : m.getD k 0 = x at *
        have hX := Lib.hid hX0
        clear hX0
        go_wp2_with fail
        have hb5 : Hid (FitInv w (wr.alloc (.cells #[.float .f32 x] /-T-/24)) X2 Y2 (1 + (p : Int)) (1 + (q : Int)) (.slice a l.length c) (w.heap.size + 2) n k m) := IH.out.alloc _
        have hc5 : (wr.alloc (.cells #[.float .f32 x] /-T-/24)).frozen? ⟨w.heap.size + 2, k, none⟩ = false := (hb5.out.own.at_ (k := k) (by rw [hb5.out.len]; exact hlt)).2
        have hc6 : (wr.alloc (.cells #[.float .f32 x] /-T-/24)).cell? ⟨w.heap.size + 2, k, none⟩ = some (.float .f32 x) := (hb5.out.own.at_ (k := k) (by rw [hb5.out.len]; exact hlt)).1.trans (by rw [hX.out])
        refine (refheight_one _ _ x hx.out (by simp [go_sem])).mono ?_
        rintro e w2 ⟨rfl, rfl⟩
        generalize wr.alloc (.cells #[.float .f32 x] /-T-/24) = W5 at *
        by_cases hz : htE [x] = 0
        · have hhx : Hid (Ht x) := Ieee.Format.allHt_iff.1 (Ieee.Format.htE_zero hz) x (by simp)
          have hb6 : Hid (FitInv w W5 X2 Y2 (1 + (p : Int)) (1 + (q : Int)) (.slice a l.length c) (w.heap.size + 2) n (k + 1) m) := hb5.out.next (by rw [hX.out]; exact hhx.out)
          rw [hz]
          clear hz
          go_wp2
          go_roundw
          case rel => exact ⟨k + 1, by omega, by go_num, _, hb6.out⟩
          case measure => simp [intOf]; omega
        · have hzb : (htE [x] != 0) = true := by rw [bne_iff_ne]; exact hz
          have hv := conv_ht (show k < 256 by omega)
          have hb6 : Hid (FitInv w (W5.setCell ⟨w.heap.size + 2, k, none⟩ (.float .f32 (floatOfInt .f32 (k : Int)))) X2 Y2 (1 + (p : Int)) (1 + (q : Int)) (.slice a l.length c) (w.heap.size + 2) n (k + 1) (m.set k (floatOfInt .f32 (k : Int)))) :=
            (hb5.out.set _ hv.2).next (by rw [getD_set_self (by rw [hb5.out.len]; exact hlt)]; exact hv.1)
          clear hz hv
          generalize htE [x] = cz at *
          go_wp2
          go_roundw
          case rel => exact ⟨k + 1, by omega, by go_num, _, hb6.out⟩
          case measure => simp [intOf]; omega
      · obtain ⟨b, o, rfl⟩ : ∃ b o, a = some ⟨b, o, none⟩ := by
          rcases HL.out.2 with h | ⟨b, o, e, _⟩
          · rw [h] at h0; exact absurd rfl h0
          · exact ⟨b, o, e⟩
        have hml : k % l.length < l.length := Nat.mod_lt _ (by omega)
        have hrc := (HL.out.below I.below).at_ hml
        obtain ⟨hcell, hfro⟩ := I.own.at_ (k := k) (by rw [I.len]; exact hlt)
        have e1 : ((k : Int).tmod (l.length : Int)) = ((k % l.length : Nat) : Int) := by rw [Int.tmod_eq_emod_of_nonneg (by omega)]; rfl
        have h00 : (0 : Int) < (l.length : Int) := by omega
        have hx : Hid (l.getD (k % l.length) 0 < 4294967296) := HL.out.lt _
        have IH : Hid (FitInv w (wr.setCell ⟨w.heap.size + 2, k, none⟩ (.float .f32 (l.getD (k % l.length) 0))) X2 Y2 (1 + (p : Int)) (1 + (q : Int)) (.slice (some ⟨b, o, none⟩) l.length c) (w.heap.size + 2) n k (m.set k (l.getD (k % l.length) 0))) := I.set _ hx.out
        have hX0 := getD_set_self (m := m) (i := k) (x := l.getD (k % l.length) 0) (by rw [I.len]; exact hlt)
        clear I
        generalize l.getD (k % l.length) 0 = x at *
        generalize m.getD k 0 = x0 at *
        have hX := Lib.hid hX0
        clear hX0
        generalize k % l.length = r at *
        go_wp2_with fail
        go_region
        all_goals
          have IH3 : FitInv w (wr.setCell ⟨w.heap.size + 2, k, none⟩ (.float .f32 x)).drew X2 Y2 (1 + (p : Int)) (1 + (q : Int)) (.slice (some ⟨b, o, none⟩) l.length c) (w.heap.size + 2) n k (m.set k x) := IH.out.drew
          generalize (wr.setCell ⟨w.heap.size + 2, k, none⟩ (.float .f32 x)).drew = W3 at *
          clear IH
          have IH := Lib.hid IH3
          clear hcell hfro IH3
          obtain ⟨hcell, hfro⟩ := IH.out.own.at_ (k := k) (by rw [IH.out.len]; exact hlt)
          rw [hX.out] at hcell
          go_wp2_with fail
          have hb5 : Hid (FitInv w (W3.alloc (.cells #[.float .f32 x] /-T-/24)) X2 Y2 (1 + (p : Int)) (1 + (q : Int)) (.slice (some ⟨b, o, none⟩) l.length c) (w.heap.size + 2) n k (m.set k x)) := IH.out.alloc _
          have hc5 : (W3.alloc (.cells #[.float .f32 x] /-T-/24)).frozen? ⟨w.heap.size + 2, k, none⟩ = false := (hb5.out.own.at_ (k := k) (by rw [hb5.out.len]; exact hlt)).2
          have hc6 : (W3.alloc (.cells #[.float .f32 x] /-T-/24)).cell? ⟨w.heap.size + 2, k, none⟩ = some (.float .f32 x) := (hb5.out.own.at_ (k := k) (by rw [hb5.out.len]; exact hlt)).1.trans (by rw [hX.out])
          refine (refheight_one _ _ x hx.out (by simp [go_sem])).mono ?_
          rintro e w2 ⟨rfl, rfl⟩
          generalize W3.alloc (.cells #[.float .f32 x] /-T-/24) = W5 at *
          by_cases hz : htE [x] = 0
          · have hhx : Hid (Ht x) := Ieee.Format.allHt_iff.1 (Ieee.Format.htE_zero hz) x (by simp)
            have hb6 : Hid (FitInv w W5 X2 Y2 (1 + (p : Int)) (1 + (q : Int)) (.slice (some ⟨b, o, none⟩) l.length c) (w.heap.size + 2) n (k + 1) (m.set k x)) := hb5.out.next (by rw [hX.out]; exact hhx.out)
            rw [hz]
            clear hz
            go_wp2
            go_roundw
            case rel => exact ⟨k + 1, by omega, by go_num, _, hb6.out⟩
            case measure => simp [intOf]; omega
          · have hzb : (htE [x] != 0) = true := by rw [bne_iff_ne]; exact hz
            have hv := conv_ht (show k < 256 by omega)
            have hb6 : Hid (FitInv w (W5.setCell ⟨w.heap.size + 2, k, none⟩ (.float .f32 (floatOfInt .f32 (k : Int)))) X2 Y2 (1 + (p : Int)) (1 + (q : Int)) (.slice (some ⟨b, o, none⟩) l.length c) (w.heap.size + 2) n (k + 1) ((m.set k x).set k (floatOfInt .f32 (k : Int)))) :=
              (hb5.out.set _ hv.2).next (by rw [getD_set_self (by rw [hb5.out.len]; exact hlt)]; exact hv.1)
            clear hz hv
            generalize htE [x] = cz at *
            go_wp2
            go_roundw
            case rel => exact ⟨k + 1, by omega, by go_num, _, hb6.out⟩
            case measure => simp [intOf]; omega
    · have hke : k = n := by omega
      have hlen := I.len
      have FI := Lib.hid I
      have FO := I.fo
      obtain ⟨c0, c1, c2, c3, c4⟩ := FO.cells
      have FB := I.rz
      obtain ⟨d0, d1, d2, d3, d4⟩ := FB.cells
      have qf0 := FB.frozen 0
      have qf1 := FB.frozen 1
      have qf2 := FB.frozen 2
      have qf3 := FB.frozen 3
      have qf4 := FB.frozen 4
      have sf0 := FO.frozen 0
      have sf1 := FO.frozen 1
      have sf2 := FO.frozen 2
      have sf3 := FO.frozen 3
      have sf4 := FO.frozen 4
      clear FB FO I
      obtain rfl := hke
      subst hlen
      go_wp2
      have B2 := FI.out.below
      have O2 := FI.out.own
      have hgg := FI.out.gg
      have hnb := BB.out
      have R : Right X2 Y2 (1 + p) (1 + q) m := by
        have h3 : (1 + p) * (1 + q) ≤ 16 * 16 := Nat.mul_le_mul (by omega) (by omega)
        have := BX.out; have := BY.out
        refine ⟨by omega, by omega, by omega, by omega, by omega, by omega, by omega, by omega, by omega, hnb, fun x hx => ?_⟩
        obtain ⟨j, hj, rfl⟩ := List.mem_iff_getElem.1 hx
        have := FI.out.ht j hj
        rwa [List.getD_eq_getElem?_getD, List.getElem?_eq_getElem hj] at this
      refine bodyPost_ret (v := fldV X2 Y2 (1 + (p : Int)) (1 + (q : Int)) (some ⟨w.heap.size + 2, 0, none⟩) m.length m.length) (by simp [results, Try.results46, go_sem, *]) rfl ⟨X2, Y2, 1 + p, 1 + q, _, _, m, by rw [Int.natCast_add, Int.natCast_add]; rfl, R, ⟨BX.out.1, BX.out.2, BY.out.1, BY.out.2, by omega, by omega⟩, (by have hgg := O2.lt; repeat (first | with_reducible exact O2 | with_reducible refine OwnF.drew ?_ | with_reducible refine OwnF.drewN ?_ _ | (with_reducible refine OwnF.setCell ?_ ?_ _; rotate_left; focus (first | omega | (simp <;> omega))) | with_reducible refine OwnF.alloc ?_ _)), (by have hszz := B2.size; repeat (first | with_reducible exact B2 | with_reducible apply Below.drew | with_reducible refine below_drewN ?_ _ | (with_reducible refine Below.setCell ?_ ?_ _; rotate_left; focus (first | omega | (simp <;> omega))) | (with_reducible refine Below.alloc ?_ ?_ _; rotate_left; focus (first | omega | (simp <;> omega)))))⟩
end Go.Proofs.Ytgeeaegnohdejaa
