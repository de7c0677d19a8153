import Derived.Test.YtnfebeebjelgbaaRefKern
import Derived.Test.YtnfebeebjelgbaaRepeatFn
namespace Go.Proofs.Ytnfebeebjelgbaa
open Go.ChangeShapes Go.WideShapes Go.ChangeAt Go.RowKit
open Ieee.Format (fin finE htE allFin allHt all_true all_false mulF subF addF Ht Bd divF rootF floorF easeF mixF)
set_option linter.unusedVariables false

/-- the field's cells and the weights -/
def KRow (w : World) (b o : Nat) (l : List Nat) (ka : Option Addr) (K : List Nat) : Prop := SRow w (some ⟨b, o, none⟩) l ∧ Row63 w ka K
theorem KRow.below {w w' : World} {b o : Nat} {l : List Nat} {ka : Option Addr} {K : List Nat} (h : KRow w b o l ka K) (hb : Below w.heap.size w w') : KRow w' b o l ka K := ⟨SRow.below h.1 hb, Row63.below h.2 hb⟩

theorem kern_pair (R : Int) (ka : Option Addr) (K : List Nat) (kn kc : Nat) (hkn : K.length = kn) (X Y : Int) (Wn Hn : Nat) (b o c : Nat) (l : List Nat) (hr : Right X Y Wn Hn l) :
    ∃ (C X1 Y1 W1 H1 : Int) (S : List Nat), S.length ≤ 1099511627776 ∧
      (∀ w, KRow w b o l ka K → Calls Try.prog 46 #[fldV X Y Wn Hn (some ⟨b, o, none⟩) l.length c, .slice ka kn kc, .int .i64 R] w fun e w' => OpP C X1 Y1 W1 H1 S w e w') ∧
      (∀ w, KRow w b o l ka K → Calls Try.prog 47 #[fldV X Y Wn Hn (some ⟨b, o, none⟩) l.length c, .slice ka kn kc, .int .i64 R] w fun e w' => OpP C X1 Y1 W1 H1 S w e w') := by
  subst hkn
  by_cases h : R < 1 ∨ 15 < R ∨ R.tmod 2 = 0
  · refine ⟨3, 0, 0, 0, 0, [], by simp, fun w hl => ?_, fun w hl => ?_⟩
    · exact (kern_rng X Y Wn Hn R ka K b o c kc l w hl.1 hr h).mono fun e w' ⟨h1, h2⟩ => OpP.err (by decide) h1 h2
    · exact (refkern_rng X Y Wn Hn R ka K b o c kc l w h).mono fun e w' ⟨h1, h2⟩ => OpP.err (by decide) h1 h2
  · have hs := SideOk.of (R := R) (by omega) (by omega) (by omega)
    generalize ((R - 1) / 2).toNat = N at hs
    by_cases h2 : (K.length : Int) = R * R
    · have r0 : 1 * 1 ≤ R * R := Int.mul_le_mul (by omega) (by omega) (by omega) (by omega)
      have r2 : R * R ≤ 15 * 15 := Int.mul_le_mul (by omega) (by omega) (by omega) (by omega)
      have hsr : ∀ w, KRow w b o l ka K → SRow w ka K := fun w hl => ⟨⟨by omega, hl.2.1.2⟩, hl.2.2⟩
      by_cases hz : htE K = 0
      · by_cases h5 : Wn < 2 * N + 1 ∨ Hn < 2 * N + 1
        · refine ⟨10, 0, 0, 0, 0, [], by simp, fun w hl => ?_, fun w hl => ?_⟩
          · exact (kern_no X Y Wn Hn R N ka K b o c kc l w hl.1 hr hs (hsr w hl) h2 hz h5).mono fun e w' ⟨h1, h2⟩ => OpP.err (by decide) h1 h2
          · exact (refkern_no X Y Wn Hn R N ka K b o c kc l w hr hs (hsr w hl) h2 hz h5).mono fun e w' ⟨h1, h2⟩ => OpP.err (by decide) h1 h2
        · refine ⟨resC (padL (kerV K l X Y Wn N) X Y Wn Hn N), X + N, Y + N, ((Wn - 2 * N : Nat) : Int), ((Hn - 2 * N : Nat) : Int), padL (kerV K l X Y Wn N) X Y Wn Hn N, padL_small _ N hr, fun w hl => ?_, fun w hl => ?_⟩
          · have hk := hsr w hl
            rcases hk.2 with h9 | ⟨kb, ko, rfl, _⟩
            · rw [h9] at h2; simp at h2; omega
            · exact kern_yes X Y Wn Hn R N kb ko K b o c kc l w hl.1 hr hs hk h2 hz (by omega) (by omega)
          · have hk := hsr w hl
            rcases hk.2 with h9 | ⟨kb, ko, rfl, _⟩
            · rw [h9] at h2; simp at h2; omega
            · exact refkern_yes X Y Wn Hn R N kb ko K b o c kc l w hl.1 hr hs hk h2 hz (by omega) (by omega)
      · refine ⟨htE K, 0, 0, 0, 0, [], by simp, fun w hl => ?_, fun w hl => ?_⟩
        · exact (kern_ht X Y Wn Hn R N ka K b o c kc l w hl.1 hr hs (hsr w hl) h2 hz).mono fun e w' ⟨h1, h2⟩ => OpP.err hz h1 h2
        · exact (refkern_ht X Y Wn Hn R N ka K b o c kc l w hs (hsr w hl) h2 hz).mono fun e w' ⟨h1, h2⟩ => OpP.err hz h1 h2
    · refine ⟨2, 0, 0, 0, 0, [], by simp, fun w hl => ?_, fun w hl => ?_⟩
      · exact (kern_len X Y Wn Hn R N ka K b o c kc l w hl.1 hr hs hl.2.1.1 h2).mono fun e w' ⟨h1, h2⟩ => OpP.err (by decide) h1 h2
      · exact (refkern_len X Y Wn Hn R N ka K b o c kc l w hs hl.2.1.1 h2).mono fun e w' ⟨h1, h2⟩ => OpP.err (by decide) h1 h2

theorem repL_lt {l : List Nat} {c : Nat} (h : ∀ x ∈ l, x < 4294967296) : ∀ x ∈ repL l c, x < 4294967296 := by
  intro x hx
  unfold repL at hx
  obtain ⟨i, _, rfl⟩ := List.mem_map.1 hx
  rcases Nat.lt_or_ge (i % l.length) l.length with hlt | hge
  · rw [List.getD_eq_getElem?_getD, List.getElem?_eq_getElem hlt]; exact h _ (List.getElem_mem hlt)
  · rw [List.getD_eq_getElem?_getD, List.getElem?_eq_none hge]; show (0 : Nat) < 4294967296; decide
theorem rep_row {w : World} {kz nn : Nat} {L : List Nat} (h : Blk w kz (fls L).toArray 37) (hL : ∀ x ∈ L, x < 4294967296) (hn : nn ≤ L.length) (hs : nn ≤ 1000) : Row63 w (some ⟨kz, 0, none⟩) (L.take nn) := by
  refine ⟨⟨by rw [List.length_take]; omega, fun x hx => hL x (List.mem_of_mem_take hx)⟩, .inr ⟨kz, 0, rfl, ?_⟩⟩
  intro i hi
  rw [List.length_take] at hi
  rw [Nat.zero_add, h.cell i]
  have hi2 : i < L.length := by omega
  simp [fls, List.getD_eq_getElem?_getD, List.getElem?_take, List.getElem?_eq_getElem hi2, show i < nn from by omega]
end Go.Proofs.Ytnfebeebjelgbaa
