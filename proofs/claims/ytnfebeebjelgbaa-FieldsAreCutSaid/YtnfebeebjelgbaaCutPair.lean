import Derived.Test.YtnfebeebjelgbaaSameOp
import Derived.Test.YtnfebeebjelgbaaBlendFit
import Derived.Test.YtnfebeebjelgbaaRefShade
namespace Go.Proofs.Ytnfebeebjelgbaa
open Go.ChangeShapes Go.WideShapes Go.ChangeAt Go.RowKit
open Ieee.Format (fin finE htE allFin allHt all_true all_false mulF subF addF Ht Bd divF rootF floorF easeF mixF)
set_option linter.unusedVariables false

theorem OwnF.cap_le {w : World} {B g cap : Nat} {m : List Nat} (h : OwnF w B g cap m) : m.length ≤ cap := by
  obtain ⟨cur, _, h1, _, h2⟩ := h.cur
  omega
theorem fill_pair (P Q A B : Int) (h : Nat) (hh : h < 4294967296) : ∃ L : List Nat, (∀ w, Calls Try.prog 22 #[reg P Q A B, .float .f32 h] w fun e w' => OpP (fillE P Q A B h) P Q A B L w e w') ∧ (fillE P Q A B h = 0 → (L.length : Int) = A * B ∧ (∀ x ∈ L, x = h) ∧ L.length ≤ 262144) := by
  by_cases hz : fillE P Q A B h = 0
  · have hc : chk P Q A B = 0 := by
      unfold fillE at hz
      split at hz
      · exact hz
      · omega
    obtain ⟨g1, g2, g3, g4, g5, g6, g7, g8, _⟩ := chk_zero hc
    obtain ⟨a, rfl⟩ : ∃ a : Nat, A = a := ⟨A.toNat, by omega⟩
    obtain ⟨b, rfl⟩ : ∃ b : Nat, B = b := ⟨B.toNat, by omega⟩
    obtain ⟨e1, e2⟩ := fillL_all h P Q a b
    have e3 : b * a ≤ 512 * 512 := Nat.mul_le_mul (by omega) (by omega)
    refine ⟨fillL h P Q a b, fun w => ?_, fun _ => ⟨?_, e2, by rw [e1]; omega⟩⟩
    · rw [hz]
      exact fill_ok P Q a b h w hh hz
    · rw [e1, Int.natCast_mul, Int.mul_comm]
  · exact ⟨[], fun w => (fill_bad P Q A B h w hh hz).mono fun e w' ⟨a1, a2⟩ => OpP.err hz a1 a2, fun h' => absurd h' hz⟩
/-- the error of Cut -/
def cutE (P Q A B X Y W H : Int) : Int := if chk P Q A B ≠ 0 then chk P Q A B else if insB P Q A B X Y W H = true then 0 else 5
theorem cut_pair (X Y : Int) (Wn Hn : Nat) (b o c : Nat) (l : List Nat) (P Q A B : Int) (hcap : l.length ≤ c) (hr : Right X Y Wn Hn l) : ∃ M : List Nat, M.length ≤ 262144 ∧
    (∀ w, SRow w (some ⟨b, o, none⟩) l → Calls Try.prog 28 #[fldV X Y Wn Hn (some ⟨b, o, none⟩) l.length c, reg P Q A B] w fun e w' => OpP (cutE P Q A B X Y Wn Hn) P Q A B M w e w') ∧
    (cutE P Q A B X Y Wn Hn = 0 → ∀ w, SRow w (some ⟨b, o, none⟩) l → Calls Try.prog 30 #[fldV X Y Wn Hn (some ⟨b, o, none⟩) l.length c, reg P Q A B] w fun e w' => OneP P Q A B M w e w') := by
  by_cases hc : chk P Q A B = 0
  · by_cases hi : insB P Q A B X Y Wn Hn = true
    · have hz : cutE P Q A B X Y Wn Hn = 0 := by unfold cutE; rw [if_neg (by omega), if_pos hi]
      obtain ⟨g1, g2, g3, g4, g5, g6, g7, g8, _⟩ := chk_zero hc
      obtain ⟨a, rfl⟩ : ∃ a : Nat, A = a := ⟨A.toNat, by omega⟩
      obtain ⟨bb, rfl⟩ : ∃ b : Nat, B = b := ⟨B.toNat, by omega⟩
      have e3 : bb * a ≤ 512 * 512 := Nat.mul_le_mul (by omega) (by omega)
      refine ⟨cutL l X Y Wn P Q a (bb * a), by rw [cutL_len]; omega, fun w hl => ?_, fun _ w hl => refcut_ok X Y Wn Hn b o c l P Q a bb w hl hr hc hi⟩
      rw [hz]
      exact cut_ok X Y Wn Hn b o c l P Q a bb w hl hcap hr hc hi
    · have hz : cutE P Q A B X Y Wn Hn = 5 := by unfold cutE; rw [if_neg (by omega), if_neg hi]
      rw [hz]
      exact ⟨[], by simp, fun w hl => (cut_out X Y Wn Hn b o c l P Q A B w hl hr hc (by simpa using hi)).mono fun e w' ⟨a1, a2⟩ => OpP.err (by decide) a1 a2, fun h' => absurd h' (by decide)⟩
  · have hz : cutE P Q A B X Y Wn Hn = chk P Q A B := by unfold cutE; rw [if_pos hc]
    rw [hz]
    exact ⟨[], by simp, fun w hl => (cut_chk X Y Wn Hn b o c l P Q A B w hl hr hc).mono fun e w' ⟨a1, a2⟩ => OpP.err hc a1 a2, fun h' => absurd h' hc⟩
/-- the error of Paste -/
def pasE (X Y W H X' Y' W' H' : Int) : Int := if cmOk X Y W H X' Y' W' H' = true then 0 else 5
theorem paste_pair (X Y : Int) (Wn Hn : Nat) (b o c : Nat) (l : List Nat) (X' Y' : Int) (Wn' Hn' : Nat) (b' o' c' : Nat) (l' : List Nat) (hcap : l'.length ≤ c') (hr : Right X Y Wn Hn l) (hr' : Right X' Y' Wn' Hn' l') : ∃ M : List Nat, M.length ≤ 262144 ∧
    (∀ w, SRow w (some ⟨b, o, none⟩) l → SRow w (some ⟨b', o', none⟩) l' → Calls Try.prog 31 #[fldV X Y Wn Hn (some ⟨b, o, none⟩) l.length c, fldV X' Y' Wn' Hn' (some ⟨b', o', none⟩) l'.length c'] w fun e w' => OpP (pasE X Y Wn Hn X' Y' Wn' Hn') X Y Wn Hn M w e w') ∧
    (∀ w, SRow w (some ⟨b, o, none⟩) l → SRow w (some ⟨b', o', none⟩) l' → Calls Try.prog 33 #[fldV X Y Wn Hn (some ⟨b, o, none⟩) l.length c, fldV X' Y' Wn' Hn' (some ⟨b', o', none⟩) l'.length c'] w fun e w' => OneP X Y Wn Hn M w e w') := by
  have hM : (pasRL l l' X Y Wn Hn X' Y' Wn' Hn').length ≤ 262144 := by
    unfold pasRL
    rw [madeL_len]
    exact Nat.mul_le_mul hr.h2 hr.w2
  refine ⟨pasRL l l' X Y Wn Hn X' Y' Wn' Hn', hM, fun w hl hl' => ?_, fun w hl hl' => refpaste_ok X Y Wn Hn b o c l X' Y' Wn' Hn' b' o' c' l' w hl hr hl' hr'⟩
  unfold pasE
  by_cases hok : cmOk X Y Wn Hn X' Y' Wn' Hn' = true
  · rw [if_pos hok]
    have r1 := hr.w1; have r3 := hr.h1
    obtain ⟨p, q⟩ : 1 ≤ mn (X + Wn) (X' + Wn') - mx X X' ∧ 1 ≤ mn (Y + Hn) (Y' + Hn') - mx Y Y' := by
      unfold cmOk at hok
      exact of_decide_eq_true hok
    obtain ⟨cw, hcw⟩ : ∃ cw : Nat, mn (X + Wn) (X' + Wn') - mx X X' = cw := ⟨(mn (X + Wn) (X' + Wn') - mx X X').toNat, by omega⟩
    obtain ⟨ch, hch⟩ : ∃ ch : Nat, mn (Y + Hn) (Y' + Hn') - mx Y Y' = ch := ⟨(mn (Y + Hn) (Y' + Hn') - mx Y Y').toNat, by omega⟩
    have hcm := ((cm_parts (a := X) (b := Y) (c := Wn) (d := Hn) (e := X') (f := Y') (g := Wn') (h := Hn') rfl rfl hcw hch).1 ⟨by omega, by omega⟩).2
    rw [← pas_all l l' X Y Wn Hn X' Y' Wn' Hn' (mx X X') (mx Y Y') cw ch rfl rfl hcw hch]
    have m1 : X ≤ mx X X' ∧ X' ≤ mx X X' := by unfold mx; split <;> omega
    have m2 : Y ≤ mx Y Y' ∧ Y' ≤ mx Y Y' := by unfold mx; split <;> omega
    have m3 : mn (X + Wn) (X' + Wn') ≤ X + Wn ∧ mn (X + Wn) (X' + Wn') ≤ X' + Wn' := by unfold mn; split <;> omega
    have m4 : mn (Y + Hn) (Y' + Hn') ≤ Y + Hn ∧ mn (Y + Hn) (Y' + Hn') ≤ Y' + Hn' := by unfold mn; split <;> omega
    exact paste_yes X Y Wn Hn b o c l X' Y' Wn' Hn' b' o' c' l' (mx X X') (mx Y Y') cw ch w hl hr hl' hcap hr' hok hcm (by omega) (by omega) m1.1 (by omega) m2.1 (by omega) m1.2 (by omega) m2.2 (by omega)
  · rw [if_neg hok]
    exact (paste_no X Y Wn Hn b o c l X' Y' Wn' Hn' b' o' c' l' w hl hr hl' hr' (by simpa using hok)).mono fun e w' ⟨a1, a2⟩ => OpP.err (by decide) a1 a2
end Go.Proofs.Ytnfebeebjelgbaa
