import Derived.Test.YtnfebeebjelgbaaCutRef
import Derived.Laws.CopyOwn
namespace Go.Proofs.Ytnfebeebjelgbaa
open Go.ChangeShapes Go.WideShapes Go.ChangeAt Go.RowKit
open Ieee.Format (fin finE htE allFin allHt all_true all_false mulF subF addF Ht Bd divF rootF floorF easeF mixF)
set_option linter.unusedVariables false

/-! ### a field pasted into another one, in plain Lean -/
/-- the cell of a field with some rows of another one -/
def pasV (f g : List Nat) (X Y : Int) (Wn : Nat) (X' Y' : Int) (Wn' : Nat) (cx cy : Int) (cw j : Nat) (x y : Int) : Nat :=
  if cx ≤ x ∧ x < cx + cw ∧ cy ≤ y ∧ y < cy + j then cutV g X' Y' Wn' x y else cutV f X Y Wn x y
def pasL (f g : List Nat) (X Y : Int) (Wn Hn : Nat) (X' Y' : Int) (Wn' : Nat) (cx cy : Int) (cw j : Nat) : List Nat :=
  madeL (pasV f g X Y Wn X' Y' Wn' cx cy cw j) X Y Wn (Hn * Wn)
theorem pasL_len (f g : List Nat) (X Y : Int) (Wn Hn : Nat) (X' Y' : Int) (Wn' : Nat) (cx cy : Int) (cw j : Nat) : (pasL f g X Y Wn Hn X' Y' Wn' cx cy cw j).length = Hn * Wn := madeL_len _ _ _ _ _
theorem pasL_zero (f g : List Nat) (X Y : Int) (Wn Hn : Nat) (X' Y' : Int) (Wn' : Nat) (cx cy : Int) (cw : Nat) (h1 : 1 ≤ Wn) (hl : f.length = Hn * Wn) : pasL f g X Y Wn Hn X' Y' Wn' cx cy cw 0 = f := by
  have h := madeL_map (fun v => v) X Y Wn Hn f h1 hl
  rw [List.map_id'] at h
  unfold pasL
  rw [← h]
  congr 1
  funext x y
  unfold pasV
  rw [if_neg (by omega), h]
  rfl
theorem madeL_at (ψ : Int → Int → Nat) (X Y : Int) (W n k : Nat) (hk : k < n) : (madeL ψ X Y W n)[k]? = some (ψ (X + ((k % W : Nat) : Int)) (Y + ((k / W : Nat) : Int))) := by
  unfold madeL
  rw [List.getElem?_map, List.getElem?_range hk]
  rfl
/-- one row more -/
theorem pasL_step (f g : List Nat) (X Y : Int) (Wn Hn : Nat) (X' Y' : Int) (Wn' Hn' : Nat) (cx cy : Int) (cw ch j : Nat) (hg : g.length = Hn' * Wn') (hj : j < ch)
    (a1 : X ≤ cx) (a2 : cx + cw ≤ X + Wn) (a3 : Y ≤ cy) (a4 : cy + ch ≤ Y + Hn) (b1 : X' ≤ cx) (b2 : cx + cw ≤ X' + Wn') (b3 : Y' ≤ cy) (b4 : cy + ch ≤ Y' + Hn') :
    pasL f g X Y Wn Hn X' Y' Wn' cx cy cw (j + 1) = splice (pasL f g X Y Wn Hn X' Y' Wn' cx cy cw j) (rowAt X Y Wn cx cy j) ((g.drop (rowAt X' Y' Wn' cx cy j)).take cw) ∧
      rowAt X Y Wn cx cy j + cw ≤ Hn * Wn ∧ rowAt X' Y' Wn' cx cy j + cw ≤ g.length := by
  obtain ⟨t, ht⟩ : ∃ t : Nat, (t : Int) = cy + j - Y := ⟨(cy + j - Y).toNat, by omega⟩
  obtain ⟨p, hp⟩ : ∃ p : Nat, (p : Int) = cx - X := ⟨(cx - X).toNat, by omega⟩
  obtain ⟨t', ht'⟩ : ∃ t' : Nat, (t' : Int) = cy + j - Y' := ⟨(cy + j - Y').toNat, by omega⟩
  obtain ⟨p', hp'⟩ : ∃ p' : Nat, (p' : Int) = cx - X' := ⟨(cx - X').toNat, by omega⟩
  have hk : rowAt X Y Wn cx cy j = t * Wn + p := by
    unfold rowAt; rw [← ht, ← Int.natCast_mul]; omega
  have hk' : rowAt X' Y' Wn' cx cy j = t' * Wn' + p' := by
    unfold rowAt; rw [← ht', ← Int.natCast_mul]; omega
  have hle : (t + 1) * Wn ≤ Hn * Wn := Nat.mul_le_mul_right _ (by omega)
  have hle' : (t' + 1) * Wn' ≤ Hn' * Wn' := Nat.mul_le_mul_right _ (by omega)
  rw [Nat.add_mul, Nat.one_mul] at hle hle'
  have hto : t * Wn + p + cw ≤ Hn * Wn := by omega
  have hfr : t' * Wn' + p' + cw ≤ g.length := by rw [hg]; omega
  rw [hk, hk']
  refine ⟨?_, hto, hfr⟩
  have hlen : ((g.drop (t' * Wn' + p')).take cw).length = cw := by rw [List.length_take, List.length_drop]; omega
  have hlm := pasL_len f g X Y Wn Hn X' Y' Wn' cx cy cw j
  have hlt : ((pasL f g X Y Wn Hn X' Y' Wn' cx cy cw j).take (t * Wn + p)).length = t * Wn + p := by rw [List.length_take, hlm]; omega
  refine List.ext_getElem? fun k => ?_
  by_cases hkn : k < Hn * Wn
  · have hW : 0 < Wn := by
      rcases Nat.eq_zero_or_pos Wn with h | h
      · rw [h] at hkn; omega
      · exact h
    have e1 := Nat.div_add_mod k Wn
    have e2 := Nat.mod_lt k hW
    rw [Nat.mul_comm] at e1
    have hin : (t * Wn + p ≤ k ∧ k < t * Wn + p + cw) ↔ (k / Wn = t ∧ p ≤ k % Wn ∧ k % Wn < p + cw) := by
      generalize hq : k / Wn = q at *
      generalize k % Wn = r at *
      constructor
      · rintro ⟨h1, h2⟩
        have hqt : q = t := by
          rcases Nat.lt_trichotomy q t with h | h | h
          · have := Nat.mul_le_mul_right Wn (show q + 1 ≤ t from h)
            rw [Nat.add_mul, Nat.one_mul] at this
            omega
          · exact h
          · have := Nat.mul_le_mul_right Wn (show t + 1 ≤ q from h)
            rw [Nat.add_mul, Nat.one_mul] at this
            omega
        subst hqt
        omega
      · rintro ⟨rfl, h1, h2⟩
        omega
    show (madeL _ X Y Wn (Hn * Wn))[k]? = _
    rw [madeL_at _ X Y Wn _ k hkn]
    unfold splice
    by_cases hb : k < t * Wn + p
    · rw [List.getElem?_append_left (by rw [hlt]; exact hb), List.getElem?_take, if_pos hb]
      show _ = (madeL _ X Y Wn (Hn * Wn))[k]?
      rw [madeL_at _ X Y Wn _ k hkn]
      congr 1
      have hno : ¬ (k / Wn = t ∧ p ≤ k % Wn ∧ k % Wn < p + cw) := fun h => by have := hin.2 h; omega
      unfold pasV
      by_cases hc : cx ≤ X + ((k % Wn : Nat) : Int) ∧ X + ((k % Wn : Nat) : Int) < cx + cw ∧ cy ≤ Y + ((k / Wn : Nat) : Int) ∧ Y + ((k / Wn : Nat) : Int) < cy + j
      · rw [if_pos hc, if_pos (by omega)]
      · rw [if_neg hc, if_neg (by omega)]
    · rw [List.getElem?_append_right (by rw [hlt]; omega), hlt]
      by_cases hb2 : k < t * Wn + p + cw
      · obtain ⟨h1, h2, h3⟩ := hin.1 ⟨by omega, hb2⟩
        rw [List.getElem?_append_left (by rw [hlen]; omega), List.getElem?_take, if_pos (by omega), List.getElem?_drop]
        unfold pasV
        rw [if_pos (by omega)]
        unfold cutV cellNo
        have : ((Y + ((k / Wn : Nat) : Int) - Y') * (Wn' : Int) + (X + ((k % Wn : Nat) : Int)) - X').toNat = t' * Wn' + p' + (k - (t * Wn + p)) := by
          rw [show Y + ((k / Wn : Nat) : Int) - Y' = (t' : Int) from by omega, ← Int.natCast_mul]
          rw [h1] at e1
          omega
        rw [this, List.getD_eq_getElem?_getD, List.getElem?_eq_getElem (by omega)]
        rfl
      · rw [List.getElem?_append_right (by rw [hlen]; omega), hlen, List.getElem?_drop]
        rw [show t * Wn + p + cw + (k - (t * Wn + p) - cw) = k from by omega]
        show _ = (madeL _ X Y Wn (Hn * Wn))[k]?
        rw [madeL_at _ X Y Wn _ k hkn]
        congr 1
        have hno : ¬ (k / Wn = t ∧ p ≤ k % Wn ∧ k % Wn < p + cw) := fun h => by have := hin.2 h; omega
        unfold pasV
        by_cases hc : cx ≤ X + ((k % Wn : Nat) : Int) ∧ X + ((k % Wn : Nat) : Int) < cx + cw ∧ cy ≤ Y + ((k / Wn : Nat) : Int) ∧ Y + ((k / Wn : Nat) : Int) < cy + j
        · rw [if_pos hc, if_pos (by omega)]
        · rw [if_neg hc, if_neg (by omega)]
  · rw [List.getElem?_eq_none (by rw [pasL_len]; omega), List.getElem?_eq_none (by rw [length_splice _ _ _ (by rw [hlen, hlm]; omega), hlm]; omega)]
/-- what the reference makes of two fields -/
def pasR (f g : List Nat) (X Y : Int) (Wn : Nat) (X' Y' : Int) (Wn' Hn' : Nat) (x y : Int) : Nat :=
  if inR X' Y' Wn' Hn' x y then cutV g X' Y' Wn' x y else cutV f X Y Wn x y
theorem madeL_congr {φ ψ : Int → Int → Nat} {X Y : Int} {Wn Hn : Nat} (h : ∀ x y, X ≤ x → x < X + Wn → Y ≤ y → y < Y + Hn → φ x y = ψ x y) : madeL φ X Y Wn (Hn * Wn) = madeL ψ X Y Wn (Hn * Wn) := by
  unfold madeL
  refine List.map_congr_left fun k hk => ?_
  have hk := List.mem_range.1 hk
  have hW : 0 < Wn := by
    rcases Nat.eq_zero_or_pos Wn with h | h
    · rw [h] at hk; omega
    · exact h
  have h1 := Nat.mod_lt k hW
  have h2 : k / Wn < Hn := Nat.div_lt_of_lt_mul (by rw [Nat.mul_comm]; exact hk)
  generalize k / Wn = q at *
  generalize k % Wn = r at *
  exact h _ _ (by omega) (by omega) (by omega) (by omega)
end Go.Proofs.Ytnfebeebjelgbaa
