import Derived.Test.YtnfebeebjelgbaaM5
import Derived.Test.YtnfebeebjelgbaaFloatM
namespace Go.Proofs.Ytnfebeebjelgbaa
open Go.ChangeShapes Go.WideShapes Go.ChangeAt Go.RowKit
open Ieee.Format (fin finE htE allFin allHt all_true all_false mulF subF addF Ht Bd divF rootF floorF easeF mixF)
set_option linter.unusedVariables false

theorem SRow.cellAt {w : World} {a : Option Addr} {l : List Nat} (h : SRow w a l) (k : Nat) (hk : k < l.length) : ∃ b o, a = some ⟨b, o, none⟩ ∧ w.cell? ⟨b, o + k, none⟩ = some (.float .f32 (l.getD k 0)) := by
  rcases h.2 with h0 | ⟨b, o, rfl, h1⟩
  · subst h0; exact absurd hk (by simp)
  · exact ⟨b, o, rfl, h1 k hk⟩

theorem index_no (gn : Nat) (caps : Array Value) (a : Option Addr) (c : Nat) (l : List Nat) (w : World) (hl : SRow w a l)
    (eg : ∀ args w, (callFunc gn args).run Try.prog w = .ok (.enter gn args) w)
    (hf : ∀ i, i < l.length → Calls Try.prog gn (#[.float .f32 (l.getD i 0)] ++ caps) w fun e w' => e = .returned (.bool false) ∧ w = w') :
    Calls Try.prog 98 #[.slice a l.length c, .func (.func gn) #[] caps] w fun e w' => e = .returned (.int .i64 (-1)) ∧ w = w' := by
  have HL := Lib.hid hl
  have HF := Lib.hid hf
  have hn : l.length ≤ 1099511627776 := hl.1.1
  clear hl hf
  go_enter Try.func98, Try.ntmps98
  go_wp2
  go_loop [8] (fun i => ∃ k : Nat, k ≤ l.length ∧ i = .int .i64 k) (fun i => l.length - (intOf i).toNat)
  case atStart => exact ⟨0, by omega, rfl⟩
  case round =>
    obtain ⟨k, hk, rfl⟩ := hrel
    by_cases hlt : k < l.length
    · obtain ⟨b, o, rfl, hc⟩ := HL.out.cellAt k hlt
      have KF := Lib.hid (HF.out k hlt)
      generalize l.getD k 0 = x at *
      go_wp2_with fail
      refine (KF.out).mono ?_
      rintro e w' ⟨rfl, rfl⟩
      go_wp2_with fail
      go_round
      case rel => exact ⟨k + 1, by omega, by go_num⟩
      case measure => simp [intOf]; omega
    · go_wp2
      go_ret
      exact ⟨rfl, rfl⟩
theorem index_yes (gn : Nat) (caps : Array Value) (a : Option Addr) (c : Nat) (l : List Nat) (w : World) (hl : SRow w a l)
    (eg : ∀ args w, (callFunc gn args).run Try.prog w = .ok (.enter gn args) w) (j : Nat) (hj : j < l.length)
    (hf : ∀ i, i < j → Calls Try.prog gn (#[.float .f32 (l.getD i 0)] ++ caps) w fun e w' => e = .returned (.bool false) ∧ w = w')
    (hf2 : Calls Try.prog gn (#[.float .f32 (l.getD j 0)] ++ caps) w fun e w' => e = .returned (.bool true) ∧ w = w') :
    Calls Try.prog 98 #[.slice a l.length c, .func (.func gn) #[] caps] w fun e w' => e = .returned (.int .i64 j) ∧ w = w' := by
  have HL := Lib.hid hl
  have HF := Lib.hid hf
  have HT := Lib.hid hf2
  have hn : l.length ≤ 1099511627776 := hl.1.1
  clear hl hf hf2
  go_enter Try.func98, Try.ntmps98
  go_wp2
  go_loop [8] (fun i => ∃ k : Nat, k ≤ j ∧ i = .int .i64 k) (fun i => l.length - (intOf i).toNat)
  case atStart => exact ⟨0, by omega, rfl⟩
  case round =>
    obtain ⟨k, hk, rfl⟩ := hrel
    have hlt : k < l.length := by omega
    obtain ⟨b, o, rfl, hc⟩ := HL.out.cellAt k hlt
    by_cases hkj : k < j
    · have KF := Lib.hid (HF.out k hkj)
      generalize l.getD k 0 = x at *
      go_wp2_with fail
      refine (KF.out).mono ?_
      rintro e w' ⟨rfl, rfl⟩
      go_wp2_with fail
      go_round
      case rel => exact ⟨k + 1, by omega, by go_num⟩
      case measure => simp [intOf]; omega
    · obtain rfl : k = j := by omega
      generalize l.getD k 0 = x at *
      go_wp2_with fail
      refine (HT.out).mono ?_
      rintro e w' ⟨rfl, rfl⟩
      go_wp2_with fail
      go_ret
      exact ⟨rfl, rfl⟩

theorem first_true (p : Nat → Bool) (n : Nat) : (∀ i, i < n → p i = false) ∨ ∃ j, j < n ∧ (∀ i, i < j → p i = false) ∧ p j = true := by
  induction n with
  | zero => exact .inl fun i hi => absurd hi (by omega)
  | succ n ih =>
    rcases ih with h | ⟨j, hj, h1, h2⟩
    · cases hp : p n
      · exact .inl fun i hi => by
          rcases Nat.lt_or_ge i n with c | c
          · exact h i c
          · rw [show i = n by omega]; exact hp
      · exact .inr ⟨n, by omega, h, hp⟩
    · exact .inr ⟨j, by omega, h1, h2⟩

/-- slices.ContainsFunc -/
theorem contains_any (gn : Nat) (caps : Array Value) (φ : Nat → Bool) (a : Option Addr) (c : Nat) (l : List Nat) (w : World) (hl : SRow w a l)
    (eg : ∀ args w, (callFunc gn args).run Try.prog w = .ok (.enter gn args) w)
    (hf : ∀ x, Calls Try.prog gn (#[.float .f32 x] ++ caps) w fun e w' => e = .returned (.bool (φ x)) ∧ w = w') :
    Calls Try.prog 25 #[.slice a l.length c, .func (.func gn) #[] caps] w fun e w' => e = .returned (.bool (l.any φ)) ∧ w = w' := by
  rcases first_true (fun i => φ (l.getD i 0)) l.length with h | ⟨j, hj, h1, h2⟩
  · have hK := index_no gn caps a c l w hl eg (fun i hi => by have := hf (l.getD i 0); rw [h i hi] at this; exact this)
    have hall : l.any φ = false := by
      rw [List.any_eq_false]
      intro x hx
      obtain ⟨i, hi, rfl⟩ := List.getElem_of_mem hx
      have := h i hi
      simp only [List.getD_eq_getElem?_getD, List.getElem?_eq_getElem hi, Option.getD_some] at this
      rw [this]; decide
    rw [hall]
    have K := Lib.hid hK
    clear hK hl eg hf h hall
    go_enter Try.func25, Try.ntmps25
    go_wp2_with fail
    refine (K.out).mono ?_
    rintro e w' ⟨rfl, rfl⟩
    go_wp2_with fail
    go_ret
    exact ⟨rfl, rfl⟩
  · have hK := index_yes gn caps a c l w hl eg j hj (fun i hi => by have := hf (l.getD i 0); rw [h1 i hi] at this; exact this) (by have := hf (l.getD j 0); rw [h2] at this; exact this)
    have hall : l.any φ = true := by
      rw [List.any_eq_true]
      refine ⟨l[j], List.getElem_mem hj, ?_⟩
      simp only [List.getD_eq_getElem?_getD, List.getElem?_eq_getElem hj, Option.getD_some] at h2
      exact h2
    rw [hall]
    have K := Lib.hid hK
    have hjn : j ≤ 1099511627776 := by have := hl.1.1; omega
    clear hK hl eg hf h1 h2 hall hj
    go_enter Try.func25, Try.ntmps25
    go_wp2_with fail
    refine (K.out).mono ?_
    rintro e w' ⟨rfl, rfl⟩
    go_wp2_with fail
    go_ret
    exact ⟨rfl, rfl⟩
end Go.Proofs.Ytnfebeebjelgbaa
