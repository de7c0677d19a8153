import Derived.Test.YtnfebeebjelgbaaSlopeOp
import Derived.WalkLawsBesides
namespace Go.Proofs.Ytnfebeebjelgbaa
open Go.ChangeShapes Go.WideShapes Go.ChangeAt Go.RowKit
open Ieee.Format (fin finE htE allFin allHt all_true all_false mulF subF addF Ht Bd divF rootF floorF easeF mixF)
set_option linter.unusedVariables false

/-- a row of ints in a block -/
def IRow (w : World) (b : Nat) (l : List Int) : Prop := ∀ i, i < l.length → w.cell? ⟨b, i, none⟩ = some (.int .i64 (l.getD i 0))
def inB (m n : Int) : Bool := decide (-m ≤ n ∧ n ≤ m)

theorem within_yes (m : Int) (b c : Nat) (l : List Int) (w : World) (h0 : 0 ≤ m) (h1 : m ≤ 1099511627776) (hn : l.length ≤ 1000) (hc : IRow w b l) (hw : ∀ i, i < l.length → -m ≤ l.getD i 0 ∧ l.getD i 0 ≤ m) :
    Calls Try.prog 149 #[.int .i64 m, .slice (some ⟨b, 0, none⟩) l.length c] w fun e w' => e = .returned (.bool true) ∧ w = w' := by
  have HC := Lib.hid hc
  have HW := Lib.hid hw
  clear hc hw
  go_enter Try.func149, Try.ntmps149
  go_wp2
  go_loop [9] (fun i => ∃ k : Nat, k ≤ l.length ∧ i = .int .i64 k) (fun i => l.length - (intOf i).toNat)
  case atStart => exact ⟨0, by omega, rfl⟩
  case round =>
    obtain ⟨k, hk, rfl⟩ := hrel
    by_cases hlt : k < l.length
    · have hc := HC.out k hlt
      obtain ⟨g1, g2⟩ := HW.out k hlt
      generalize l.getD k 0 = n at *
      have g3 : ¬ n < -m := by omega
      have g4 : ¬ m < n := by omega
      go_wp2
      go_round
      case rel => exact ⟨k + 1, by omega, by go_num⟩
      case measure => simp [intOf]; omega
    · go_wp2
      go_ret
      exact ⟨rfl, rfl⟩

theorem within_no (m : Int) (b c : Nat) (l : List Int) (w : World) (h0 : 0 ≤ m) (h1 : m ≤ 1099511627776) (hn : l.length ≤ 1000) (hc : IRow w b l) (j : Nat) (hj : j < l.length) (hw : ∀ i, i < j → -m ≤ l.getD i 0 ∧ l.getD i 0 ≤ m) (hb : l.getD j 0 < -m ∨ m < l.getD j 0) :
    Calls Try.prog 149 #[.int .i64 m, .slice (some ⟨b, 0, none⟩) l.length c] w fun e w' => e = .returned (.bool false) ∧ w = w' := by
  have HC := Lib.hid hc
  have HW := Lib.hid hw
  have HB := Lib.hid hb
  clear hc hw hb
  go_enter Try.func149, Try.ntmps149
  go_wp2
  go_loop [9] (fun i => ∃ k : Nat, k ≤ j ∧ i = .int .i64 k) (fun i => l.length - (intOf i).toNat)
  case atStart => exact ⟨0, by omega, rfl⟩
  case round =>
    obtain ⟨k, hk, rfl⟩ := hrel
    have hlt : k < l.length := by omega
    have hc := HC.out k hlt
    by_cases hkj : k < j
    · obtain ⟨g1, g2⟩ := HW.out k hkj
      generalize l.getD k 0 = n at *
      have g3 : ¬ n < -m := by omega
      have g4 : ¬ m < n := by omega
      go_wp2
      go_round
      case rel => exact ⟨k + 1, by omega, by go_num⟩
      case measure => simp [intOf]; omega
    · obtain rfl : k = j := by omega
      have hb := HB.out
      generalize l.getD k 0 = n at *
      rcases hb with hb | hb
      · go_wp2
        go_ret
        exact ⟨rfl, rfl⟩
      · have g3 : ¬ n < -m := by omega
        go_wp2
        go_ret
        exact ⟨rfl, rfl⟩

theorem all_or_first (p : Nat → Prop) (n : Nat) : (∀ i, i < n → p i) ∨ ∃ j, j < n ∧ (∀ i, i < j → p i) ∧ ¬ p j := by
  induction n with
  | zero => exact .inl fun i hi => absurd hi (by omega)
  | succ n ih =>
    rcases ih with h | ⟨j, hj, h1, h2⟩
    · by_cases hp : p n
      · exact .inl fun i hi => by
          rcases Nat.lt_or_ge i n with c | c
          · exact h i c
          · rw [show i = n by omega]; exact hp
      · exact .inr ⟨n, by omega, h, hp⟩
    · exact .inr ⟨j, by omega, h1, h2⟩

theorem within_any (m : Int) (b c : Nat) (l : List Int) (w : World) (h0 : 0 ≤ m) (h1 : m ≤ 1099511627776) (hn : l.length ≤ 1000) (hc : IRow w b l) :
    Calls Try.prog 149 #[.int .i64 m, .slice (some ⟨b, 0, none⟩) l.length c] w fun e w' => e = .returned (.bool (l.all (inB m))) ∧ w = w' := by
  rcases all_or_first (fun i => -m ≤ l.getD i 0 ∧ l.getD i 0 ≤ m) l.length with h | ⟨j, hj, h2, h3⟩
  · have : l.all (inB m) = true := by
      rw [List.all_eq_true]
      intro x hx
      obtain ⟨i, hi, rfl⟩ := List.getElem_of_mem hx
      have := h i hi
      rw [List.getD_eq_getElem?_getD, List.getElem?_eq_getElem hi] at this
      exact decide_eq_true this
    rw [this]
    exact within_yes m b c l w h0 h1 hn hc h
  · have : l.all (inB m) = false := by
      rw [List.all_eq_false]
      refine ⟨l[j], List.getElem_mem hj, ?_⟩
      rw [List.getD_eq_getElem?_getD, List.getElem?_eq_getElem hj] at h3
      unfold inB
      rw [decide_eq_true_eq]
      exact h3
    rw [this]
    exact within_no m b c l w h0 h1 hn hc j hj h2 (by omega)

theorem irow3 (w : World) (b : Nat) (x y z : Int) (h0 : w.cell? ⟨b, 0, none⟩ = some (.int .i64 x)) (h1 : w.cell? ⟨b, 1, none⟩ = some (.int .i64 y)) (h2 : w.cell? ⟨b, 2, none⟩ = some (.int .i64 z)) : IRow w b [x, y, z] := by
  intro i hi
  match i, hi with
  | 0, _ => exact h0
  | 1, _ => exact h1
  | 2, _ => exact h2
theorem irow2 (w : World) (b : Nat) (x y : Int) (h0 : w.cell? ⟨b, 0, none⟩ = some (.int .i64 x)) (h1 : w.cell? ⟨b, 1, none⟩ = some (.int .i64 y)) : IRow w b [x, y] := by
  intro i hi
  match i, hi with
  | 0, _ => exact h0
  | 1, _ => exact h1
theorem irow1 (w : World) (b : Nat) (x : Int) (h0 : w.cell? ⟨b, 0, none⟩ = some (.int .i64 x)) : IRow w b [x] := by
  intro i hi
  match i, hi with
  | 0, _ => exact h0
theorem within3 (m : Int) (b : Nat) (x y z : Int) (w : World) (h0 : 0 ≤ m) (h1 : m ≤ 1099511627776) (c0 : w.cell? ⟨b, 0, none⟩ = some (.int .i64 x)) (c1 : w.cell? ⟨b, 1, none⟩ = some (.int .i64 y)) (c2 : w.cell? ⟨b, 2, none⟩ = some (.int .i64 z)) :
    Calls Try.prog 149 #[.int .i64 m, .slice (some ⟨b, 0, none⟩) 3 3] w fun e w' => e = .returned (.bool (inB m x && inB m y && inB m z)) ∧ w = w' := by
  have := within_any m b 3 [x, y, z] w h0 h1 (by simp) (irow3 w b x y z c0 c1 c2)
  simpa [Bool.and_assoc] using this
theorem within2 (m : Int) (b : Nat) (x y : Int) (w : World) (h0 : 0 ≤ m) (h1 : m ≤ 1099511627776) (c0 : w.cell? ⟨b, 0, none⟩ = some (.int .i64 x)) (c1 : w.cell? ⟨b, 1, none⟩ = some (.int .i64 y)) :
    Calls Try.prog 149 #[.int .i64 m, .slice (some ⟨b, 0, none⟩) 2 2] w fun e w' => e = .returned (.bool (inB m x && inB m y)) ∧ w = w' := by
  have := within_any m b 2 [x, y] w h0 h1 (by simp) (irow2 w b x y c0 c1)
  simpa using this
theorem within1 (m : Int) (b : Nat) (x : Int) (w : World) (h0 : 0 ≤ m) (h1 : m ≤ 1099511627776) (c0 : w.cell? ⟨b, 0, none⟩ = some (.int .i64 x)) :
    Calls Try.prog 149 #[.int .i64 m, .slice (some ⟨b, 0, none⟩) 1 1] w fun e w' => e = .returned (.bool (inB m x)) ∧ w = w' := by
  have := within_any m b 1 [x] w h0 h1 (by simp) (irow1 w b x c0)
  simpa using this

theorem lightin_any (n : Int) (w : World) : Calls Try.prog 216 #[.int .i64 n] w fun e w' => e = .returned (.bool (inB 1000 n)) ∧ w = w' := by
  unfold inB
  by_cases h1 : -1000 ≤ n
  · by_cases h2 : n ≤ 1000
    · rw [decide_eq_true (show -1000 ≤ n ∧ n ≤ 1000 from ⟨h1, h2⟩)]
      go_enter Try.func216, Try.ntmps216
      go_wp2
      go_ret
      exact ⟨rfl, rfl⟩
    · rw [decide_eq_false (show ¬ (-1000 ≤ n ∧ n ≤ 1000) by omega)]
      go_enter Try.func216, Try.ntmps216
      go_wp2
      go_ret
      exact ⟨rfl, rfl⟩
  · rw [decide_eq_false (show ¬ (-1000 ≤ n ∧ n ≤ 1000) by omega)]
    go_enter Try.func216, Try.ntmps216
    go_wp2
    go_ret
    exact ⟨rfl, rfl⟩

def lightE (x y z : Int) : Int := if (inB 1000 x && inB 1000 y && inB 1000 z) = false then 3 else if x = 0 ∧ y = 0 ∧ z = 0 then 12 else 0
set_option maxHeartbeats 2000000 in
theorem lighterror_any (x y z : Int) (w : World) : Calls Try.prog 163 #[.int .i64 x, .int .i64 y, .int .i64 z] w fun e w' => e = .returned (.int .i64 (lightE x y z)) ∧ w = w' := by
  have kx := Lib.hid (fun w => lightin_any x w)
  have ky := Lib.hid (fun w => lightin_any y w)
  have kz := Lib.hid (fun w => lightin_any z w)
  unfold lightE
  cases hx : inB 1000 x with
  | false =>
    rw [hx] at kx
    rw [if_pos (by simp)]
    clear hx
    go_enter Try.func163, Try.ntmps163
    go_wp2_with (first | (go_at_call 216; (with_reducible refine (kx.out _).mono ?_); rintro e w' ⟨rfl, rfl⟩) | (go_at_call 216; (with_reducible refine (ky.out _).mono ?_); rintro e w' ⟨rfl, rfl⟩) | (go_at_call 216; (with_reducible refine (kz.out _).mono ?_); rintro e w' ⟨rfl, rfl⟩))
    go_ret
    exact ⟨rfl, rfl⟩
  | true =>
    rw [hx] at kx
    cases hy : inB 1000 y with
    | false =>
      rw [hy] at ky
      rw [if_pos (by simp)]
      clear hx hy
      go_enter Try.func163, Try.ntmps163
      go_wp2_with (first | (go_at_call 216; (with_reducible refine (kx.out _).mono ?_); rintro e w' ⟨rfl, rfl⟩) | (go_at_call 216; (with_reducible refine (ky.out _).mono ?_); rintro e w' ⟨rfl, rfl⟩) | (go_at_call 216; (with_reducible refine (kz.out _).mono ?_); rintro e w' ⟨rfl, rfl⟩))
      go_ret
      exact ⟨rfl, rfl⟩
    | true =>
      rw [hy] at ky
      cases hz : inB 1000 z with
      | false =>
        rw [hz] at kz
        rw [if_pos (by simp)]
        clear hx hy hz
        go_enter Try.func163, Try.ntmps163
        go_wp2_with (first | (go_at_call 216; (with_reducible refine (kx.out _).mono ?_); rintro e w' ⟨rfl, rfl⟩) | (go_at_call 216; (with_reducible refine (ky.out _).mono ?_); rintro e w' ⟨rfl, rfl⟩) | (go_at_call 216; (with_reducible refine (kz.out _).mono ?_); rintro e w' ⟨rfl, rfl⟩))
        go_ret
        exact ⟨rfl, rfl⟩
      | true =>
        rw [hz] at kz
        rw [if_neg (by decide)]
        clear hx hy hz
        by_cases h1 : x = 0
        · by_cases h2 : y = 0
          · by_cases h3 : z = 0
            · rw [if_pos ⟨h1, h2, h3⟩]
              subst h1 h2 h3
              go_enter Try.func163, Try.ntmps163
              go_wp2_with (first | (go_at_call 216; (with_reducible refine (kx.out _).mono ?_); rintro e w' ⟨rfl, rfl⟩) | (go_at_call 216; (with_reducible refine (ky.out _).mono ?_); rintro e w' ⟨rfl, rfl⟩) | (go_at_call 216; (with_reducible refine (kz.out _).mono ?_); rintro e w' ⟨rfl, rfl⟩))
              go_ret
              exact ⟨rfl, rfl⟩
            · rw [if_neg (fun h => h3 h.2.2)]
              subst h1 h2
              have q3 : (z == 0) = false := by simpa using h3
              go_enter Try.func163, Try.ntmps163
              go_wp2_with (first | (go_at_call 216; (with_reducible refine (kx.out _).mono ?_); rintro e w' ⟨rfl, rfl⟩) | (go_at_call 216; (with_reducible refine (ky.out _).mono ?_); rintro e w' ⟨rfl, rfl⟩) | (go_at_call 216; (with_reducible refine (kz.out _).mono ?_); rintro e w' ⟨rfl, rfl⟩))
              go_ret
              exact ⟨rfl, rfl⟩
          · rw [if_neg (fun h => h2 h.2.1)]
            subst h1
            have q2 : (y == 0) = false := by simpa using h2
            go_enter Try.func163, Try.ntmps163
            go_wp2_with (first | (go_at_call 216; (with_reducible refine (kx.out _).mono ?_); rintro e w' ⟨rfl, rfl⟩) | (go_at_call 216; (with_reducible refine (ky.out _).mono ?_); rintro e w' ⟨rfl, rfl⟩) | (go_at_call 216; (with_reducible refine (kz.out _).mono ?_); rintro e w' ⟨rfl, rfl⟩))
            go_ret
            exact ⟨rfl, rfl⟩
        · rw [if_neg (fun h => h1 h.1)]
          have q1 : (x == 0) = false := by simpa using h1
          go_enter Try.func163, Try.ntmps163
          go_wp2_with (first | (go_at_call 216; (with_reducible refine (kx.out _).mono ?_); rintro e w' ⟨rfl, rfl⟩) | (go_at_call 216; (with_reducible refine (ky.out _).mono ?_); rintro e w' ⟨rfl, rfl⟩) | (go_at_call 216; (with_reducible refine (kz.out _).mono ?_); rintro e w' ⟨rfl, rfl⟩))
          go_ret
          exact ⟨rfl, rfl⟩
end Go.Proofs.Ytnfebeebjelgbaa
