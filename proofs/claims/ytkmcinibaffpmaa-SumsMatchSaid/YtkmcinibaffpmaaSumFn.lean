import Derived.Test.YtkmcinibaffpmaaWideF
import Derived.Test.YtkmcinibaffpmaaThermFn
import Derived.BigQuiet
import Derived.Deep.QuietTactic
namespace Go.Proofs.Ytkmcinibaffpmaa
open Go.ChangeShapes Go.WideShapes Go.ChangeAt Go.RowKit
open Ieee.Format (fin finE htE allFin allHt all_true all_false mulF subF addF Ht Bd divF rootF floorF easeF mixF)
set_option linter.unusedVariables false
open Ieee.Format (rowsF rowsF_one rowsF_snoc rows_ok pairsF pairs_one pairs_ok keptStep keptF keptF_snoc kept_ok kept_off Kept KeptFin kept_fin Hn Off bits_add bits_sub addF_lt subF_lt)

theorem take_snoc_d (l : List Nat) (k : Nat) (h : k < l.length) : l.take (k + 1) = l.take k ++ [l.getD k 0] := by
  rw [List.take_succ_eq_append_getElem h, List.getD_eq_getElem?_getD, List.getElem?_eq_getElem h]; rfl
theorem ht_getD {l : List Nat} (hh : ∀ x ∈ l, Ht x) {k : Nat} (h : k < l.length) : Ht (l.getD k 0) := by
  rw [List.getD_eq_getElem?_getD, List.getElem?_eq_getElem h]; exact hh _ (List.getElem_mem h)
theorem rows_step (l : List Nat) (hh : ∀ x ∈ l, Ht x) (h2 : l.length ≤ 256) (k : Nat) (h : k + 1 < l.length) :
    fin Ieee.single (rowsF (l.take (k + 1))) ∧ fin Ieee.single (l.getD (k + 1) 0) ∧ fin Ieee.single (addF (rowsF (l.take (k + 1))) (l.getD (k + 1) 0)) ∧ addF (rowsF (l.take (k + 1))) (l.getD (k + 1) 0) = rowsF (l.take (k + 1 + 1)) := by
  have a := (rows_ok l hh h2 k (by omega)).1.1
  have b := (rows_ok l hh h2 (k + 1) (by omega)).1.1
  have e : rowsF (l.take (k + 1 + 1)) = addF (rowsF (l.take (k + 1))) (l.getD (k + 1) 0) := by
    rw [take_snoc_d l (k + 1) h, rowsF_snoc]
    intro h0
    have h1 := congrArg List.length h0
    rw [List.length_take, List.length_nil] at h1
    omega
  rw [e] at b
  exact ⟨a, (ht_getD hh h).fin, b, e.symm⟩
set_option maxHeartbeats 1000000 in
theorem sumrows_any (b o c : Nat) (l : List Nat) (w : World) (hl : SRow w (some ⟨b, o, none⟩) l) (hh : ∀ x ∈ l, Ht x) (h1 : 1 ≤ l.length) (h2 : l.length ≤ 256) (hc : l.length ≤ c) :
    Calls Try.prog 91 #[.slice (some ⟨b, o, none⟩) l.length c] w fun e w' => e = .returned (.float .f32 (rowsF l)) ∧ w = w' := by
  have HL := Lib.hid hl
  have KS := Lib.hid (rows_step l hh h2)
  have h0 := SRow.at_ hl (show 0 < l.length by omega)
  rw [Nat.add_zero] at h0
  have HT : Hid (rowsF (l.take (0 + 1)) = l.getD 0 0) := by
    unfold Hid; rw [take_snoc_d l 0 (by omega)]; rfl
  have HE : Hid (l.take l.length = l) := List.take_length
  generalize hv : l.getD 0 0 = v0 at *
  have HV := Lib.hid hv
  clear hv hl hh
  by_cases hc1 : c = 1
  · obtain rfl : c = 1 := hc1
    have hlen : l.length = 1 := by omega
    have HLEN := Lib.hid hlen
    rw [hlen] at HE
    rw [hlen]
    have HF : Hid (rowsF l = v0) := by
      have h5 := HT.out
      rw [Nat.zero_add, HE.out] at h5
      exact h5
    rw [HF.out]
    clear hlen h1 h2 hc
    go_enter Try.func91, Try.ntmps91
    go_wp2_with fail
    refine wp_loop_rounds 1 ?_
    rw [rounds_succ]
    go_wp2_with fail
    go_ret
    exact ⟨rfl, rfl⟩
  · have hne : ¬ 1 = c := by omega
    go_enter Try.func91, Try.ntmps91
    go_wp2_with fail
    go_loop [3, 5, 12] (fun s _ i => ∃ k : Nat, k + 1 ≤ l.length ∧ i = .int .i64 k ∧ s = .float .f32 (rowsF (l.take (k + 1)))) (fun _ _ i => l.length - (intOf i).toNat)
    case atStart => exact ⟨0, by omega, rfl, by rw [HT.out]⟩
    case round =>
      obtain ⟨k, hk, rfl, rfl⟩ := hrel
      by_cases hlt : k + 1 < l.length
      · obtain ⟨f1, f2, f3, e4⟩ := KS.out k hlt
        have hcell := SRow.at_ HL.out hlt
        rw [show o + (k + 1) = o + 1 + k from by omega] at hcell
        have ka := fun w' => run_float_arith (P := Try.prog) w' .add 29 .f32 _ _ _ (bits_add f1 f2)
        rw [e4] at ka
        clear e4 f1 f2 f3
        generalize l.getD (k + 1) 0 = v at *
        generalize hs : rowsF (l.take (k + 1)) = s at *
        generalize hr : rowsF (l.take (k + 1 + 1)) = r at *
        have HR := Lib.hid hr
        clear hs hr
        have hlt2 : k < l.length - 1 := by omega
        go_wp2_with fail
        go_round
        case rel => exact ⟨k + 1, by omega, by go_num, by rw [HR.out]⟩
        case measure => simp [intOf]; omega
      · have hke : k + 1 = l.length := by omega
        have hge : ¬ k < l.length - 1 := by omega
        rw [hke, HE.out]
        clear hke
        go_wp2_with fail
        go_ret
        exact ⟨rfl, rfl⟩

/-! ### sums by halves -/
theorem SRow.part {w : World} {b o : Nat} {l : List Nat} (h : SRow w (some ⟨b, o, none⟩) l) (k n : Nat) (hk : k + n ≤ l.length) : SRow w (some ⟨b, o + k, none⟩) ((l.drop k).take n) := by
  refine ⟨⟨?_, fun x hx => h.1.2 x (List.mem_of_mem_drop (List.mem_of_mem_take hx))⟩, .inr ⟨b, o + k, rfl, fun i hi => ?_⟩⟩
  · have := h.1.1
    rw [List.length_take, List.length_drop]
    omega
  · rw [List.length_take, List.length_drop] at hi
    have := SRow.at_ h (show k + i < l.length by omega)
    rw [show o + k + i = o + (k + i) from by omega, this, List.getD_eq_getElem?_getD, List.getD_eq_getElem?_getD, List.getElem?_take, if_pos (by omega), List.getElem?_drop]
theorem pairs_fin (k : Nat) (l : List Nat) (hk : k ≤ 200) (hh : ∀ x ∈ l, Ht x) (h1 : 1 ≤ l.length) (h2 : l.length ≤ 2 ^ k) (h3 : l.length ≤ 65536) : fin Ieee.single (pairsF k l) := (pairs_ok k l hk hh h1 h2 h3).1.1
/-- what a call of a sum by halves gives -/
def PairsAt (f : Nat) (k : Nat) : Prop := ∀ (b o c : Nat) (l : List Nat) (w : World), SRow w (some ⟨b, o, none⟩) l → (∀ x ∈ l, Ht x) → 1 ≤ l.length → l.length ≤ 2 ^ k → l.length ≤ 65536 → l.length ≤ c →
    Calls Try.prog f #[.slice (some ⟨b, o, none⟩) l.length c] w fun e w' => e = .returned (.float .f32 (pairsF k l)) ∧ ∃ n, w' = w.drewN n
theorem pairs_one_at (f k b o c : Nat) (l : List Nat) (w : World) (h : l.length = 1) (K : Calls Try.prog f #[.slice (some ⟨b, o, none⟩) 1 c] w fun e w' => e = .returned (.float .f32 (l.getD 0 0)) ∧ w = w') :
    Calls Try.prog f #[.slice (some ⟨b, o, none⟩) l.length c] w fun e w' => e = .returned (.float .f32 (pairsF k l)) ∧ ∃ n, w' = w.drewN n := by
  rw [h, pairs_one k l h]
  exact K.mono fun _ _ h => ⟨h.1, 0, h.2 ▸ rfl⟩
theorem sumpairs_one (b o c : Nat) (l : List Nat) (w : World) (hl : SRow w (some ⟨b, o, none⟩) l) : w.cell? ⟨b, o, none⟩ = some (.float .f32 (l.getD 0 0)) → l.length = 1 → Calls Try.prog 92 #[.slice (some ⟨b, o, none⟩) 1 c] w fun e w' => e = .returned (.float .f32 (l.getD 0 0)) ∧ w = w' := by
  intro h0 hlen
  clear hl
  generalize l.getD 0 0 = v at *
  go_enter Try.func92, Try.ntmps92
  go_wp2_with fail
  go_ret
  exact ⟨rfl, rfl⟩
theorem refpairs_one (b o c : Nat) (l : List Nat) (w : World) (hl : SRow w (some ⟨b, o, none⟩) l) : w.cell? ⟨b, o, none⟩ = some (.float .f32 (l.getD 0 0)) → l.length = 1 → Calls Try.prog 95 #[.slice (some ⟨b, o, none⟩) 1 c] w fun e w' => e = .returned (.float .f32 (l.getD 0 0)) ∧ w = w' := by
  intro h0 hlen
  clear hl
  generalize l.getD 0 0 = v at *
  go_enter Try.func95, Try.ntmps95
  go_wp2_with fail
  go_ret
  exact ⟨rfl, rfl⟩
/-- the two halves -/
theorem pairs_two {k : Nat} {l : List Nat} (hk : k + 1 ≤ 200) (hh : ∀ x ∈ l, Ht x) (h1 : 2 ≤ l.length) (h2 : l.length ≤ 2 ^ (k + 1)) (h3 : l.length ≤ 65536) :
    pairsF (k + 1) l = addF (pairsF k ((l.drop 0).take (l.length / 2))) (pairsF k ((l.drop (l.length / 2)).take (l.length - l.length / 2))) ∧ fin Ieee.single (pairsF k ((l.drop 0).take (l.length / 2))) ∧ fin Ieee.single (pairsF k ((l.drop (l.length / 2)).take (l.length - l.length / 2))) ∧
    fin Ieee.single (pairsF (k + 1) l) ∧ ((l.drop 0).take (l.length / 2)).length = l.length / 2 ∧ ((l.drop (l.length / 2)).take (l.length - l.length / 2)).length = l.length - l.length / 2 ∧ l.length / 2 ≤ 2 ^ k ∧ l.length - l.length / 2 ≤ 2 ^ k := by
  have e : 2 ^ (k + 1) = 2 * 2 ^ k := by rw [Nat.pow_succ]; omega
  have h4 := pairs_fin (k + 1) l (by omega) hh (by omega) h2 h3
  rw [e] at h2
  have l1 : ((l.drop 0).take (l.length / 2)).length = l.length / 2 := by simp; omega
  have e2 : (l.drop (l.length / 2)).take (l.length - l.length / 2) = l.drop (l.length / 2) := List.take_of_length_le (by simp)
  have l2 : (l.drop (l.length / 2)).length = l.length - l.length / 2 := by simp
  have a := pairs_fin k ((l.drop 0).take (l.length / 2)) (by omega) (fun x hx => hh x (List.mem_of_mem_take hx)) (by omega) (by omega) (by omega)
  have b := pairs_fin k (l.drop (l.length / 2)) (by omega) (fun x hx => hh x (List.mem_of_mem_drop hx)) (by omega) (by omega) (by omega)
  rw [e2]
  refine ⟨?_, a, b, h4, l1, l2, by omega, by omega⟩
  rw [pairsF, if_neg (by omega)]
  rfl
set_option maxHeartbeats 2000000 in
theorem sumpairs_any : ∀ k, k ≤ 200 → PairsAt 92 k
  | 0, _ => by
    intro b o c l w hl hh h1 h2 h3 hc
    have hlen : l.length = 1 := by rw [Nat.pow_zero] at h2; omega
    exact pairs_one_at _ _ b o c l w hlen (sumpairs_one b o c l w hl (by have := SRow.at_ hl (show 0 < l.length by omega); rwa [Nat.add_zero] at this) hlen)
  | k + 1, hk => by
    intro b o c l w hl hh h1 h2 h3 hc
    by_cases hlen : l.length = 1
    · exact pairs_one_at _ _ b o c l w hlen (sumpairs_one b o c l w hl (by have := SRow.at_ hl (show 0 < l.length by omega); rwa [Nat.add_zero] at this) hlen)
    · have ih := sumpairs_any k (by omega)
      obtain ⟨e, f1, f2, f3, l1, l2, p1, p2⟩ := pairs_two (k := k) hk hh (by omega) h2 h3
      have K1 := Lib.hid (fun w (hl : SRow w (some ⟨b, o, none⟩) l) => ih b (o + 0) c ((l.drop 0).take (l.length / 2)) w (SRow.part hl 0 (l.length / 2) (by omega)) (fun x hx => hh x (List.mem_of_mem_drop (List.mem_of_mem_take hx))) (by omega) (by omega) (by omega) (by omega))
      have K2 := Lib.hid (fun w (hl : SRow w (some ⟨b, o, none⟩) l) => ih b (o + l.length / 2) (c - l.length / 2) ((l.drop (l.length / 2)).take (l.length - l.length / 2)) w (SRow.part hl (l.length / 2) (l.length - l.length / 2) (by omega)) (fun x hx => hh x (List.mem_of_mem_drop (List.mem_of_mem_take hx))) (by omega) (by omega) (by omega) (by omega))
      rw [l1, Nat.add_zero] at K1
      rw [l2] at K2
      rw [e] at f3 ⊢
      have ka := fun w' => run_float_arith (P := Try.prog) w' .add 29 .f32 _ _ _ (bits_add f1 f2)
      have HL := Lib.hid hl
      clear hl hh h2 p1 p2 l1 l2 e f1 f2 f3 ih
      generalize addF (pairsF k ((l.drop 0).take (l.length / 2))) (pairsF k ((l.drop (l.length / 2)).take (l.length - l.length / 2))) = r at *
      generalize pairsF k ((l.drop 0).take (l.length / 2)) = x at *
      generalize pairsF k ((l.drop (l.length / 2)).take (l.length - l.length / 2)) = y at *
      generalize l.length = n at *
      have hn : ¬ (n : Int) = 1 := by omega
      have hne : ¬ n / 2 = c := by omega
      have hq : ((n : Int) / 2).toNat = n / 2 := by omega
      go_enter Try.func92, Try.ntmps92
      go_wp2_with fail
      go_quiet (first
        | (go_at_call 92; first | with_reducible exact Calls.quiet_of (K1.out _ (HL.out.drewN _)) | with_reducible exact Calls.quiet_of (K2.out _ (HL.out.drewN _))))
      go_wp2_with fail
      go_ret
      exact ⟨rfl, _, rfl⟩
set_option maxHeartbeats 2000000 in
theorem refpairs_any : ∀ k, k ≤ 200 → PairsAt 95 k
  | 0, _ => by
    intro b o c l w hl hh h1 h2 h3 hc
    have hlen : l.length = 1 := by rw [Nat.pow_zero] at h2; omega
    exact pairs_one_at _ _ b o c l w hlen (refpairs_one b o c l w hl (by have := SRow.at_ hl (show 0 < l.length by omega); rwa [Nat.add_zero] at this) hlen)
  | k + 1, hk => by
    intro b o c l w hl hh h1 h2 h3 hc
    by_cases hlen : l.length = 1
    · exact pairs_one_at _ _ b o c l w hlen (refpairs_one b o c l w hl (by have := SRow.at_ hl (show 0 < l.length by omega); rwa [Nat.add_zero] at this) hlen)
    · have ih := refpairs_any k (by omega)
      obtain ⟨e, f1, f2, f3, l1, l2, p1, p2⟩ := pairs_two (k := k) hk hh (by omega) h2 h3
      have K1 := Lib.hid (fun w (hl : SRow w (some ⟨b, o, none⟩) l) => ih b (o + 0) c ((l.drop 0).take (l.length / 2)) w (SRow.part hl 0 (l.length / 2) (by omega)) (fun x hx => hh x (List.mem_of_mem_drop (List.mem_of_mem_take hx))) (by omega) (by omega) (by omega) (by omega))
      have K2 := Lib.hid (fun w (hl : SRow w (some ⟨b, o, none⟩) l) => ih b (o + l.length / 2) (c - l.length / 2) ((l.drop (l.length / 2)).take (l.length - l.length / 2)) w (SRow.part hl (l.length / 2) (l.length - l.length / 2) (by omega)) (fun x hx => hh x (List.mem_of_mem_drop (List.mem_of_mem_take hx))) (by omega) (by omega) (by omega) (by omega))
      rw [l1, Nat.add_zero] at K1
      rw [l2] at K2
      rw [e] at f3 ⊢
      have KA := Lib.hid (fun w => ref_add_ok _ _ w f1 f2 f3)
      have HL := Lib.hid hl
      clear hl hh h2 p1 p2 l1 l2 e f1 f2 f3 ih
      generalize addF (pairsF k ((l.drop 0).take (l.length / 2))) (pairsF k ((l.drop (l.length / 2)).take (l.length - l.length / 2))) = r at *
      generalize pairsF k ((l.drop 0).take (l.length / 2)) = x at *
      generalize pairsF k ((l.drop (l.length / 2)).take (l.length - l.length / 2)) = y at *
      generalize l.length = n at *
      have hn : ¬ (n : Int) = 1 := by omega
      have hne : ¬ n / 2 = c := by omega
      have hq : ((n : Int) / 2).toNat = n / 2 := by omega
      go_enter Try.func95, Try.ntmps95
      go_wp2_with fail
      go_quiet (first
        | (go_at_call 95; first | with_reducible exact Calls.quiet_of (K1.out _ (HL.out.drewN _)) | with_reducible exact Calls.quiet_of (K2.out _ (HL.out.drewN _)))
        | (go_at_call 94; with_reducible exact Calls.quiet_of_same ((KA.out _).mono fun _ _ h => ⟨h.1, h.2.symm⟩)))
      go_wp2_with fail
      go_ret
      exact ⟨rfl, _, rfl⟩
/-! ### the sum with what was lost -/
theorem kept_round (l : List Nat) (hh : ∀ x ∈ l, Ht x) (h2 : l.length ≤ 256) (k : Nat) (h : k < l.length) :
    KeptFin (keptF (l.take k)).1 (keptF (l.take k)).2 (l.getD k 0) ∧ fin Ieee.single (keptF (l.take k)).1 ∧ fin Ieee.single (keptF (l.take k)).2 ∧ fin Ieee.single (l.getD k 0) ∧ keptF (l.take (k + 1)) = keptStep (keptF (l.take k)) (l.getD k 0) := by
  have ih := kept_ok l hh h2 k (by omega)
  have hx := ht_getD hh h
  exact ⟨(kept_fin ih.fs ih.fc hx).1, ih.fs.1, ih.fc.1, hx.fin, by rw [take_snoc_d l k h, keptF_snoc]⟩
set_option maxHeartbeats 1000000 in
theorem sumkept_any (b o c : Nat) (l : List Nat) (w : World) (hl : SRow w (some ⟨b, o, none⟩) l) (hh : ∀ x ∈ l, Ht x) (h2 : l.length ≤ 256) :
    Calls Try.prog 93 #[.slice (some ⟨b, o, none⟩) l.length c] w fun e w' => e = .returned (.float .f32 (keptF l).1) ∧ w = w' := by
  have HL := Lib.hid hl
  have KS := Lib.hid (kept_round l hh h2)
  have HE : Hid (l.take l.length = l) := List.take_length
  have H0 : Hid (keptF (l.take 0) = (0, 0)) := Lib.hid rfl
  clear hl hh
  go_enter Try.func93, Try.ntmps93
  go_wp2_with fail
  go_loop [3, 4, 6, 7, 8, 9, 12] (fun s c' _ _ _ _ i => ∃ k : Nat, k ≤ l.length ∧ i = .int .i64 k ∧ s = .float .f32 (keptF (l.take k)).1 ∧ c' = .float .f32 (keptF (l.take k)).2) (fun _ _ _ _ _ _ i => l.length - (intOf i).toNat)
  case atStart => exact ⟨0, by omega, rfl, by rw [H0.out], by rw [H0.out]⟩
  case round =>
    obtain ⟨k, hk, rfl, rfl, rfl⟩ := hrel
    by_cases hlt : k < l.length
    · obtain ⟨⟨ft, fu, fd, fc⟩, f1, f2, f3, e4⟩ := KS.out k hlt
      have hcell := SRow.at_ HL.out hlt
      have HS : Hid ((keptF (l.take (k + 1))).1 = addF (keptF (l.take k)).1 (subF (l.getD k 0) (keptF (l.take k)).2) ∧ (keptF (l.take (k + 1))).2 = subF (subF (addF (keptF (l.take k)).1 (subF (l.getD k 0) (keptF (l.take k)).2)) (keptF (l.take k)).1) (subF (l.getD k 0) (keptF (l.take k)).2)) := by
        rw [e4]; exact ⟨rfl, rfl⟩
      have k1 := fun w' => run_float_arith (P := Try.prog) w' .sub 29 .f32 _ _ _ (bits_sub f3 f2)
      have k2 := fun w' => run_float_arith (P := Try.prog) w' .add 29 .f32 _ _ _ (bits_add f1 ft)
      have k3 := fun w' => run_float_arith (P := Try.prog) w' .sub 29 .f32 _ _ _ (bits_sub fu f1)
      have k4 := fun w' => run_float_arith (P := Try.prog) w' .sub 29 .f32 _ _ _ (bits_sub fd ft)
      clear ft fu fd fc f1 f2 f3 e4
      generalize subF (subF (addF (keptF (l.take k)).1 (subF (l.getD k 0) (keptF (l.take k)).2)) (keptF (l.take k)).1) (subF (l.getD k 0) (keptF (l.take k)).2) = r4 at *
      generalize subF (addF (keptF (l.take k)).1 (subF (l.getD k 0) (keptF (l.take k)).2)) (keptF (l.take k)).1 = r3 at *
      generalize addF (keptF (l.take k)).1 (subF (l.getD k 0) (keptF (l.take k)).2) = r2 at *
      generalize subF (l.getD k 0) (keptF (l.take k)).2 = r1 at *
      generalize l.getD k 0 = v at *
      generalize (keptF (l.take k)).1 = s at *
      generalize (keptF (l.take k)).2 = c' at *
      go_wp2_with fail
      go_round
      case rel => exact ⟨k + 1, by omega, by go_num, by rw [HS.out.1], by rw [HS.out.2]⟩
      case measure => simp [intOf]; omega
    · have hke : k = l.length := by omega
      rw [hke, HE.out]
      go_wp2_with fail
      go_ret
      exact ⟨rfl, rfl⟩
end Go.Proofs.Ytkmcinibaffpmaa
