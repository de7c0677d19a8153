import Derived.Test.YtkmcinibaffpmaaWideFn7
import Derived.Test.YtkmcinibaffpmaaHeldT
import Derived.RegionTactic
import Derived.ChangeAlike
namespace Go.Proofs.Ytkmcinibaffpmaa
open Go.ChangeShapes Go.WideShapes Go.ChangeAt Go.RowKit
open Ieee.Format (fin finE htE allFin allHt all_true all_false mulF subF addF Ht Bd divF rootF floorF easeF mixF)
set_option linter.unusedVariables false
open Wide
open Ieee.Format (zi sumZ magZ)

theorem zi_abs (x : Nat) (hx : x < 4294967296) : zi (x % 2147483648) = zabs (zi x) := by
  have e1 : Ieee.single.rung (x % 2147483648) = Ieee.single.rung x := by rw [Ieee.Format.rung_lit, Ieee.Format.rung_lit, Nat.mod_mod]
  have e2 : Ieee.single.sgn (x % 2147483648) = false := by rw [Ieee.Format.sgn_lit]; simp <;> omega
  unfold zi zabs
  rw [e1, e2]
  generalize Ieee.single.rmag (Ieee.single.rung x) * 2 ^ (Ieee.single.rplace (Ieee.single.rung x) + 160).toNat = N
  have h1 : (if (false : Bool) = true then (-1 : Int) else 1) = 1 := rfl
  cases Ieee.single.sgn x
  · rw [h1, if_neg (by omega)]
  · have h2 : (if (true : Bool) = true then (-1 : Int) else 1) = -1 := rfl
    rw [h1, h2]
    split <;> omega
theorem sumZ_app : ∀ a b : List Nat, sumZ (a ++ b) = sumZ a + sumZ b
  | [], b => by simp [sumZ]
  | x :: t, b => by
    have := sumZ_app t b
    simp only [List.cons_append, sumZ]
    omega
theorem magZ_app : ∀ a b : List Nat, magZ (a ++ b) = magZ a + magZ b
  | [], b => by simp [magZ]
  | x :: t, b => by
    have := magZ_app t b
    simp only [List.cons_append, magZ]
    omega
theorem ht_of {x : Nat} (h : Ht x) (hx : x < 4294967296) : x / 8388608 % 256 ≤ 180 ∧ (x % 2147483648) / 8388608 % 256 ≤ 180 := by
  unfold Ht at h; omega
/-- two wide numbers in memory -/
structure ExW (w : World) (wr : World) (x y : Array Value) : Prop where
  x : Blk wr w.heap.size x 144
  y : Blk wr (w.heap.size + 1) y 144
  b : Below w.heap.size w wr
theorem ExW.call {w wr w2 : World} {x y : Array Value} (h : ExW w wr x y) (hb : Below wr.heap.size wr w2) : ExW w w2 x y :=
  ⟨h.x.below hb h.x.lt, h.y.below hb h.y.lt, h.b.trans (hb.mono h.b.size)⟩
theorem ExW.drew {w wr : World} {x y : Array Value} (h : ExW w wr x y) : ExW w wr.drew x y := ⟨h.x.drew, h.y.drew, h.b.drew⟩
theorem ExW.setx {w wr : World} {x y : Array Value} (h : ExW w wr x y) (i : Nat) (v : Value) : ExW w (wr.setCell ⟨w.heap.size, i, none⟩ v) (x.setIfInBounds i v) y :=
  ⟨h.x.set v, h.y.setCell (by simp) _, h.b.setCell (by simp) _⟩
theorem ExW.sety {w wr : World} {x y : Array Value} (h : ExW w wr x y) (i : Nat) (v : Value) : ExW w (wr.setCell ⟨w.heap.size + 1, i, none⟩ v) x (y.setIfInBounds i v) :=
  ⟨h.x.setCell (by simp) _, h.y.set v, h.b.setCell (by simp) _⟩
def five (p : Nat → Int) : Array Value := #[.int .u64 (p 0), .int .u64 (p 1), .int .u64 (p 2), .int .u64 (p 3), .int .u64 (p 4)]
theorem ExW.allx {w wr : World} {p : Nat → Int} {y : Array Value} (h : ExW w wr (five p) y) (q : Nat → Int) :
    ExW w (((((wr.setCell ⟨w.heap.size, 0, none⟩ (.int .u64 (q 0))).setCell ⟨w.heap.size, 1, none⟩ (.int .u64 (q 1))).setCell ⟨w.heap.size, 2, none⟩ (.int .u64 (q 2))).setCell ⟨w.heap.size, 3, none⟩ (.int .u64 (q 3))).setCell ⟨w.heap.size, 4, none⟩ (.int .u64 (q 4))) (five q) y := by
  have := ((((h.setx 0 (.int .u64 (q 0))).setx 1 (.int .u64 (q 1))).setx 2 (.int .u64 (q 2))).setx 3 (.int .u64 (q 3))).setx 4 (.int .u64 (q 4))
  simpa [five] using this
theorem ExW.ally {w wr : World} {p : Nat → Int} {x : Array Value} (h : ExW w wr x (five p)) (q : Nat → Int) :
    ExW w (((((wr.setCell ⟨w.heap.size + 1, 0, none⟩ (.int .u64 (q 0))).setCell ⟨w.heap.size + 1, 1, none⟩ (.int .u64 (q 1))).setCell ⟨w.heap.size + 1, 2, none⟩ (.int .u64 (q 2))).setCell ⟨w.heap.size + 1, 3, none⟩ (.int .u64 (q 3))).setCell ⟨w.heap.size + 1, 4, none⟩ (.int .u64 (q 4))) x (five q) := by
  have := ((((h.sety 0 (.int .u64 (q 0))).sety 1 (.int .u64 (q 1))).sety 2 (.int .u64 (q 2))).sety 3 (.int .u64 (q 3))).sety 4 (.int .u64 (q 4))
  simpa [five] using this
theorem five_dig (z : Int) : wideC z = five (dig z) := rfl
set_option maxRecDepth 100000 in
set_option maxHeartbeats 8000000 in
theorem exact_any (b o c : Nat) (l : List Nat) (w : World) (hl : SRow w (some ⟨b, o, none⟩) l) (hh : ∀ x ∈ l, Ht x) :
    Calls Try.prog 100 #[.slice (some ⟨b, o, none⟩) l.length c] w fun e w' => e = .returned (.tuple #[wideV (sumZ l), wideV (magZ l)]) ∧ Below w.heap.size w w' := by
  have HL := Lib.hid hl
  have HH := Lib.hid hh
  have hml : l.length ≤ 1099511627776 := hl.1.1
  have P0 : ExW w ((w.alloc (.cells #[.int .u64 0, .int .u64 0, .int .u64 0, .int .u64 0, .int .u64 0] 144)).alloc (.cells #[.int .u64 0, .int .u64 0, .int .u64 0, .int .u64 0, .int .u64 0] 144)) (five (dig (sumZ (l.take 0)))) (five (dig (magZ (l.take 0)))) := by
    have h := two_at w #[.int .u64 0, .int .u64 0, .int .u64 0, .int .u64 0, .int .u64 0] #[.int .u64 0, .int .u64 0, .int .u64 0, .int .u64 0, .int .u64 0]
    exact ⟨h.x, h.y, h.b⟩
  have HP := Lib.hid P0
  clear P0 hl hh
  go_enter Try.func100, Try.ntmps100
  go_wp2_with fail
  generalize (w.alloc (.cells #[.int .u64 0, .int .u64 0, .int .u64 0, .int .u64 0, .int .u64 0] 144)).alloc (.cells #[.int .u64 0, .int .u64 0, .int .u64 0, .int .u64 0, .int .u64 0] 144) = W0 at *
  go_loopw [5, 8] (fun _ i wr => ∃ k : Nat, k ≤ l.length ∧ i = .int .i64 k ∧ ExW w wr (five (dig (sumZ (l.take k)))) (five (dig (magZ (l.take k))))) (fun _ i _ => l.length - (intOf i).toNat)
  case atStart => exact ⟨0, by omega, rfl, HP.out⟩
  case round =>
    clear HP
    obtain ⟨k, hk, rfl, I⟩ := hrel
    by_cases hlt : k < l.length
    · have hrow := SRow.at_ ((HL.out.below (show Below w.heap.size w wr from I.b))) hlt
      have hx := HL.out.1.2 _ (List.getElem_mem hlt)
      have hht := HH.out _ (List.getElem_mem hlt)
      have e0 : l.getD k 0 = l[k] := by rw [List.getD_eq_getElem?_getD, List.getElem?_eq_getElem hlt]; rfl
      rw [e0] at hrow
      have e1 : l.take (k + 1) = l.take k ++ [l[k]] := by rw [List.take_succ_eq_append_getElem hlt]
      have s1 : Hid (sumZ (l.take (k + 1)) = sumZ (l.take k) + zi l[k]) := by unfold Hid; rw [e1, sumZ_app]; unfold sumZ sumZ; omega
      have s2 : Hid (magZ (l.take (k + 1)) = magZ (l.take k) + zabs (zi l[k])) := by unfold Hid; rw [e1, magZ_app]; unfold magZ magZ; omega
      obtain ⟨q1, q2⟩ := ht_of hht hx
      have K2 := Lib.hid (fun w => of_any l[k] w hx q1)
      have K3 := Lib.hid (fun w => plus_any (sumZ (l.take k)) (zi l[k]) w)
      have K6 := Lib.hid (fun w => refabs_any l[k] hx w)
      have K7 := Lib.hid (fun w => of_any (l[k] % 2147483648) w (by omega) q2)
      rw [zi_abs _ hx] at K7
      have K8 := Lib.hid (fun w => plus_any (magZ (l.take k)) (zabs (zi l[k])) w)
      rw [← s1.out] at K3
      rw [← s2.out] at K8
      clear s1 s2 e0 e1 hht hx q1 q2
      generalize l[k] = x at *
      unfold wideV at K2 K3 K7 K8
      generalize dig (zi x) = z1 at *
      generalize dig (zabs (zi x)) = z2 at *
      generalize hA : dig (sumZ (l.take (k + 1))) = A2 at *
      generalize hB : dig (magZ (l.take (k + 1))) = B2 at *
      have HA := Lib.hid hA
      have HB := Lib.hid hB
      clear hA hB
      generalize dig (sumZ (l.take k)) = A1 at *
      generalize dig (magZ (l.take k)) = B1 at *
      have HI := Lib.hid I
      clear I
      go_upto_region 4 with fail
      refine wp_region_noPanic ?_
      refine wp_region_heldT (fun w' => ExW w w' (five A1) (five B1)) 9 (by kernel_rfl) HI.out.drew (fun hHeld => ?_)
      refine wpAnyT_take [3, 6, 7, 8, 9, 10] (i := 0) (v := ?_) rfl (by kernel_rfl) (by kernel_rfl) (by kernel_rfl) (by kernel_rfl) (fun _ _ _ h => h) (Or.inl ⟨by rfl, ?_⟩) (by with_reducible assumption) ?_
      rotate_left
      · intro w hSw
        have h_ := hSw
        unfold five at h_
        have xc0 := h_.x.cell 0
        have xc1 := h_.x.cell 1
        have xc2 := h_.x.cell 2
        have xc3 := h_.x.cell 3
        have xc4 := h_.x.cell 4
        have yc0 := h_.y.cell 0
        have yc1 := h_.y.cell 1
        have yc2 := h_.y.cell 2
        have yc3 := h_.y.cell 3
        have yc4 := h_.y.cell 4
        simp at xc0 xc1 xc2 xc3 xc4 yc0 yc1 yc2 yc3 yc4
        clear h_
        go_simp
        try with_reducible rfl
      try simp only [Act.put, List.setIfInBounds_toArray, List.set_cons_zero, List.set_cons_succ]
      refine wpAnyT_take [2, 3, 6, 7, 8, 9, 10] (i := 1) (v := ?_) rfl (by kernel_rfl) (by kernel_rfl) (by kernel_rfl) (by kernel_rfl) (fun _ _ _ h => h) (Or.inl ⟨by rfl, ?_⟩) (by with_reducible assumption) ?_
      rotate_left
      · intro w hSw
        have h_ := hSw
        unfold five at h_
        have xc0 := h_.x.cell 0
        have xc1 := h_.x.cell 1
        have xc2 := h_.x.cell 2
        have xc3 := h_.x.cell 3
        have xc4 := h_.x.cell 4
        have yc0 := h_.y.cell 0
        have yc1 := h_.y.cell 1
        have yc2 := h_.y.cell 2
        have yc3 := h_.y.cell 3
        have yc4 := h_.y.cell 4
        simp at xc0 xc1 xc2 xc3 xc4 yc0 yc1 yc2 yc3 yc4
        clear h_
        go_simp
        try with_reducible rfl
      try simp only [Act.put, List.setIfInBounds_toArray, List.set_cons_zero, List.set_cons_succ]
      refine wpAnyT_take [8, 9, 10] (i := 4) (v := ?_) rfl (by kernel_rfl) (by kernel_rfl) (by kernel_rfl) (by kernel_rfl) (fun _ _ _ h => h) (Or.inl ⟨by rfl, ?_⟩) (by with_reducible assumption) ?_
      rotate_left
      · intro w hSw
        have h_ := hSw
        unfold five at h_
        have xc0 := h_.x.cell 0
        have xc1 := h_.x.cell 1
        have xc2 := h_.x.cell 2
        have xc3 := h_.x.cell 3
        have xc4 := h_.x.cell 4
        have yc0 := h_.y.cell 0
        have yc1 := h_.y.cell 1
        have yc2 := h_.y.cell 2
        have yc3 := h_.y.cell 3
        have yc4 := h_.y.cell 4
        simp at xc0 xc1 xc2 xc3 xc4 yc0 yc1 yc2 yc3 yc4
        clear h_
        go_simp
        try with_reducible rfl
      try simp only [Act.put, List.setIfInBounds_toArray, List.set_cons_zero, List.set_cons_succ]
      refine wpAnyT_take [6, 7, 8, 9, 10] (i := 5) (v := ?_) rfl (by kernel_rfl) (by kernel_rfl) (by kernel_rfl) (by kernel_rfl) (fun _ _ _ h => h) (Or.inl ⟨by rfl, ?_⟩) (by with_reducible assumption) ?_
      rotate_left
      · intro w hSw
        have h_ := hSw
        unfold five at h_
        have xc0 := h_.x.cell 0
        have xc1 := h_.x.cell 1
        have xc2 := h_.x.cell 2
        have xc3 := h_.x.cell 3
        have xc4 := h_.x.cell 4
        have yc0 := h_.y.cell 0
        have yc1 := h_.y.cell 1
        have yc2 := h_.y.cell 2
        have yc3 := h_.y.cell 3
        have yc4 := h_.y.cell 4
        simp at xc0 xc1 xc2 xc3 xc4 yc0 yc1 yc2 yc3 yc4
        clear h_
        go_simp
        try with_reducible rfl
      try simp only [Act.put, List.setIfInBounds_toArray, List.set_cons_zero, List.set_cons_succ]
      refine wpAnyT_ready (rs := [2]) (by kernel_rfl) (by simp) ?_
      refine AllReadyT.cons rfl (fun K hK => ?_) AllReadyT.nil
      go_simp
      refine (K2.out _).mono ?_
      rintro e w2 ⟨rfl, hb⟩
      have hN := hHeld.call hb
      go_wp2_with fail
      refine hK.out _ _ (fun _ => hN) (fun hS_ => ?_)
      have hHeld := hS_ (by omega)
      clear hS_ hK K
      try simp only [Act.put, List.setIfInBounds_toArray, List.set_cons_zero, List.set_cons_succ]
      refine wpAnyT_ready (rs := [3]) (by kernel_rfl) (by simp) ?_
      refine AllReadyT.cons rfl (fun K hK => ?_) AllReadyT.nil
      go_simp
      refine (K3.out _).mono ?_
      rintro e w2 ⟨rfl, hb⟩
      have hN := hHeld.call hb
      go_wp2_with fail
      refine hK.out _ _ (fun _ => hN) (fun hS_ => ?_)
      have hHeld := hS_ (by omega)
      clear hS_ hK K
      try simp only [Act.put, List.setIfInBounds_toArray, List.set_cons_zero, List.set_cons_succ]
      refine wpAnyT_ready (rs := [6]) (by kernel_rfl) (by simp) ?_
      refine AllReadyT.cons rfl (fun K hK => ?_) AllReadyT.nil
      go_simp
      refine (K6.out _).mono ?_
      rintro e w2 ⟨rfl, rfl⟩
      go_wp2_with fail
      refine hK.out _ _ (fun _ => hHeld) (fun hS_ => ?_)
      have hHeld := hS_ (by omega)
      clear hS_ hK K
      try simp only [Act.put, List.setIfInBounds_toArray, List.set_cons_zero, List.set_cons_succ]
      refine wpAnyT_ready (rs := [7]) (by kernel_rfl) (by simp) ?_
      refine AllReadyT.cons rfl (fun K hK => ?_) AllReadyT.nil
      go_simp
      refine (K7.out _).mono ?_
      rintro e w2 ⟨rfl, hb⟩
      have hN := hHeld.call hb
      go_wp2_with fail
      refine hK.out _ _ (fun _ => hN) (fun hS_ => ?_)
      have hHeld := hS_ (by omega)
      clear hS_ hK K
      try simp only [Act.put, List.setIfInBounds_toArray, List.set_cons_zero, List.set_cons_succ]
      refine wpAnyT_ready (rs := [8]) (by kernel_rfl) (by simp) ?_
      refine AllReadyT.cons rfl (fun K hK => ?_) AllReadyT.nil
      go_simp
      refine (K8.out _).mono ?_
      rintro e w2 ⟨rfl, hb⟩
      have hN := hHeld.call hb
      go_wp2_with fail
      refine hK.out _ _ (fun _ => hN) (fun hS_ => ?_)
      have hHeld := hS_ (by omega)
      clear hS_ hK K
      try simp only [Act.put, List.setIfInBounds_toArray, List.set_cons_zero, List.set_cons_succ]
      refine wpAnyT_ready (rs := [9]) (by kernel_rfl) (by simp) ?_
      refine AllReadyT.cons rfl (fun K hK => ?_) AllReadyT.nil
      have hX := hHeld.allx A2
      have h_ := hHeld
      unfold five at h_
      have xc0 := h_.x.cell 0
      have xc1 := h_.x.cell 1
      have xc2 := h_.x.cell 2
      have xc3 := h_.x.cell 3
      have xc4 := h_.x.cell 4
      have yc0 := h_.y.cell 0
      have yc1 := h_.y.cell 1
      have yc2 := h_.y.cell 2
      have yc3 := h_.y.cell 3
      have yc4 := h_.y.cell 4
      simp at xc0 xc1 xc2 xc3 xc4 yc0 yc1 yc2 yc3 yc4
      clear h_
      have xf0 := hHeld.x.frozen 0
      have xf1 := hHeld.x.frozen 1
      have xf2 := hHeld.x.frozen 2
      have xf3 := hHeld.x.frozen 3
      have xf4 := hHeld.x.frozen 4
      have xlt := hHeld.x.lt
      have HX := Lib.hid hX
      clear hX
      go_simp
      refine hK.out _ _ (fun h => absurd h (by omega)) (fun _ => ?_)
      clear hK K xc0 xc1 xc2 xc3 xc4 yc0 yc1 yc2 yc3 yc4 xf0 xf1 xf2 xf3 xf4 xlt
      try simp only [Act.put, List.setIfInBounds_toArray, List.set_cons_zero, List.set_cons_succ]
      generalize hW5 : ((((w2.setCell ⟨w.heap.size, 0, none⟩ (.int .u64 (A2 0))).setCell ⟨w.heap.size, 1, none⟩ (.int .u64 (A2 1))).setCell ⟨w.heap.size, 2, none⟩ (.int .u64 (A2 2))).setCell ⟨w.heap.size, 3, none⟩ (.int .u64 (A2 3))).setCell ⟨w.heap.size, 4, none⟩ (.int .u64 (A2 4)) = W5 at *
      clear hW5
      refine wpAnyT_ready (rs := [10]) (by kernel_rfl) (by simp) ?_
      refine AllReadyT.cons rfl (fun K hK => ?_) AllReadyT.nil
      have hX := HX.out
      have hY := hX.ally B2
      have h_ := hX
      unfold five at h_
      have xc0 := h_.x.cell 0
      have xc1 := h_.x.cell 1
      have xc2 := h_.x.cell 2
      have xc3 := h_.x.cell 3
      have xc4 := h_.x.cell 4
      have yc0 := h_.y.cell 0
      have yc1 := h_.y.cell 1
      have yc2 := h_.y.cell 2
      have yc3 := h_.y.cell 3
      have yc4 := h_.y.cell 4
      simp at xc0 xc1 xc2 xc3 xc4 yc0 yc1 yc2 yc3 yc4
      clear h_
      have yf0 := hX.y.frozen 0
      have yf1 := hX.y.frozen 1
      have yf2 := hX.y.frozen 2
      have yf3 := hX.y.frozen 3
      have yf4 := hX.y.frozen 4
      have ylt := hX.y.lt
      have HY := Lib.hid hY
      clear hY hX
      go_simp
      refine hK.out _ _ (fun h => absurd h (by omega)) (fun _ => ?_)
      clear hK K xc0 xc1 xc2 xc3 xc4 yc0 yc1 yc2 yc3 yc4 yf0 yf1 yf2 yf3 yf4 ylt
      try simp only [Act.put, List.setIfInBounds_toArray, List.set_cons_zero, List.set_cons_succ]
      refine wpAnyT_done (by kernel_rfl) ?_ _
      refine NoPanic.normal ?_
      generalize hW6 : ((((W5.setCell ⟨w.heap.size + 1, 0, none⟩ (.int .u64 (B2 0))).setCell ⟨w.heap.size + 1, 1, none⟩ (.int .u64 (B2 1))).setCell ⟨w.heap.size + 1, 2, none⟩ (.int .u64 (B2 2))).setCell ⟨w.heap.size + 1, 3, none⟩ (.int .u64 (B2 3))).setCell ⟨w.heap.size + 1, 4, none⟩ (.int .u64 (B2 4)) = W6 at *
      clear hW6
      go_wp2_with fail
      go_roundw
      case rel => exact ⟨k + 1, by omega, by go_num, by rw [HA.out, HB.out]; exact HY.out⟩
      case measure => simp [intOf]; omega
    · have hke : k = l.length := by omega
      subst hke
      rw [List.take_length] at I
      have HI := Lib.hid I
      have HV : Hid (wideV (sumZ l) = .agg (five (dig (sumZ l)))) := Lib.hid rfl
      have HV2 : Hid (wideV (magZ l) = .agg (five (dig (magZ l)))) := Lib.hid rfl
      generalize dig (sumZ l) = A1 at *
      generalize dig (magZ l) = B1 at *
      have h_ := I
      unfold five at h_
      have xc0 := h_.x.cell 0
      have xc1 := h_.x.cell 1
      have xc2 := h_.x.cell 2
      have xc3 := h_.x.cell 3
      have xc4 := h_.x.cell 4
      have yc0 := h_.y.cell 0
      have yc1 := h_.y.cell 1
      have yc2 := h_.y.cell 2
      have yc3 := h_.y.cell 3
      have yc4 := h_.y.cell 4
      simp at xc0 xc1 xc2 xc3 xc4 yc0 yc1 yc2 yc3 yc4
      clear h_
      have xf0 := I.x.frozen 0
      have xf1 := I.x.frozen 1
      have xf2 := I.x.frozen 2
      have xf3 := I.x.frozen 3
      have xf4 := I.x.frozen 4
      have xlt := I.x.lt
      have yf0 := I.y.frozen 0
      have yf1 := I.y.frozen 1
      have yf2 := I.y.frozen 2
      have yf3 := I.y.frozen 3
      have yf4 := I.y.frozen 4
      have ylt := I.y.lt
      have hB := I.b
      clear I
      go_wp2_with fail
      go_region
      all_goals
        go_wp2_with fail
        refine bodyPost_ret (v := .tuple #[.agg (five A1), .agg (five B1)]) (by simp [five, results, Try.results100, go_sem, *]) rfl ⟨by rw [HV.out, HV2.out], (by have hszz := hB.size; repeat (first | with_reducible exact hB | with_reducible apply Below.drew | with_reducible refine below_drewN ?_ _ | (with_reducible refine Below.setCell ?_ ?_ _; rotate_left; focus (first | omega | (simp <;> omega))) | (with_reducible refine Below.alloc ?_ ?_ _; rotate_left; focus (first | omega | (simp <;> omega)))))⟩
end Go.Proofs.Ytkmcinibaffpmaa
