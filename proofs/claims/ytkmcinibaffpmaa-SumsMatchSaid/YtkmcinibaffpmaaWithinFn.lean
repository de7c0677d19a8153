import Derived.Test.YtkmcinibaffpmaaExactFn
import Derived.Deep.DeepCutAuto
namespace Go.Proofs.Ytkmcinibaffpmaa
open Go.ChangeShapes Go.WideShapes Go.ChangeAt Go.RowKit
open Ieee.Format (fin finE htE allFin allHt all_true all_false mulF subF addF Ht Bd divF rootF floorF easeF mixF)
set_option linter.unusedVariables false
open Wide
open Ieee.Format (zi sumZ magZ)

def zero5 : Array Value := #[.int .u64 0, .int .u64 0, .int .u64 0, .int .u64 0, .int .u64 0]
theorem Blk.five_set {w : World} {k : Nat} {p : Nat → Int} {t : TypeId} (h : Blk w k (five p) t) (q : Nat → Int) :
    Blk (((((w.setCell ⟨k, 0, none⟩ (.int .u64 (q 0))).setCell ⟨k, 1, none⟩ (.int .u64 (q 1))).setCell ⟨k, 2, none⟩ (.int .u64 (q 2))).setCell ⟨k, 3, none⟩ (.int .u64 (q 3))).setCell ⟨k, 4, none⟩ (.int .u64 (q 4))) k (five q) t := by
  have := ((((h.set (i := 0) (.int .u64 (q 0))).set (i := 1) (.int .u64 (q 1))).set (i := 2) (.int .u64 (q 2))).set (i := 3) (.int .u64 (q 3))).set (i := 4) (.int .u64 (q 4))
  simpa [five] using this
/-- two wide numbers in memory, from block k on -/
structure WiW (w : World) (k : Nat) (x y : Array Value) (wr : World) : Prop where
  x : Blk wr k x 144
  y : Blk wr (k + 1) y 144
  k : w.heap.size ≤ k
  b : Below w.heap.size w wr
section
variable {w wr w2 : World} {k kA : Nat} {x y : Array Value}
theorem WiW.call (h : WiW w k x y wr) (hb : Below wr.heap.size wr w2) : WiW w k x y w2 :=
  ⟨h.x.below hb h.x.lt, h.y.below hb h.y.lt, h.k, h.b.trans (hb.mono h.b.size)⟩
theorem WiW.drew (h : WiW w k x y wr) : WiW w k x y wr.drew := ⟨h.x.drew, h.y.drew, h.k, h.b.drew⟩
theorem WiW.alloc (h : WiW w k x y wr) (o : Obj) : WiW w k x y (wr.alloc o) := h.call ((Below.refl _ _).alloc (Nat.le_refl _) _)
theorem WiW.newb (h : WiW w k x y wr) : Blk (wr.alloc (.cells zero5 144)) wr.heap.size zero5 144 ∧ k + 1 < wr.heap.size := ⟨Blk.new _ _ _, h.y.lt⟩
theorem WiW.newd (h : WiW w k x y wr.drew) : Blk (wr.drew.alloc (.cells zero5 144)) wr.heap.size zero5 144 ∧ k + 1 < wr.heap.size := h.newb
theorem WiW.set5 (h : WiW w k x y wr) (hk : k + 1 < kA) (q : Nat → Int) :
    WiW w k x y (((((wr.setCell ⟨kA, 0, none⟩ (.int .u64 (q 0))).setCell ⟨kA, 1, none⟩ (.int .u64 (q 1))).setCell ⟨kA, 2, none⟩ (.int .u64 (q 2))).setCell ⟨kA, 3, none⟩ (.int .u64 (q 3))).setCell ⟨kA, 4, none⟩ (.int .u64 (q 4))) := by
  have h1 := h.k
  have B := h.b
  refine ⟨?_, ?_, h1, ?_⟩
  · exact ((((h.x.setCell (by simp; omega) _).setCell (by simp; omega) _).setCell (by simp; omega) _).setCell (by simp; omega) _).setCell (by simp; omega) _
  · exact ((((h.y.setCell (by simp; omega) _).setCell (by simp; omega) _).setCell (by simp; omega) _).setCell (by simp; omega) _).setCell (by simp; omega) _
  · exact ((((B.setCell (by simp; omega) _).setCell (by simp; omega) _).setCell (by simp; omega) _).setCell (by simp; omega) _).setCell (by simp; omega) _
end
structure Wi3 (w : World) (k kA : Nat) (x y d : Array Value) (wr : World) : Prop where
  a : WiW w k x y wr
  d : Blk wr kA d 144
theorem Wi3.call {w wr w2 : World} {k kA : Nat} {x y d : Array Value} (h : Wi3 w k kA x y d wr) (hb : Below wr.heap.size wr w2) : Wi3 w k kA x y d w2 := ⟨h.a.call hb, h.d.below hb h.d.lt⟩
theorem Wi3.drew {w wr : World} {k kA : Nat} {x y d : Array Value} (h : Wi3 w k kA x y d wr) : Wi3 w k kA x y d wr.drew := ⟨h.a.drew, h.d.drew⟩
theorem five_zero : five (fun _ => 0) = zero5 := rfl
set_option maxRecDepth 100000 in
set_option maxHeartbeats 8000000 in
theorem within_any (v b o c n : Nat) (l : List Nat) (w : World) (hl : SRow w (some ⟨b, o, none⟩) l) (hh : ∀ x ∈ l, Ht x) (hv : v < 4294967296) (hv2 : v / 8388608 % 256 ≤ 180)
    (h1 : -1606938044258990275541962092341162602522202993782792835301376 ≤ zi v) (h2 : zi v ≤ 1606938044258990275541962092341162602522202993782792835301376) (h3 : magZ l ≤ 1606938044258990275541962092341162602522202993782792835301376) (hn : n ≤ 300)
    (hw : zabs (zi v - sumZ l) * 8388608 ≤ magZ l * (n : Int)) :
    Calls Try.prog 21 #[.float .f32 v, .slice (some ⟨b, o, none⟩) l.length c, .int .i64 (n : Int), .int .i64 23] w fun e w' => e = .returned (.bool true) ∧ Below w.heap.size w w' := by
  obtain ⟨s1, s2⟩ := Ieee.Format.sumZ_le l
  have s3 := Ieee.Format.magZ_nonneg l
  obtain ⟨d1, d2⟩ := Ieee.Format.zabs_bd (z := zi v - sumZ l) (B := 4000000000000000000000000000000000000000000000000000000000000) (by omega) (by omega)
  have m1 := Int.mul_nonneg s3 (show (0 : Int) ≤ (n : Int) by omega)
  have m2 := Int.mul_le_mul h3 (show (n : Int) ≤ 300 by omega) (by omega) (by omega)
  have KE := Lib.hid (fun w hl => exact_any b o c l w hl hh)
  have K1 := Lib.hid (fun w => of_any v w hv hv2)
  have K3 := Lib.hid (fun w => minus_any (sumZ l) w)
  have K4 := Lib.hid (fun w => plus_any (zi v) (-sumZ l) w)
  have K5 := Lib.hid (fun w => size_any (zi v + -sumZ l) w (by omega) (by omega))
  rw [show zi v + -sumZ l = zi v - sumZ l from by omega] at K4 K5
  have K6 := Lib.hid (fun w => times_any (zabs (zi v - sumZ l)) 8388608 w (by omega) (by omega))
  have K7 := Lib.hid (fun w => times_any (magZ l) (n : Int) w (by omega) (by omega))
  have K8 := Lib.hid (fun w => compare_any (zabs (zi v - sumZ l) * 8388608) (magZ l * (n : Int)) w (by omega) (by omega) m1 (by omega))
  have hcm : cmpI (zabs (zi v - sumZ l) * 8388608) (magZ l * (n : Int)) ≤ 0 := by unfold cmpI; split; omega; split; omega; omega
  have HL := Lib.hid hl
  have hn2 : (n : Int) ≤ 300 := by omega
  clear s1 s2 s3 d1 d2 m1 m2 h1 h2 h3 hw hh hv hv2 hl hn
  generalize cmpI (zabs (zi v - sumZ l) * 8388608) (magZ l * (n : Int)) = cv at *
  unfold wideV at KE K1 K3 K4 K5 K6 K7 K8
  generalize dig (zabs (zi v - sumZ l) * 8388608) = p6 at *
  generalize dig (magZ l * (n : Int)) = p7 at *
  generalize dig (zabs (zi v - sumZ l)) = D2 at *
  generalize dig (zi v - sumZ l) = p4 at *
  generalize dig (-sumZ l) = p3 at *
  generalize dig (sumZ l) = A at *
  generalize dig (magZ l) = B at *
  generalize dig (zi v) = p1 at *
  go_enter Try.func21, Try.ntmps21
  go_wp2_with fail
  refine (KE.out _ HL.out).mono ?_
  rintro e w1 ⟨rfl, hb⟩
  go_upto_region 2 with fail
  have I0 : WiW w w1.heap.size (five A) (five B) ((w1.alloc (.cells (five A) 144)).alloc (.cells (five B) 144)) := by
    have B1 := hb.size
    refine ⟨(Blk.new _ _ _).alloc _, ?_, B1, (by have hszz := hb.size; repeat (first | with_reducible exact hb | with_reducible apply Below.drew | with_reducible refine below_drewN ?_ _ | (with_reducible refine Below.setCell ?_ ?_ _; rotate_left; focus (first | omega | (simp <;> omega))) | (with_reducible refine Below.alloc ?_ ?_ _; rotate_left; focus (first | omega | (simp <;> omega)))))⟩
    have := Blk.new (w1.alloc (.cells (five A) 144)) (five B) 144
    simpa using this
  unfold five at I0
  have HI := Lib.hid I0
  clear I0 hb
  generalize (w1.alloc (.cells #[.int .u64 (A 0), .int .u64 (A 1), .int .u64 (A 2), .int .u64 (A 3), .int .u64 (A 4)] 144)).alloc (.cells #[.int .u64 (B 0), .int .u64 (B 1), .int .u64 (B 2), .int .u64 (B 3), .int .u64 (B 4)] 144) = W at *
  generalize w1.heap.size = kk at *
  go_cut [11] (fun p wx => ∃ kA, p = .pointer (some ⟨kA, 0, none⟩) ∧ Blk wx kA (five D2) 144 ∧ WiW w kk (five A) (five B) wx)
  case first =>
    refine wp_region_noPanic ?_
    refine wp_region_heldT (WiW w kk (five A) (five B)) 7 (by kernel_rfl) HI.out.drew (fun hHeld => ?_)
    refine wpAnyT_take [1, 3, 4, 5, 7] (i := 0) (v := ?_) rfl (by kernel_rfl) (by kernel_rfl) (by kernel_rfl) (by kernel_rfl) (fun _ _ _ h => h) (Or.inl ⟨by rfl, ?_⟩) (by with_reducible assumption) ?_
    rotate_left
    · intro w hSw
      have h_ := hSw
      unfold five at h_
      have xc0 := h_.x.cell 0
      have xc1 := h_.x.cell 1
      have xc2 := h_.x.cell 2
      have xc3 := h_.x.cell 3
      have xc4 := h_.x.cell 4
      have yc0 := h_.y.cell 0
      have yc1 := h_.y.cell 1
      have yc2 := h_.y.cell 2
      have yc3 := h_.y.cell 3
      have yc4 := h_.y.cell 4
      simp at xc0 xc1 xc2 xc3 xc4 yc0 yc1 yc2 yc3 yc4
      clear h_
      go_simp
      try with_reducible rfl
    try simp only [Act.put, List.setIfInBounds_toArray, List.set_cons_zero, List.set_cons_succ]
    refine wpAnyT_take [3, 4, 5, 7] (i := 2) (v := ?_) rfl (by kernel_rfl) (by kernel_rfl) (by kernel_rfl) (by kernel_rfl) (fun _ _ _ h => h) (Or.inl ⟨by rfl, ?_⟩) (by with_reducible assumption) ?_
    rotate_left
    · intro w hSw
      have h_ := hSw
      unfold five at h_
      have xc0 := h_.x.cell 0
      have xc1 := h_.x.cell 1
      have xc2 := h_.x.cell 2
      have xc3 := h_.x.cell 3
      have xc4 := h_.x.cell 4
      have yc0 := h_.y.cell 0
      have yc1 := h_.y.cell 1
      have yc2 := h_.y.cell 2
      have yc3 := h_.y.cell 3
      have yc4 := h_.y.cell 4
      simp at xc0 xc1 xc2 xc3 xc4 yc0 yc1 yc2 yc3 yc4
      clear h_
      go_simp
      try with_reducible rfl
    try simp only [Act.put, List.setIfInBounds_toArray, List.set_cons_zero, List.set_cons_succ]
    refine wpAnyT_ready (rs := [1, 6]) (by kernel_rfl) (by simp) ?_
    refine AllReadyT.cons rfl (fun K hK => ?_) (AllReadyT.cons rfl (fun K hK => ?_) AllReadyT.nil)
    · go_simp
      refine (K1.out _).mono ?_
      rintro e w2 ⟨rfl, hb⟩
      have hN := hHeld.call hb
      try (have hA2 := hA.below hb hA.lt; clear hA; have hA := hA2; clear hA2)
      go_wp2_with fail
      refine hK.out _ _ (fun _ => hN) (fun hS_ => ?_)
      have hHeld := hS_ (by omega)
      clear hS_ hK K
      try simp only [Act.put, List.setIfInBounds_toArray, List.set_cons_zero, List.set_cons_succ]
      refine wpAnyT_ready (rs := [3, 6]) (by kernel_rfl) (by simp) ?_
      refine AllReadyT.cons rfl (fun K hK => ?_) (AllReadyT.cons rfl (fun K hK => ?_) AllReadyT.nil)
      · go_simp
        refine (K3.out _).mono ?_
        rintro e w2 ⟨rfl, hb⟩
        have hN := hHeld.call hb
        try (have hA2 := hA.below hb hA.lt; clear hA; have hA := hA2; clear hA2)
        go_wp2_with fail
        refine hK.out _ _ (fun _ => hN) (fun hS_ => ?_)
        have hHeld := hS_ (by omega)
        clear hS_ hK K
        try simp only [Act.put, List.setIfInBounds_toArray, List.set_cons_zero, List.set_cons_succ]
        refine wpAnyT_ready (rs := [4, 6]) (by kernel_rfl) (by simp) ?_
        refine AllReadyT.cons rfl (fun K hK => ?_) (AllReadyT.cons rfl (fun K hK => ?_) AllReadyT.nil)
        · go_simp
          refine (K4.out _).mono ?_
          rintro e w2 ⟨rfl, hb⟩
          have hN := hHeld.call hb
          try (have hA2 := hA.below hb hA.lt; clear hA; have hA := hA2; clear hA2)
          go_wp2_with fail
          refine hK.out _ _ (fun _ => hN) (fun hS_ => ?_)
          have hHeld := hS_ (by omega)
          clear hS_ hK K
          try simp only [Act.put, List.setIfInBounds_toArray, List.set_cons_zero, List.set_cons_succ]
          refine wpAnyT_ready (rs := [5, 6]) (by kernel_rfl) (by simp) ?_
          refine AllReadyT.cons rfl (fun K hK => ?_) (AllReadyT.cons rfl (fun K hK => ?_) AllReadyT.nil)
          · go_simp
            refine (K5.out _).mono ?_
            rintro e w2 ⟨rfl, hb⟩
            have hN := hHeld.call hb
            try (have hA2 := hA.below hb hA.lt; clear hA; have hA := hA2; clear hA2)
            go_wp2_with fail
            refine hK.out _ _ (fun _ => hN) (fun hS_ => ?_)
            have hHeld := hS_ (by omega)
            clear hS_ hK K
            try simp only [Act.put, List.setIfInBounds_toArray, List.set_cons_zero, List.set_cons_succ]
            refine wpAnyT_ready (rs := [6]) (by kernel_rfl) (by simp) ?_
            refine AllReadyT.cons rfl (fun K hK => ?_) AllReadyT.nil
            go_simp
            have hH0 := Lib.hid hHeld
            have hN := hHeld.alloc (.cells zero5 144)
            obtain ⟨hA, hKA⟩ := hHeld.newb
            refine hK.out _ _ (fun _ => hN) (fun hS_ => ?_)
            have hHeld := hS_ (by omega)
            clear hS_ hK K
            try simp only [Act.put, List.setIfInBounds_toArray, List.set_cons_zero, List.set_cons_succ]
            refine wpAnyT_ready (rs := [7]) (by kernel_rfl) (by simp) ?_
            refine AllReadyT.cons rfl (fun K hK => ?_) AllReadyT.nil
            unfold zero5 at hA
            have ac0 := hA.cell 0
            have ac1 := hA.cell 1
            have ac2 := hA.cell 2
            have ac3 := hA.cell 3
            have ac4 := hA.cell 4
            simp at ac0 ac1 ac2 ac3 ac4
            have af0 := hA.frozen 0
            have af1 := hA.frozen 1
            have af2 := hA.frozen 2
            have af3 := hA.frozen 3
            have af4 := hA.frozen 4
            have alt := hA.lt
            go_simp
            refine hK.out _ _ (fun h => absurd h (by omega)) (fun _ => ?_)
            clear hK K
            try simp only [Act.put, List.setIfInBounds_toArray, List.set_cons_zero, List.set_cons_succ]
            refine wpAnyT_done (by kernel_rfl) ?_ _
            refine NoPanic.normal ?_
            go_wp2_with fail
            go_meet
            refine ⟨_, rfl, ?_, ?_⟩
            · exact Blk.new _ _ _
            · exact hH0.out.alloc _
          · go_simp
            have hH0 := Lib.hid hHeld
            have hN := hHeld.alloc (.cells zero5 144)
            obtain ⟨hA, hKA⟩ := hHeld.newb
            refine hK.out _ _ (fun _ => hN) (fun hS_ => ?_)
            have hHeld := hS_ (by omega)
            clear hS_ hK K
            try simp only [Act.put, List.setIfInBounds_toArray, List.set_cons_zero, List.set_cons_succ]
            refine wpAnyT_ready (rs := [5]) (by kernel_rfl) (by simp) ?_
            refine AllReadyT.cons rfl (fun K hK => ?_) AllReadyT.nil
            go_simp
            refine (K5.out _).mono ?_
            rintro e w2 ⟨rfl, hb⟩
            have hN := hHeld.call hb
            try (have hA2 := hA.below hb hA.lt; clear hA; have hA := hA2; clear hA2)
            go_wp2_with fail
            refine hK.out _ _ (fun _ => hN) (fun hS_ => ?_)
            have hHeld := hS_ (by omega)
            clear hS_ hK K
            try simp only [Act.put, List.setIfInBounds_toArray, List.set_cons_zero, List.set_cons_succ]
            refine wpAnyT_ready (rs := [7]) (by kernel_rfl) (by simp) ?_
            refine AllReadyT.cons rfl (fun K hK => ?_) AllReadyT.nil
            have hD := Blk.five_set (p := fun _ => 0) hA D2
            have hWi := hHeld.set5 hKA D2
            have HD := Lib.hid hD
            have HW := Lib.hid hWi
            clear hD hWi
            unfold zero5 at hA
            have ac0 := hA.cell 0
            have ac1 := hA.cell 1
            have ac2 := hA.cell 2
            have ac3 := hA.cell 3
            have ac4 := hA.cell 4
            simp at ac0 ac1 ac2 ac3 ac4
            have af0 := hA.frozen 0
            have af1 := hA.frozen 1
            have af2 := hA.frozen 2
            have af3 := hA.frozen 3
            have af4 := hA.frozen 4
            have alt := hA.lt
            go_simp
            refine hK.out _ _ (fun h => absurd h (by omega)) (fun _ => ?_)
            clear hK K
            try simp only [Act.put, List.setIfInBounds_toArray, List.set_cons_zero, List.set_cons_succ]
            refine wpAnyT_done (by kernel_rfl) ?_ _
            refine NoPanic.normal ?_
            go_wp2_with fail
            go_meet
            refine ⟨_, rfl, ?_, ?_⟩
            · with_reducible exact HD.out
            · with_reducible exact HW.out
        · go_simp
          have hH0 := Lib.hid hHeld
          have hN := hHeld.alloc (.cells zero5 144)
          obtain ⟨hA, hKA⟩ := hHeld.newb
          refine hK.out _ _ (fun _ => hN) (fun hS_ => ?_)
          have hHeld := hS_ (by omega)
          clear hS_ hK K
          try simp only [Act.put, List.setIfInBounds_toArray, List.set_cons_zero, List.set_cons_succ]
          refine wpAnyT_ready (rs := [4]) (by kernel_rfl) (by simp) ?_
          refine AllReadyT.cons rfl (fun K hK => ?_) AllReadyT.nil
          go_simp
          refine (K4.out _).mono ?_
          rintro e w2 ⟨rfl, hb⟩
          have hN := hHeld.call hb
          try (have hA2 := hA.below hb hA.lt; clear hA; have hA := hA2; clear hA2)
          go_wp2_with fail
          refine hK.out _ _ (fun _ => hN) (fun hS_ => ?_)
          have hHeld := hS_ (by omega)
          clear hS_ hK K
          try simp only [Act.put, List.setIfInBounds_toArray, List.set_cons_zero, List.set_cons_succ]
          refine wpAnyT_ready (rs := [5]) (by kernel_rfl) (by simp) ?_
          refine AllReadyT.cons rfl (fun K hK => ?_) AllReadyT.nil
          go_simp
          refine (K5.out _).mono ?_
          rintro e w2 ⟨rfl, hb⟩
          have hN := hHeld.call hb
          try (have hA2 := hA.below hb hA.lt; clear hA; have hA := hA2; clear hA2)
          go_wp2_with fail
          refine hK.out _ _ (fun _ => hN) (fun hS_ => ?_)
          have hHeld := hS_ (by omega)
          clear hS_ hK K
          try simp only [Act.put, List.setIfInBounds_toArray, List.set_cons_zero, List.set_cons_succ]
          refine wpAnyT_ready (rs := [7]) (by kernel_rfl) (by simp) ?_
          refine AllReadyT.cons rfl (fun K hK => ?_) AllReadyT.nil
          have hD := Blk.five_set (p := fun _ => 0) hA D2
          have hWi := hHeld.set5 hKA D2
          have HD := Lib.hid hD
          have HW := Lib.hid hWi
          clear hD hWi
          unfold zero5 at hA
          have ac0 := hA.cell 0
          have ac1 := hA.cell 1
          have ac2 := hA.cell 2
          have ac3 := hA.cell 3
          have ac4 := hA.cell 4
          simp at ac0 ac1 ac2 ac3 ac4
          have af0 := hA.frozen 0
          have af1 := hA.frozen 1
          have af2 := hA.frozen 2
          have af3 := hA.frozen 3
          have af4 := hA.frozen 4
          have alt := hA.lt
          go_simp
          refine hK.out _ _ (fun h => absurd h (by omega)) (fun _ => ?_)
          clear hK K
          try simp only [Act.put, List.setIfInBounds_toArray, List.set_cons_zero, List.set_cons_succ]
          refine wpAnyT_done (by kernel_rfl) ?_ _
          refine NoPanic.normal ?_
          go_wp2_with fail
          go_meet
          refine ⟨_, rfl, ?_, ?_⟩
          · with_reducible exact HD.out
          · with_reducible exact HW.out
      · go_simp
        have hH0 := Lib.hid hHeld
        have hN := hHeld.alloc (.cells zero5 144)
        obtain ⟨hA, hKA⟩ := hHeld.newb
        refine hK.out _ _ (fun _ => hN) (fun hS_ => ?_)
        have hHeld := hS_ (by omega)
        clear hS_ hK K
        try simp only [Act.put, List.setIfInBounds_toArray, List.set_cons_zero, List.set_cons_succ]
        refine wpAnyT_ready (rs := [3]) (by kernel_rfl) (by simp) ?_
        refine AllReadyT.cons rfl (fun K hK => ?_) AllReadyT.nil
        go_simp
        refine (K3.out _).mono ?_
        rintro e w2 ⟨rfl, hb⟩
        have hN := hHeld.call hb
        try (have hA2 := hA.below hb hA.lt; clear hA; have hA := hA2; clear hA2)
        go_wp2_with fail
        refine hK.out _ _ (fun _ => hN) (fun hS_ => ?_)
        have hHeld := hS_ (by omega)
        clear hS_ hK K
        try simp only [Act.put, List.setIfInBounds_toArray, List.set_cons_zero, List.set_cons_succ]
        refine wpAnyT_ready (rs := [4]) (by kernel_rfl) (by simp) ?_
        refine AllReadyT.cons rfl (fun K hK => ?_) AllReadyT.nil
        go_simp
        refine (K4.out _).mono ?_
        rintro e w2 ⟨rfl, hb⟩
        have hN := hHeld.call hb
        try (have hA2 := hA.below hb hA.lt; clear hA; have hA := hA2; clear hA2)
        go_wp2_with fail
        refine hK.out _ _ (fun _ => hN) (fun hS_ => ?_)
        have hHeld := hS_ (by omega)
        clear hS_ hK K
        try simp only [Act.put, List.setIfInBounds_toArray, List.set_cons_zero, List.set_cons_succ]
        refine wpAnyT_ready (rs := [5]) (by kernel_rfl) (by simp) ?_
        refine AllReadyT.cons rfl (fun K hK => ?_) AllReadyT.nil
        go_simp
        refine (K5.out _).mono ?_
        rintro e w2 ⟨rfl, hb⟩
        have hN := hHeld.call hb
        try (have hA2 := hA.below hb hA.lt; clear hA; have hA := hA2; clear hA2)
        go_wp2_with fail
        refine hK.out _ _ (fun _ => hN) (fun hS_ => ?_)
        have hHeld := hS_ (by omega)
        clear hS_ hK K
        try simp only [Act.put, List.setIfInBounds_toArray, List.set_cons_zero, List.set_cons_succ]
        refine wpAnyT_ready (rs := [7]) (by kernel_rfl) (by simp) ?_
        refine AllReadyT.cons rfl (fun K hK => ?_) AllReadyT.nil
        have hD := Blk.five_set (p := fun _ => 0) hA D2
        have hWi := hHeld.set5 hKA D2
        have HD := Lib.hid hD
        have HW := Lib.hid hWi
        clear hD hWi
        unfold zero5 at hA
        have ac0 := hA.cell 0
        have ac1 := hA.cell 1
        have ac2 := hA.cell 2
        have ac3 := hA.cell 3
        have ac4 := hA.cell 4
        simp at ac0 ac1 ac2 ac3 ac4
        have af0 := hA.frozen 0
        have af1 := hA.frozen 1
        have af2 := hA.frozen 2
        have af3 := hA.frozen 3
        have af4 := hA.frozen 4
        have alt := hA.lt
        go_simp
        refine hK.out _ _ (fun h => absurd h (by omega)) (fun _ => ?_)
        clear hK K
        try simp only [Act.put, List.setIfInBounds_toArray, List.set_cons_zero, List.set_cons_succ]
        refine wpAnyT_done (by kernel_rfl) ?_ _
        refine NoPanic.normal ?_
        go_wp2_with fail
        go_meet
        refine ⟨_, rfl, ?_, ?_⟩
        · with_reducible exact HD.out
        · with_reducible exact HW.out
    · go_simp
      have hH0 := Lib.hid hHeld
      have hN := hHeld.alloc (.cells zero5 144)
      obtain ⟨hA, hKA⟩ := hHeld.newd
      refine hK.out _ _ (fun _ => hN) (fun hS_ => ?_)
      have hHeld := hS_ (by omega)
      clear hS_ hK K
      try simp only [Act.put, List.setIfInBounds_toArray, List.set_cons_zero, List.set_cons_succ]
      refine wpAnyT_ready (rs := [1]) (by kernel_rfl) (by simp) ?_
      refine AllReadyT.cons rfl (fun K hK => ?_) AllReadyT.nil
      go_simp
      refine (K1.out _).mono ?_
      rintro e w2 ⟨rfl, hb⟩
      have hN := hHeld.call hb
      try (have hA2 := hA.below hb hA.lt; clear hA; have hA := hA2; clear hA2)
      go_wp2_with fail
      refine hK.out _ _ (fun _ => hN) (fun hS_ => ?_)
      have hHeld := hS_ (by omega)
      clear hS_ hK K
      try simp only [Act.put, List.setIfInBounds_toArray, List.set_cons_zero, List.set_cons_succ]
      refine wpAnyT_ready (rs := [3]) (by kernel_rfl) (by simp) ?_
      refine AllReadyT.cons rfl (fun K hK => ?_) AllReadyT.nil
      go_simp
      refine (K3.out _).mono ?_
      rintro e w2 ⟨rfl, hb⟩
      have hN := hHeld.call hb
      try (have hA2 := hA.below hb hA.lt; clear hA; have hA := hA2; clear hA2)
      go_wp2_with fail
      refine hK.out _ _ (fun _ => hN) (fun hS_ => ?_)
      have hHeld := hS_ (by omega)
      clear hS_ hK K
      try simp only [Act.put, List.setIfInBounds_toArray, List.set_cons_zero, List.set_cons_succ]
      refine wpAnyT_ready (rs := [4]) (by kernel_rfl) (by simp) ?_
      refine AllReadyT.cons rfl (fun K hK => ?_) AllReadyT.nil
      go_simp
      refine (K4.out _).mono ?_
      rintro e w2 ⟨rfl, hb⟩
      have hN := hHeld.call hb
      try (have hA2 := hA.below hb hA.lt; clear hA; have hA := hA2; clear hA2)
      go_wp2_with fail
      refine hK.out _ _ (fun _ => hN) (fun hS_ => ?_)
      have hHeld := hS_ (by omega)
      clear hS_ hK K
      try simp only [Act.put, List.setIfInBounds_toArray, List.set_cons_zero, List.set_cons_succ]
      refine wpAnyT_ready (rs := [5]) (by kernel_rfl) (by simp) ?_
      refine AllReadyT.cons rfl (fun K hK => ?_) AllReadyT.nil
      go_simp
      refine (K5.out _).mono ?_
      rintro e w2 ⟨rfl, hb⟩
      have hN := hHeld.call hb
      try (have hA2 := hA.below hb hA.lt; clear hA; have hA := hA2; clear hA2)
      go_wp2_with fail
      refine hK.out _ _ (fun _ => hN) (fun hS_ => ?_)
      have hHeld := hS_ (by omega)
      clear hS_ hK K
      try simp only [Act.put, List.setIfInBounds_toArray, List.set_cons_zero, List.set_cons_succ]
      refine wpAnyT_ready (rs := [7]) (by kernel_rfl) (by simp) ?_
      refine AllReadyT.cons rfl (fun K hK => ?_) AllReadyT.nil
      have hD := Blk.five_set (p := fun _ => 0) hA D2
      have hWi := hHeld.set5 hKA D2
      have HD := Lib.hid hD
      have HW := Lib.hid hWi
      clear hD hWi
      unfold zero5 at hA
      have ac0 := hA.cell 0
      have ac1 := hA.cell 1
      have ac2 := hA.cell 2
      have ac3 := hA.cell 3
      have ac4 := hA.cell 4
      simp at ac0 ac1 ac2 ac3 ac4
      have af0 := hA.frozen 0
      have af1 := hA.frozen 1
      have af2 := hA.frozen 2
      have af3 := hA.frozen 3
      have af4 := hA.frozen 4
      have alt := hA.lt
      go_simp
      refine hK.out _ _ (fun h => absurd h (by omega)) (fun _ => ?_)
      clear hK K
      try simp only [Act.put, List.setIfInBounds_toArray, List.set_cons_zero, List.set_cons_succ]
      refine wpAnyT_done (by kernel_rfl) ?_ _
      refine NoPanic.normal ?_
      go_wp2_with fail
      go_meet
      refine ⟨_, rfl, ?_, ?_⟩
      · with_reducible exact HD.out
      · with_reducible exact HW.out
  case rest =>
    obtain ⟨kA, rfl, hA, I⟩ := hcut
    have J0 : Wi3 w kk kA (five A) (five B) (five D2) wc := ⟨I, hA⟩
    have HJ := Lib.hid J0
    clear J0 I hA HI K1 K3 K4 K5
    have hcv : decide (cv ≤ 0) = true := by simpa using hcm
    have hw8 : IntKind.u64.wrap 8388608 = 8388608 := by rw [wrap_u64]; rfl
    have hwn : IntKind.u64.wrap (n : Int) = (n : Int) := by rw [wrap_u64]; omega
    go_upto_region 3 with fail
    refine wp_region_noPanic ?_
    refine wp_region_heldT (Wi3 w kk kA (five A) (five B) (five D2)) 11 (by kernel_rfl) HJ.out.drew (fun hHeld => ?_)
    refine wpAnyT_take [] (i := 0) (v := ?_) rfl (by kernel_rfl) (by kernel_rfl) (by kernel_rfl) (by kernel_rfl) (fun _ _ _ h => h) (Or.inl ⟨by rfl, ?_⟩) (by with_reducible assumption) ?_
    rotate_left
    · intro w hSw
      have h_ := hSw
      unfold five at h_
      have xc0 := h_.d.cell 0
      have xc1 := h_.d.cell 1
      have xc2 := h_.d.cell 2
      have xc3 := h_.d.cell 3
      have xc4 := h_.d.cell 4
      simp at xc0 xc1 xc2 xc3 xc4
      have yc0 := h_.a.y.cell 0
      have yc1 := h_.a.y.cell 1
      have yc2 := h_.a.y.cell 2
      have yc3 := h_.a.y.cell 3
      have yc4 := h_.a.y.cell 4
      simp at yc0 yc1 yc2 yc3 yc4
      clear h_
      go_simp
      try with_reducible rfl
    try simp only [Act.put, List.setIfInBounds_toArray, List.set_cons_zero, List.set_cons_succ]
    refine wpAnyT_take [] (i := 1) (v := ?_) rfl (by kernel_rfl) (by kernel_rfl) (by kernel_rfl) (by kernel_rfl) (fun _ _ _ h => h) (Or.inl ⟨by rfl, ?_⟩) (by with_reducible assumption) ?_
    rotate_left
    · intro w hSw
      have h_ := hSw
      unfold five at h_
      have xc0 := h_.d.cell 0
      have xc1 := h_.d.cell 1
      have xc2 := h_.d.cell 2
      have xc3 := h_.d.cell 3
      have xc4 := h_.d.cell 4
      simp at xc0 xc1 xc2 xc3 xc4
      have yc0 := h_.a.y.cell 0
      have yc1 := h_.a.y.cell 1
      have yc2 := h_.a.y.cell 2
      have yc3 := h_.a.y.cell 3
      have yc4 := h_.a.y.cell 4
      simp at yc0 yc1 yc2 yc3 yc4
      clear h_
      go_simp
      try with_reducible rfl
    try simp only [Act.put, List.setIfInBounds_toArray, List.set_cons_zero, List.set_cons_succ]
    refine wpAnyT_take [] (i := 2) (v := ?_) rfl (by kernel_rfl) (by kernel_rfl) (by kernel_rfl) (by kernel_rfl) (fun _ _ _ h => h) (Or.inl ⟨by rfl, ?_⟩) (by with_reducible assumption) ?_
    rotate_left
    · intro w hSw
      have h_ := hSw
      unfold five at h_
      have xc0 := h_.d.cell 0
      have xc1 := h_.d.cell 1
      have xc2 := h_.d.cell 2
      have xc3 := h_.d.cell 3
      have xc4 := h_.d.cell 4
      simp at xc0 xc1 xc2 xc3 xc4
      have yc0 := h_.a.y.cell 0
      have yc1 := h_.a.y.cell 1
      have yc2 := h_.a.y.cell 2
      have yc3 := h_.a.y.cell 3
      have yc4 := h_.a.y.cell 4
      simp at yc0 yc1 yc2 yc3 yc4
      clear h_
      go_simp
      try with_reducible rfl
    try simp only [Act.put, List.setIfInBounds_toArray, List.set_cons_zero, List.set_cons_succ]
    refine wpAnyT_take [] (i := 4) (v := ?_) rfl (by kernel_rfl) (by kernel_rfl) (by kernel_rfl) (by kernel_rfl) (fun _ _ _ h => h) (Or.inl ⟨by rfl, ?_⟩) (by with_reducible assumption) ?_
    rotate_left
    · intro w hSw
      have h_ := hSw
      unfold five at h_
      have xc0 := h_.d.cell 0
      have xc1 := h_.d.cell 1
      have xc2 := h_.d.cell 2
      have xc3 := h_.d.cell 3
      have xc4 := h_.d.cell 4
      simp at xc0 xc1 xc2 xc3 xc4
      have yc0 := h_.a.y.cell 0
      have yc1 := h_.a.y.cell 1
      have yc2 := h_.a.y.cell 2
      have yc3 := h_.a.y.cell 3
      have yc4 := h_.a.y.cell 4
      simp at yc0 yc1 yc2 yc3 yc4
      clear h_
      go_simp
      try with_reducible rfl
    try simp only [Act.put, List.setIfInBounds_toArray, List.set_cons_zero, List.set_cons_succ]
    refine wpAnyT_take [] (i := 5) (v := ?_) rfl (by kernel_rfl) (by kernel_rfl) (by kernel_rfl) (by kernel_rfl) (fun _ _ _ h => h) (Or.inl ⟨by rfl, ?_⟩) (by with_reducible assumption) ?_
    rotate_left
    · intro w hSw
      have h_ := hSw
      unfold five at h_
      have xc0 := h_.d.cell 0
      have xc1 := h_.d.cell 1
      have xc2 := h_.d.cell 2
      have xc3 := h_.d.cell 3
      have xc4 := h_.d.cell 4
      simp at xc0 xc1 xc2 xc3 xc4
      have yc0 := h_.a.y.cell 0
      have yc1 := h_.a.y.cell 1
      have yc2 := h_.a.y.cell 2
      have yc3 := h_.a.y.cell 3
      have yc4 := h_.a.y.cell 4
      simp at yc0 yc1 yc2 yc3 yc4
      clear h_
      go_simp
      try with_reducible rfl
    try simp only [Act.put, List.setIfInBounds_toArray, List.set_cons_zero, List.set_cons_succ]
    refine wpAnyT_take [] (i := 6) (v := ?_) rfl (by kernel_rfl) (by kernel_rfl) (by kernel_rfl) (by kernel_rfl) (fun _ _ _ h => h) (Or.inl ⟨by rfl, ?_⟩) (by with_reducible assumption) ?_
    rotate_left
    · intro w hSw
      have h_ := hSw
      unfold five at h_
      have xc0 := h_.d.cell 0
      have xc1 := h_.d.cell 1
      have xc2 := h_.d.cell 2
      have xc3 := h_.d.cell 3
      have xc4 := h_.d.cell 4
      simp at xc0 xc1 xc2 xc3 xc4
      have yc0 := h_.a.y.cell 0
      have yc1 := h_.a.y.cell 1
      have yc2 := h_.a.y.cell 2
      have yc3 := h_.a.y.cell 3
      have yc4 := h_.a.y.cell 4
      simp at yc0 yc1 yc2 yc3 yc4
      clear h_
      go_simp
      try with_reducible rfl
    try simp only [Act.put, List.setIfInBounds_toArray, List.set_cons_zero, List.set_cons_succ]
    refine wpAnyT_ready (rs := [3]) (by kernel_rfl) (by simp) ?_
    refine AllReadyT.cons rfl (fun K hK => ?_) AllReadyT.nil
    go_simp
    (with_reducible refine (K6.out _).mono ?_)
    rintro e w2 ⟨rfl, hb⟩
    have hN := hHeld.call hb
    go_wp2_with fail
    refine hK.out _ _ (fun _ => hN) (fun hS_ => ?_)
    have hHeld := hS_ (by omega)
    clear hS_ hK K
    try simp only [Act.put, List.setIfInBounds_toArray, List.set_cons_zero, List.set_cons_succ]
    refine wpAnyT_ready (rs := [7]) (by kernel_rfl) (by simp) ?_
    refine AllReadyT.cons rfl (fun K hK => ?_) AllReadyT.nil
    go_simp
    (with_reducible refine (K7.out _).mono ?_)
    rintro e w2 ⟨rfl, hb⟩
    have hN := hHeld.call hb
    go_wp2_with fail
    refine hK.out _ _ (fun _ => hN) (fun hS_ => ?_)
    have hHeld := hS_ (by omega)
    clear hS_ hK K
    try simp only [Act.put, List.setIfInBounds_toArray, List.set_cons_zero, List.set_cons_succ]
    refine wpAnyT_ready (rs := [8]) (by kernel_rfl) (by simp) ?_
    refine AllReadyT.cons rfl (fun K hK => ?_) AllReadyT.nil
    go_simp
    (with_reducible refine (K8.out _).mono ?_)
    rintro e w2 ⟨rfl, hb⟩
    have hN := hHeld.call hb
    go_wp2_with fail
    refine hK.out _ _ (fun _ => hN) (fun hS_ => ?_)
    have hHeld := hS_ (by omega)
    clear hS_ hK K
    try simp only [Act.put, List.setIfInBounds_toArray, List.set_cons_zero, List.set_cons_succ]
    refine wpAnyT_ready (rs := [9]) (by kernel_rfl) (by simp) ?_
    refine AllReadyT.cons rfl (fun K hK => ?_) AllReadyT.nil
    go_simp
    refine hK.out _ _ (fun _ => hHeld) (fun hS_ => ?_)
    have hHeld := hS_ (by omega)
    clear hS_ hK K
    try simp only [Act.put, List.setIfInBounds_toArray, List.set_cons_zero, List.set_cons_succ]
    refine wpAnyT_ready (rs := [10]) (by kernel_rfl) (by simp) ?_
    refine AllReadyT.cons rfl (fun K hK => ?_) AllReadyT.nil
    go_simp
    refine hK.out _ _ (fun _ => hHeld) (fun hS_ => ?_)
    have hHeld := hS_ (by omega)
    clear hS_ hK K
    try simp only [Act.put, List.setIfInBounds_toArray, List.set_cons_zero, List.set_cons_succ]
    refine wpAnyT_done (by kernel_rfl) ?_ _
    refine NoPanic.normal ?_
    have hB := hHeld.a.b
    go_wp2_with fail
    go_ret
    exact ⟨by first | rfl | (simp [hcm]; done) | (rw [hcv]; rfl), (by have hszz := hB.size; repeat (first | with_reducible exact hB | with_reducible apply Below.drew | with_reducible refine below_drewN ?_ _ | (with_reducible refine Below.setCell ?_ ?_ _; rotate_left; focus (first | omega | (simp <;> omega))) | (with_reducible refine Below.alloc ?_ ?_ _; rotate_left; focus (first | omega | (simp <;> omega)))))⟩
end Go.Proofs.Ytkmcinibaffpmaa
