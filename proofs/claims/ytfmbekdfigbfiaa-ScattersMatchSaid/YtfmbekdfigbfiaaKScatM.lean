import Derived.Test.YtfmbekdfigbfiaaKScatC
import Derived.Test.YtfmbekdfigbfiaaJM
import Derived.Test.YtfmbekdfigbfiaaHeldL
import Derived.Deep.DeepCutAuto
import Derived.Deep.AppendLies
import Derived.OwnWalk
namespace Go.Proofs.Ytfmbekdfigbfiaa
open Go.ChangeShapes Go.WideShapes Go.ChangeAt Go.RowKit
open Ieee.Format (fin finE htE allFin allHt all_true all_false mulF subF addF Ht Bd divF rootF floorF easeF mixF)
set_option linter.unusedVariables false
open Wide

/-! ### the candidates of a box of cells -/
theorem box_flat (i j : Int) (w h : Nat) : boxL i j w h = (List.range (h * w)).map fun n : Nat => (i + ((n % w : Nat) : Int), j + ((n / w : Nat) : Int)) := by
  unfold boxL
  induction h with
  | zero => simp
  | succ h ih =>
    rw [List.range_succ, List.flatMap_append, ih, Nat.add_mul, Nat.one_mul, List.range_add, List.map_append]
    congr 1
    simp only [List.flatMap_cons, List.flatMap_nil, List.append_nil, List.map_map]
    apply List.map_congr_left
    intro k hk
    have hk := List.mem_range.1 hk
    simp only [Function.comp]
    rw [Nat.mul_comm h w, Nat.mul_add_mod, Nat.mod_eq_of_lt hk, Nat.mul_add_div (by omega), Nat.div_eq_of_lt hk, Nat.add_zero]
theorem box_len (i j : Int) (w h : Nat) : (boxL i j w h).length = h * w := by rw [box_flat]; simp
theorem box_at (i j : Int) (w h l k : Nat) (hk : k < w) (hl : l < h) : l * w + k < h * w ∧ (boxL i j w h)[l * w + k]? = some (i + (k : Int), j + (l : Int)) := by
  have m1 : (l + 1) * w ≤ h * w := Nat.mul_le_mul_right _ hl
  rw [Nat.add_mul, Nat.one_mul] at m1
  refine ⟨by omega, ?_⟩
  rw [box_flat, List.getElem?_map, List.getElem?_range (by omega), Option.map_some]
  rw [Nat.mul_comm l w, Nat.mul_add_mod, Nat.mod_eq_of_lt hk, Nat.mul_add_div (by omega), Nat.div_eq_of_lt hk, Nat.add_zero]
theorem box_take (i j : Int) (w h l k : Nat) (hk : k < w) (hl : l < h) : (boxL i j w h).take (l * w + k) ++ [(i + (k : Int), j + (l : Int))] = (boxL i j w h).take (l * w + (k + 1)) := by
  obtain ⟨h1, h2⟩ := box_at i j w h l k hk hl
  rw [show l * w + (k + 1) = l * w + k + 1 by omega, List.take_add_one, h2]; rfl
def thB (seed : Int) (sh : Nat) (q : Int × Int) : Bool := lss (hsF seed q.1 q.2 6) sh
def rkI (seed : Int) (q : Int × Int) : Int := hashTo seed q.1 q.2 7 3
def plI (seed c : Int) (q : Int × Int) : Int × Int := cen seed q.1 q.2 c
def candC (seed c : Int) (sh : Nat) (q : Int × Int) : List Value := [.int .i64 (plI seed c q).1, .int .i64 (plI seed c q).2, .bool (thB seed sh q), .int .u32 (rkI seed q)]
def candL (seed c : Int) (sh : Nat) (l : List (Int × Int)) : List Value := l.flatMap (candC seed c sh)
theorem candL_app (seed c : Int) (sh : Nat) (a b : List (Int × Int)) : candL seed c sh (a ++ b) = candL seed c sh a ++ candL seed c sh b := by simp [candL]
theorem candL_one (seed c : Int) (sh : Nat) (q : Int × Int) : candL seed c sh [q] = candC seed c sh q := by simp [candL]
theorem Try.infoCand : (Try.prog.info? 182).map (fun i => (i.zero, i.size, i.bytes)) = some (some (.agg #[.int .i64 0, .int .i64 0, .bool false, .int .u32 0]), 4, 24) := by kernel_rfl
/-- the memory of the candidates -/
structure CanI (seed c : Int) (sh : Nat) (ap : Int) (w wr : World) (v : Value) (m : List (Int × Int)) : Prop where
  s : Blk wr w.heap.size (scC seed c sh ap) 93
  bz : w.heap.size + 1 ≤ wr.heap.size
  own : wr.ownsRow (w.heap.size + 1) 182 4 v m.length (candL seed c sh m)
  b : Below w.heap.size w wr
section
variable {seed c : Int} {sh : Nat} {ap : Int} {w wr w2 w3 : World} {v v' : Value} {m : List (Int × Int)}
theorem CanI.call (h : CanI seed c sh ap w wr v m) (hb : Below wr.heap.size wr w2) : CanI seed c sh ap w w2 v m :=
  ⟨h.s.below hb h.s.lt, Nat.le_trans h.bz hb.size, ownsRow_below h.own hb (fun k hk => (h.own.lt k hk).2), h.b.trans (hb.mono h.b.size)⟩
theorem CanI.drew (h : CanI seed c sh ap w wr v m) : CanI seed c sh ap w wr.drew v m := h.call (Below.refl _ _).drew
theorem CanI.alloc (h : CanI seed c sh ap w wr v m) (o : Obj) : CanI seed c sh ap w (wr.alloc o) v m := h.call ((Below.refl _ _).alloc (Nat.le_refl _) _)
theorem CanI.app {q : Int × Int} (h : CanI seed c sh ap w w2 v m)
    (hown : w3.ownsRow (w.heap.size + 1) 182 4 v' (m.length + 1) (candL seed c sh m ++ candC seed c sh q)) (hg : w2.grownBy w3 v.ownBlock) : CanI seed c sh ap w w3 v' (m ++ [q]) := by
  have hne : ∀ k, k < w.heap.size + 1 → some k ≠ v.ownBlock := fun k hk e => by
    have := (h.own.lt k e.symm).1; omega
  refine ⟨(hg.block _ h.s.lt (hne _ (by omega))).trans h.s, Nat.le_trans h.bz hg.size, ?_, ?_⟩
  · rw [candL_app, candL_one]; simpa using hown
  · refine h.b.grown hg h.b.size (fun k hk => ?_)
    have := (h.own.lt k hk).1
    omega
end
set_option maxRecDepth 100000 in
set_option maxHeartbeats 4000000 in
theorem candidates_any (seed c : Int) (sh : Nat) (ap i j : Int) (W H : Nat) (w : World) (h1 : 1 ≤ c) (h2 : c ≤ 256) (hW : W ≤ 64) (hH : H ≤ 64) (hi : -8388608 ≤ i) (hi2 : i ≤ 8388608) (hj : -8388608 ≤ j) (hj2 : j ≤ 8388608) :
    Calls Try.prog 116 #[scV seed c sh ap, .int .i64 i, .int .i64 j, .int .i64 (W : Int), .int .i64 (H : Int)] w fun e w' =>
      ∃ v, e = .returned v ∧ w'.ownsRow (w.heap.size + 1) 182 4 v (H * W) (candL seed c sh (boxL i j W H)) ∧ Below w.heap.size w w' := by
  obtain ⟨i0, hi0, hz0, hz1, hz2⟩ := info_parts Try.infoCand
  have hWH : H * W ≤ 4096 := Nat.mul_le_mul hH hW
  have hm : (W : Int) * (H : Int) = ((H * W : Nat) : Int) := by rw [Int.natCast_mul, Int.mul_comm]
  have HBX := Lib.hid (fun l k hk hl => box_take i j W H l k hk hl)
  have HBL := Lib.hid (box_len i j W H)
  have KC := Lib.hid (fun (q : Int × Int) a b d e w => centre_any seed q.1 q.2 c w a b d e h1 (show c ≤ 4096 by omega))
  unfold scV scC
  have G0 : Hid (w.heap.size + 1 ≤ (w.alloc (.cells #[.int .u32 seed, .int .i64 c, .float .f32 sh, .int .i64 ap] 93)).heap.size) := by unfold Hid; simp
  have HB0 : Hid (Below w.heap.size w (w.alloc (.cells #[.int .u32 seed, .int .i64 c, .float .f32 sh, .int .i64 ap] 93))) := Lib.hid (by repeat (first | with_reducible exact Below.refl _ _ | with_reducible apply Below.drew | with_reducible refine below_drewN ?_ _ | (with_reducible refine Below.setCell ?_ ?_ _; rotate_left; focus (first | omega | (simp <;> omega))) | (with_reducible refine Below.alloc ?_ ?_ _; rotate_left; focus (first | omega | (simp <;> omega)))))
  have HS0 : Hid (Blk (w.alloc (.cells #[.int .u32 seed, .int .i64 c, .float .f32 sh, .int .i64 ap] 93)) w.heap.size (scC seed c sh ap) 93) := Lib.hid (Blk.new _ _ _)
  generalize hNN : H * W = NN at *
  have HNN := Lib.hid hNN
  clear hNN
  go_enter Try.func116, Try.ntmps116
  go_wp2_with (at_make; refine wpList_make_own _ rfl _ _ 179 rfl (w.heap.size + 1) 182 i0 (.agg #[.int .i64 0, .int .i64 0, .bool false, .int .u32 0]) 4 Try.underlying179 hi0 hz0 hz1 .i64 .i64 _ NN rfl rfl (by first | rfl | omega) (by rw [hz2]; omega) (by unfold maxLen; omega) G0.out ?_; intro w1 hown1 hgrow1)
  have I1 : CanI seed c sh ap w w1 (.slice (some ⟨(w.alloc (.cells #[.int .u32 seed, .int .i64 c, .float .f32 sh, .int .i64 ap] 93)).heap.size, 0, none⟩) 0 NN) [] :=
    ⟨(hgrow1.block _ HS0.out.lt (by simp)).trans HS0.out, Nat.le_trans G0.out hgrow1.size, hown1, HB0.out.grown hgrow1 HB0.out.size (fun k hk => by cases hk)⟩
  have HI1 := Lib.hid I1
  clear hown1 hgrow1 HB0 HS0 I1 G0
  go_upto_region 3 with fail
  go_loopw [11, 12, 13] (fun ov lv _ wr => ∃ (l : Nat) (v : Value), l ≤ H ∧ lv = .int .i64 (j + (l : Int)) ∧ ov = v ∧ CanI seed c sh ap w wr v ((boxL i j W H).take (l * W))) (fun _ lv _ _ => (j + (H : Int) - intOf lv).toNat)
  case atStart => exact ⟨0, _, by omega, by simp, rfl, by simpa using HI1.out⟩
  case round =>
    clear HI1
    obtain ⟨l, v, hl, rfl, rfl, I⟩ := hrel
    have HI := Lib.hid I
    clear I
    by_cases hlt : l < H
    · have hlt' : j + (l : Int) < j + (H : Int) := by omega
      go_upto_region 6 with fail
      go_loopw [11, 13] (fun ov kv wr => ∃ (k : Nat) (v : Value), k ≤ W ∧ kv = .int .i64 (i + (k : Int)) ∧ ov = v ∧ CanI seed c sh ap w wr v ((boxL i j W H).take (l * W + k))) (fun _ kv _ => (i + (W : Int) - intOf kv).toNat)
      case atStart => exact ⟨0, _, by omega, by simp, rfl, by simpa using HI.out⟩
      case round =>
        clear HI
        obtain ⟨k, v, hk, rfl, rfl, I⟩ := hrel
        have HI := Lib.hid I
        clear I
        by_cases hlk : k < W
        · have hlk' : i + (k : Int) < i + (W : Int) := by omega
          have HT := Lib.hid (HBX.out l k hlk hlt)
          obtain ⟨q, hq⟩ : ∃ q : Int × Int, q = (i + (k : Int), j + (l : Int)) := ⟨_, rfl⟩
          have hq1 : i + (k : Int) = q.1 := by rw [hq]
          have hq2 : j + (l : Int) = q.2 := by rw [hq]
          have hr1 : q.1 + 1 = i + ((k + 1 : Nat) : Int) := by omega
          have HR1 := Lib.hid hr1
          have KC1 := Lib.hid (KC.out q (by omega) (by omega) (by omega) (by omega))
          have KH6 := Lib.hid (fun w => hash1 seed q.1 q.2 6 w)
          have KU6 := Lib.hid (fun w => unit_word seed q.1 q.2 6 w)
          have KH7 := Lib.hid (fun w => hash1 seed q.1 q.2 7 w)
          rw [← hq] at HT
          have hml : ((boxL i j W H).take (l * W + k)).length ≤ 4096 := by rw [List.length_take, HBL.out]; omega
          have HQC : Hid (candC seed c sh q = [.int .i64 (plI seed c q).1, .int .i64 (plI seed c q).2, .bool (FloatKind.f32.format.order (hsF seed q.1 q.2 6) sh == some Ordering.lt), .int .u32 (hashTo seed q.1 q.2 7 3)]) := rfl
          have hpl : cen seed q.1 q.2 c = plI seed c q := rfl
          rw [hpl] at KC1
          generalize (boxL i j W H).take (l * W + k) = m at *
          generalize hcc : plI seed c q = cc at *
          generalize hashTo seed q.1 q.2 6 3 = h6 at *
          generalize hh7 : hashTo seed q.1 q.2 7 3 = h7 at *
          generalize hu6 : hsF seed q.1 q.2 6 = u6 at *
          have G1 : Hid (m.length + 1 ≤ maxLen) := by unfold maxLen Hid; omega
          have G2 : Hid ((m.length + 1) * 24 ≤ 140737488355328) := by unfold Hid; omega
          rw [hq1, hq2]
          have hlk2 : q.1 < i + (W : Int) := by omega
          have qb1 : q.1 ≤ 8388672 := by omega
          have qb2 : -8388608 ≤ q.1 := by omega
          clear hq hq1 hq2 hr1 hpl hcc hh7 hu6 hml
          obtain ⟨cx, cy⟩ := cc
          unfold ptV at KC1
          simp only at KC1 HQC
          go_upto_region 8 with fail
          have HS := Lib.hid HI.out.s
          unfold scC at HS
          refine wp_region_noPanic ?_
          refine wp_region_heldT (fun w' => Blk w' w.heap.size #[.int .u32 seed, .int .i64 c, .float .f32 sh, .int .i64 ap] 93) 26 (by kernel_rfl) HS.out.drew (fun hHeld => ?_)
          refine wpAnyT_takeL [] (i := 0) (v := ?_) rfl (by kernel_rfl) (by kernel_rfl) (by kernel_rfl) (by kernel_rfl) (fun _ _ _ h => h) (Or.inl ⟨by rfl, ?_⟩) (by with_reducible assumption) ?_
          rotate_left
          · intro w hSw
            have z0 := hSw.cell 0
            have z1 := hSw.cell 1
            have z2 := hSw.cell 2
            have z3 := hSw.cell 3
            simp at z0 z1 z2 z3
            clear hSw
            go_simp
            try with_reducible rfl
          try simp only [Act.put, List.setIfInBounds_toArray, List.set_cons_zero, List.set_cons_succ]
          refine wpAnyT_takeL [] (i := 1) (v := ?_) rfl (by kernel_rfl) (by kernel_rfl) (by kernel_rfl) (by kernel_rfl) (fun _ _ _ h => h) (Or.inl ⟨by rfl, ?_⟩) (by with_reducible assumption) ?_
          rotate_left
          · intro w hSw
            have z0 := hSw.cell 0
            have z1 := hSw.cell 1
            have z2 := hSw.cell 2
            have z3 := hSw.cell 3
            simp at z0 z1 z2 z3
            clear hSw
            go_simp
            try with_reducible rfl
          try simp only [Act.put, List.setIfInBounds_toArray, List.set_cons_zero, List.set_cons_succ]
          refine wpAnyT_takeL [] (i := 2) (v := ?_) rfl (by kernel_rfl) (by kernel_rfl) (by kernel_rfl) (by kernel_rfl) (fun _ _ _ h => h) (Or.inl ⟨by rfl, ?_⟩) (by with_reducible assumption) ?_
          rotate_left
          · intro w hSw
            have z0 := hSw.cell 0
            have z1 := hSw.cell 1
            have z2 := hSw.cell 2
            have z3 := hSw.cell 3
            simp at z0 z1 z2 z3
            clear hSw
            go_simp
            try with_reducible rfl
          try simp only [Act.put, List.setIfInBounds_toArray, List.set_cons_zero, List.set_cons_succ]
          refine wpAnyT_takeL [] (i := 3) (v := ?_) rfl (by kernel_rfl) (by kernel_rfl) (by kernel_rfl) (by kernel_rfl) (fun _ _ _ h => h) (Or.inl ⟨by rfl, ?_⟩) (by with_reducible assumption) ?_
          rotate_left
          · intro w hSw
            have z0 := hSw.cell 0
            have z1 := hSw.cell 1
            have z2 := hSw.cell 2
            have z3 := hSw.cell 3
            simp at z0 z1 z2 z3
            clear hSw
            go_simp
            try with_reducible rfl
          try simp only [Act.put, List.setIfInBounds_toArray, List.set_cons_zero, List.set_cons_succ]
          refine wpAnyT_takeL [] (i := 4) (v := ?_) rfl (by kernel_rfl) (by kernel_rfl) (by kernel_rfl) (by kernel_rfl) (fun _ _ _ h => h) (Or.inl ⟨by rfl, ?_⟩) (by with_reducible assumption) ?_
          rotate_left
          · intro w hSw
            have z0 := hSw.cell 0
            have z1 := hSw.cell 1
            have z2 := hSw.cell 2
            have z3 := hSw.cell 3
            simp at z0 z1 z2 z3
            clear hSw
            go_simp
            try with_reducible rfl
          try simp only [Act.put, List.setIfInBounds_toArray, List.set_cons_zero, List.set_cons_succ]
          refine wpAnyT_takeL [] (i := 5) (v := ?_) rfl (by kernel_rfl) (by kernel_rfl) (by kernel_rfl) (by kernel_rfl) (fun _ _ _ h => h) (Or.inl ⟨by rfl, ?_⟩) (by with_reducible assumption) ?_
          rotate_left
          · intro w hSw
            have z0 := hSw.cell 0
            have z1 := hSw.cell 1
            have z2 := hSw.cell 2
            have z3 := hSw.cell 3
            simp at z0 z1 z2 z3
            clear hSw
            go_simp
            try with_reducible rfl
          try simp only [Act.put, List.setIfInBounds_toArray, List.set_cons_zero, List.set_cons_succ]
          refine wpAnyT_takeL [] (i := 6) (v := ?_) rfl (by kernel_rfl) (by kernel_rfl) (by kernel_rfl) (by kernel_rfl) (fun _ _ _ h => h) (Or.inl ⟨by rfl, ?_⟩) (by with_reducible assumption) ?_
          rotate_left
          · intro w hSw
            have z0 := hSw.cell 0
            have z1 := hSw.cell 1
            have z2 := hSw.cell 2
            have z3 := hSw.cell 3
            simp at z0 z1 z2 z3
            clear hSw
            go_simp
            try with_reducible rfl
          try simp only [Act.put, List.setIfInBounds_toArray, List.set_cons_zero, List.set_cons_succ]
          refine wpAnyT_takeL [] (i := 8) (v := ?_) rfl (by kernel_rfl) (by kernel_rfl) (by kernel_rfl) (by kernel_rfl) (fun _ _ _ h => h) (Or.inl ⟨by rfl, ?_⟩) (by with_reducible assumption) ?_
          rotate_left
          · intro w hSw
            have z0 := hSw.cell 0
            have z1 := hSw.cell 1
            have z2 := hSw.cell 2
            have z3 := hSw.cell 3
            simp at z0 z1 z2 z3
            clear hSw
            go_simp
            try with_reducible rfl
          try simp only [Act.put, List.setIfInBounds_toArray, List.set_cons_zero, List.set_cons_succ]
          refine wpAnyT_takeL [] (i := 9) (v := ?_) rfl (by kernel_rfl) (by kernel_rfl) (by kernel_rfl) (by kernel_rfl) (fun _ _ _ h => h) (Or.inl ⟨by rfl, ?_⟩) (by with_reducible assumption) ?_
          rotate_left
          · intro w hSw
            have z0 := hSw.cell 0
            have z1 := hSw.cell 1
            have z2 := hSw.cell 2
            have z3 := hSw.cell 3
            simp at z0 z1 z2 z3
            clear hSw
            go_simp
            try with_reducible rfl
          try simp only [Act.put, List.setIfInBounds_toArray, List.set_cons_zero, List.set_cons_succ]
          refine wpAnyT_takeL [] (i := 10) (v := ?_) rfl (by kernel_rfl) (by kernel_rfl) (by kernel_rfl) (by kernel_rfl) (fun _ _ _ h => h) (Or.inl ⟨by rfl, ?_⟩) (by with_reducible assumption) ?_
          rotate_left
          · intro w hSw
            have z0 := hSw.cell 0
            have z1 := hSw.cell 1
            have z2 := hSw.cell 2
            have z3 := hSw.cell 3
            simp at z0 z1 z2 z3
            clear hSw
            go_simp
            try with_reducible rfl
          try simp only [Act.put, List.setIfInBounds_toArray, List.set_cons_zero, List.set_cons_succ]
          refine wpAnyT_takeL [] (i := 11) (v := ?_) rfl (by kernel_rfl) (by kernel_rfl) (by kernel_rfl) (by kernel_rfl) (fun _ _ _ h => h) (Or.inl ⟨by rfl, ?_⟩) (by with_reducible assumption) ?_
          rotate_left
          · intro w hSw
            have z0 := hSw.cell 0
            have z1 := hSw.cell 1
            have z2 := hSw.cell 2
            have z3 := hSw.cell 3
            simp at z0 z1 z2 z3
            clear hSw
            go_simp
            try with_reducible rfl
          try simp only [Act.put, List.setIfInBounds_toArray, List.set_cons_zero, List.set_cons_succ]
          refine wpAnyT_takeL [] (i := 14) (v := ?_) rfl (by kernel_rfl) (by kernel_rfl) (by kernel_rfl) (by kernel_rfl) (fun _ _ _ h => h) (Or.inl ⟨by rfl, ?_⟩) (by with_reducible assumption) ?_
          rotate_left
          · intro w hSw
            have z0 := hSw.cell 0
            have z1 := hSw.cell 1
            have z2 := hSw.cell 2
            have z3 := hSw.cell 3
            simp at z0 z1 z2 z3
            clear hSw
            go_simp
            try with_reducible rfl
          try simp only [Act.put, List.setIfInBounds_toArray, List.set_cons_zero, List.set_cons_succ]
          refine wpAnyT_takeL [] (i := 15) (v := ?_) rfl (by kernel_rfl) (by kernel_rfl) (by kernel_rfl) (by kernel_rfl) (fun _ _ _ h => h) (Or.inl ⟨by rfl, ?_⟩) (by with_reducible assumption) ?_
          rotate_left
          · intro w hSw
            have z0 := hSw.cell 0
            have z1 := hSw.cell 1
            have z2 := hSw.cell 2
            have z3 := hSw.cell 3
            simp at z0 z1 z2 z3
            clear hSw
            go_simp
            try with_reducible rfl
          try simp only [Act.put, List.setIfInBounds_toArray, List.set_cons_zero, List.set_cons_succ]
          refine wpAnyT_takeL [] (i := 17) (v := ?_) rfl (by kernel_rfl) (by kernel_rfl) (by kernel_rfl) (by kernel_rfl) (fun _ _ _ h => h) (Or.inl ⟨by rfl, ?_⟩) (by with_reducible assumption) ?_
          rotate_left
          · intro w hSw
            have z0 := hSw.cell 0
            have z1 := hSw.cell 1
            have z2 := hSw.cell 2
            have z3 := hSw.cell 3
            simp at z0 z1 z2 z3
            clear hSw
            go_simp
            try with_reducible rfl
          try simp only [Act.put, List.setIfInBounds_toArray, List.set_cons_zero, List.set_cons_succ]
          refine wpAnyT_takeL [] (i := 18) (v := ?_) rfl (by kernel_rfl) (by kernel_rfl) (by kernel_rfl) (by kernel_rfl) (fun _ _ _ h => h) (Or.inl ⟨by rfl, ?_⟩) (by with_reducible assumption) ?_
          rotate_left
          · intro w hSw
            have z0 := hSw.cell 0
            have z1 := hSw.cell 1
            have z2 := hSw.cell 2
            have z3 := hSw.cell 3
            simp at z0 z1 z2 z3
            clear hSw
            go_simp
            try with_reducible rfl
          try simp only [Act.put, List.setIfInBounds_toArray, List.set_cons_zero, List.set_cons_succ]
          refine wpAnyT_takeL [] (i := 19) (v := ?_) rfl (by kernel_rfl) (by kernel_rfl) (by kernel_rfl) (by kernel_rfl) (fun _ _ _ h => h) (Or.inl ⟨by rfl, ?_⟩) (by with_reducible assumption) ?_
          rotate_left
          · intro w hSw
            have z0 := hSw.cell 0
            have z1 := hSw.cell 1
            have z2 := hSw.cell 2
            have z3 := hSw.cell 3
            simp at z0 z1 z2 z3
            clear hSw
            go_simp
            try with_reducible rfl
          try simp only [Act.put, List.setIfInBounds_toArray, List.set_cons_zero, List.set_cons_succ]
          refine wpAnyT_takeL [] (i := 20) (v := ?_) rfl (by kernel_rfl) (by kernel_rfl) (by kernel_rfl) (by kernel_rfl) (fun _ _ _ h => h) (Or.inl ⟨by rfl, ?_⟩) (by with_reducible assumption) ?_
          rotate_left
          · intro w hSw
            have z0 := hSw.cell 0
            have z1 := hSw.cell 1
            have z2 := hSw.cell 2
            have z3 := hSw.cell 3
            simp at z0 z1 z2 z3
            clear hSw
            go_simp
            try with_reducible rfl
          try simp only [Act.put, List.setIfInBounds_toArray, List.set_cons_zero, List.set_cons_succ]
          refine wpAnyT_ready (rs := [7]) (by kernel_rfl) (by simp) ?_
          refine AllReadyT.cons rfl (fun K hK => ?_) AllReadyT.nil
          go_simp
          refine (KC1.out _).mono ?_
          rintro e w2 ⟨rfl, hb⟩
          have HI2 := Lib.hid (HI.out.drew.call hb)
          have HS2 := HI2.out.s
          unfold scC at HS2
          clear hb
          go_wp2_with fail
          refine hK.out _ _ (fun _ => HS2) (fun hS_ => ?_)
          have hHeld := hS_ (by omega)
          clear hS_ hK K
          try simp only [Act.put, List.setIfInBounds_toArray, List.set_cons_zero, List.set_cons_succ]
          refine wpAnyT_ready (rs := [12]) (by kernel_rfl) (by simp) ?_
          refine AllReadyT.cons rfl (fun K hK => ?_) AllReadyT.nil
          go_simp
          refine (KH6.out _).mono ?_
          rintro e w3 ⟨rfl, rfl⟩
          go_wp2_with fail
          refine hK.out _ _ (fun _ => HS2) (fun hS_ => ?_)
          have hHeld := hS_ (by omega)
          clear hS_ hK K
          try simp only [Act.put, List.setIfInBounds_toArray, List.set_cons_zero, List.set_cons_succ]
          refine wpAnyT_ready (rs := [13]) (by kernel_rfl) (by simp) ?_
          refine AllReadyT.cons rfl (fun K hK => ?_) AllReadyT.nil
          go_simp
          refine (KU6.out _).mono ?_
          rintro e w3 ⟨rfl, rfl⟩
          go_wp2_with fail
          refine hK.out _ _ (fun _ => HS2) (fun hS_ => ?_)
          have hHeld := hS_ (by omega)
          clear hS_ hK K
          try simp only [Act.put, List.setIfInBounds_toArray, List.set_cons_zero, List.set_cons_succ]
          refine wpAnyT_takeL [] (i := 16) (v := ?_) rfl (by kernel_rfl) (by kernel_rfl) (by kernel_rfl) (by kernel_rfl) (fun _ _ _ h => h) (Or.inl ⟨by rfl, ?_⟩) (by with_reducible assumption) ?_
          rotate_left
          · intro w hSw
            have z0 := hSw.cell 0
            have z1 := hSw.cell 1
            have z2 := hSw.cell 2
            have z3 := hSw.cell 3
            simp at z0 z1 z2 z3
            clear hSw
            go_simp
            try with_reducible rfl
          try simp only [Act.put, List.setIfInBounds_toArray, List.set_cons_zero, List.set_cons_succ]
          refine wpAnyT_ready (rs := [21]) (by kernel_rfl) (by simp) ?_
          refine AllReadyT.cons rfl (fun K hK => ?_) AllReadyT.nil
          go_simp
          refine (KH7.out _).mono ?_
          rintro e w3 ⟨rfl, rfl⟩
          go_wp2_with fail
          refine hK.out _ _ (fun _ => HS2) (fun hS_ => ?_)
          have hHeld := hS_ (by omega)
          clear hS_ hK K
          try simp only [Act.put, List.setIfInBounds_toArray, List.set_cons_zero, List.set_cons_succ]
          refine wpAnyT_takeL [] (i := 22) (v := ?_) rfl (by kernel_rfl) (by kernel_rfl) (by kernel_rfl) (by kernel_rfl) (fun _ _ _ h => h) (Or.inl ⟨by rfl, ?_⟩) (by with_reducible assumption) ?_
          rotate_left
          · intro w hSw
            have z0 := hSw.cell 0
            have z1 := hSw.cell 1
            have z2 := hSw.cell 2
            have z3 := hSw.cell 3
            simp at z0 z1 z2 z3
            clear hSw
            go_simp
            try with_reducible rfl
          try simp only [Act.put, List.setIfInBounds_toArray, List.set_cons_zero, List.set_cons_succ]
          refine wpAnyT_ready (rs := [23]) (by kernel_rfl) (by simp) ?_
          refine AllReadyT.cons rfl (fun K hK => ?_) AllReadyT.nil
          go_simp
          generalize (FloatKind.f32.format.order u6 sh == some Ordering.lt) = bb at *
          have hN := HS2.alloc (.cells #[.int .i64 cx, .int .i64 cy, .bool bb, .int .u32 h7] 182)
          have HI3 := Lib.hid (HI2.out.alloc (.cells #[.int .i64 cx, .int .i64 cy, .bool bb, .int .u32 h7] 182))
          have G3 : Hid (w.heap.size + 1 ≤ (w2.alloc (.cells #[.int .i64 cx, .int .i64 cy, .bool bb, .int .u32 h7] 182)).heap.size) := HI3.out.bz
          refine hK.out _ _ (fun _ => hN) (fun hS_ => ?_)
          have hHeld := hS_ (by omega)
          clear hS_ hK K
          try simp only [Act.put, List.setIfInBounds_toArray, List.set_cons_zero, List.set_cons_succ]
          refine wpAnyT_ready (rs := [24]) (by kernel_rfl) (by simp) ?_
          refine AllReadyT.cons rfl (fun K hK => ?_) AllReadyT.nil
          refine step_append_lies _ (by rfl) _ _ _ (by rfl) (w.heap.size + 1) 182 i0 (.agg #[.int .i64 0, .int .i64 0, .bool false, .int .u32 0]) 4 24 Try.underlying179 hi0 hz0 hz1 hz2 rfl (by omega) _ m.length (candL seed c sh m) (by rfl) HI3.out.own ⟨w2.heap.size, 0, none⟩ 1 1 [.int .i64 cx, .int .i64 cy, .bool bb, .int .u32 h7] (by rfl) (by rfl) (World.news_of_block (cs := #[.int .i64 cx, .int .i64 cy, .bool bb, .int .u32 h7]) (t := 182) (fr := (0, 0)) (heap_alloc_new w2 _)) (by simp [Value.oneCell']) (by omega) G1.out G2.out G3.out (w2.heap.size + 1) (by simp) ?_
          intro gg cap w3 hown3 hgrow3 hat3 hlt3
          have hI4 := HI3.out.app (q := q) (by rw [HQC.out]; exact hown3) hgrow3
          have HI4 := Lib.hid hI4
          have HS4 := hI4.s
          unfold scC at HS4
          clear hI4 hown3 hgrow3 hat3
          refine hK.out _ _ (fun _ => HS4) (fun hS_ => ?_)
          have hHeld := hS_ (by omega)
          clear hS_ hK K
          try simp only [Act.put, List.setIfInBounds_toArray, List.set_cons_zero, List.set_cons_succ]
          refine wpAnyT_takeL [] (i := 25) (v := ?_) rfl (by kernel_rfl) (by kernel_rfl) (by kernel_rfl) (by kernel_rfl) (fun _ _ _ h => h) (Or.inl ⟨by rfl, ?_⟩) (by with_reducible assumption) ?_
          rotate_left
          · intro w hSw
            have z0 := hSw.cell 0
            have z1 := hSw.cell 1
            have z2 := hSw.cell 2
            have z3 := hSw.cell 3
            simp at z0 z1 z2 z3
            clear hSw
            go_simp
            try with_reducible rfl
          try simp only [Act.put, List.setIfInBounds_toArray, List.set_cons_zero, List.set_cons_succ]
          refine wpAnyT_done (by kernel_rfl) ?_ _
          refine NoPanic.normal ?_
          clear hHeld HS2 HI3 HI2 HI HS4
          go_wp2_with fail
          go_roundw
          case rel => exact ⟨k + 1, _, by omega, by rw [HR1.out], rfl, HT.out ▸ HI4.out⟩
          case measure => simp [intOf]; omega
        · obtain rfl : k = W := by omega
          have HE : Hid (l * k + k = (l + 1) * k) := by unfold Hid; rw [Nat.add_mul, Nat.one_mul]
          have I2 := HI.out
          rw [HE.out] at I2
          have HI2 := Lib.hid I2
          clear I2 HI HE
          go_wp2_with fail
          go_roundw
          case rel => exact ⟨l + 1, _, by omega, by go_num, rfl, HI2.out⟩
          case measure => simp [intOf]; omega
    · obtain rfl : l = H := by omega
      have I2 := HI.out
      rw [List.take_of_length_le (by rw [HBL.out]; exact Nat.le_of_eq HNN.out.symm)] at I2
      have HI2 := Lib.hid I2
      clear I2 HI
      go_wp2_with fail
      go_ret
      exact ⟨_, rfl, by have := HI2.out.own; rw [HBL.out] at this; exact this, HI2.out.b⟩
end Go.Proofs.Ytfmbekdfigbfiaa
