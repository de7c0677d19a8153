import Derived.Test.YtnfebeebjelgbaaRepeatF
import Derived.Test.YtnfebeebjelgbaaMul
import Derived.Deep.RegionHeld3
import Derived.Laws.CopyOwn
namespace Go.Proofs.Ytnfebeebjelgbaa
open Go.ChangeShapes Go.WideShapes Go.ChangeAt Go.RowKit
open Ieee.Format (fin finE htE allFin allHt all_true all_false mulF subF addF Ht Bd divF rootF floorF easeF mixF)
set_option linter.unusedVariables false

theorem infoSz : (Try.prog.info? 37).map (·.size) = some 1 := by kernel_rfl
theorem fls_one (l : List Nat) : ∀ v ∈ fls l, v.oneCell' = true := by
  intro v hv
  unfold fls at hv
  obtain ⟨x, _, rfl⟩ := List.mem_map.1 hv
  rfl

theorem fls_splice (L cs : List Nat) (k : Nat) : splice (fls L) k (fls cs) = fls (splice L k cs) := by
  unfold splice fls
  simp [List.map_append, List.map_take, List.map_drop]
theorem fls_len (l : List Nat) : (fls l).length = l.length := by unfold fls; simp
set_option maxRecDepth 10000 in
theorem make_full_run (i0 : TypeInfo) (hi : Try.prog.info? 37 = some i0) (hz0 : i0.zero = some (.float .f32 0)) (hz1 : i0.size = 1) (hz2 : i0.bytes = 4) (N : Nat) (hN : N ≤ 4294967296) (w : World) :
    (Instr.makeSlice 34 (.int .i64 (N : Int)) (.int .i64 (N : Int))).run Try.prog w = .ok (.slice (some ⟨w.heap.size, 0, none⟩) N N) (w.alloc (.cells (fls (List.replicate N 0)).toArray 37)) := by
  have hr := run_make (P := Try.prog) w 34 37 i0 (.float .f32 0) (by rfl) hi hz0 .i64 .i64 (N : Int) (N : Int) (by omega) (Int.le_refl _) (by rw [hz2]; omega) (by omega)
  simp only [Int.toNat_natCast] at hr
  rw [hr, hz1]
  have e : madeCells (Value.cells (.float .f32 0)) (N * 1) = (fls (List.replicate N 0)).toArray := by
    apply Array.toList_inj.1
    rw [made_zero rfl]
  rw [e]
theorem srow_src {w : World} {b o : Nat} {l : List Nat} (hl : SRow w (some ⟨b, o, none⟩) l) (h0 : 0 < l.length) : ∀ j v, (fls l)[j]? = some v → w.cell? ((⟨b, o, none⟩ : Addr).add j) = some v := by
  intro j v hv
  have hj : j < l.length := by
    rcases Nat.lt_or_ge j l.length with h | h
    · exact h
    · rw [List.getElem?_eq_none (by rw [fls_len]; exact h)] at hv; cases hv
  have h1 := SRow.at_ hl hj
  unfold fls at hv
  rw [List.getElem?_map, List.getElem?_eq_getElem hj] at hv
  rw [Go.WideShapes.add_plain, h1, List.getD_eq_getElem?_getD, List.getElem?_eq_getElem hj]
  exact hv

set_option maxRecDepth 100000 in
set_option maxHeartbeats 1000000 in
theorem repeat_any (l : List Nat) (c : Nat) (b o cap : Nat) (w : World) (hl : SRow w (some ⟨b, o, none⟩) l) (h0 : 0 < l.length) (hc : 1 ≤ c) (hb : l.length * c ≤ 4294967296) :
    Calls Try.prog 35 #[.slice (some ⟨b, o, none⟩) l.length cap, .int .i64 (c : Int)] w fun e w' => e = .returned (.slice (some ⟨w.heap.size, 0, none⟩) (l.length * c) (l.length * c)) ∧ Blk w' w.heap.size (fls (repL l c)).toArray 37 ∧ Below w.heap.size w w' := by
  obtain ⟨i0, hi, hz0, hz1, hz2⟩ := info_parts info24
  have hlt := hl.1.2
  have n1 : l.length * 1 ≤ l.length * c := Nat.mul_le_mul_left _ hc
  have n2 : 1 * c ≤ l.length * c := Nat.mul_le_mul_right _ h0
  have K : Hid (∀ w, Calls Try.prog 113 #[.int .u64 (l.length : Int), .int .u64 (c : Int)] w fun e w' => e = .returned (.tuple #[.int .u64 0, .int .u64 ((l.length * c : Nat) : Int)]) ∧ w = w') := by
    intro w
    have := mulu_any l.length c (by omega) (by omega) w
    rw [Nat.div_eq_of_lt (show l.length * c < 18446744073709551616 by omega), Nat.mod_eq_of_lt (show l.length * c < 18446744073709551616 by omega)] at this
    exact this
  have R0 := Lib.hid (rep_start (l := l) (c := c) hc hlt)
  have RE := Lib.hid (fun L => rep_end (l := l) (c := c) (L := L))
  have HL := Lib.hid hl
  have p1 : (0 : Int) ≤ l.length := by omega
  have p2 : (l.length : Int) ≤ 4294967296 := by omega
  have p3 : (0 : Int) ≤ c := by omega
  have p4 : (c : Int) ≤ 4294967296 := by omega
  generalize hN : l.length * c = N at *
  have p5 : (0 : Int) ≤ N := by omega
  have p6 : (N : Int) ≤ 4294967296 := by omega
  have hNl := Lib.hid n1
  have KK := fun w => make_full_run i0 hi hz0 hz1 hz2 N (by omega) w
  have H0 := Lib.hid h0
  clear hl hlt n1 n2 hN hi hz0 hz1 hz2 h0
  have HL2 := Lib.hid ((HL.out.below (show Below w.heap.size w (w.alloc (.cells (fls (List.replicate N 0)).toArray 37)) from (by repeat (first | with_reducible exact Below.refl _ _ | with_reducible apply Below.drew | with_reducible refine below_drewN ?_ _ | (with_reducible refine Below.setCell ?_ ?_ _; rotate_left; focus (first | omega | (simp <;> omega))) | (with_reducible refine Below.alloc ?_ ?_ _; rotate_left; focus (first | omega | (simp <;> omega))))))))
  have HB2 : Hid (Below w.heap.size w (w.alloc (.cells (fls (List.replicate N 0)).toArray 37))) := Lib.hid (by repeat (first | with_reducible exact Below.refl _ _ | with_reducible apply Below.drew | with_reducible refine below_drewN ?_ _ | (with_reducible refine Below.setCell ?_ ?_ _; rotate_left; focus (first | omega | (simp <;> omega))) | (with_reducible refine Below.alloc ?_ ?_ _; rotate_left; focus (first | omega | (simp <;> omega)))))
  have HG2 : Hid ((w.alloc (.cells (fls (List.replicate N 0)).toArray 37)).heap[w.heap.size]? = some (.cells (fls (List.replicate N 0)).toArray 37 (0, 0))) := Lib.hid (heap_alloc_new w _)
  have G1 : Hid ((fls l).length = Nat.min l.length N) := Lib.hid (by rw [fls_len]; have := hNl.out; exact (Nat.min_eq_left (show l.length ≤ N by omega)).symm)
  have G2 : Hid (0 + (fls l).length ≤ (fls (List.replicate N 0)).length) := Lib.hid (by rw [fls_len, fls_len, List.length_replicate]; have := hNl.out; omega)
  go_enter Try.func35, Try.ntmps35
  go_wp2_with fail
  refine (K.out _).mono ?_
  rintro e w1 ⟨rfl, rfl⟩
  go_wp2_with (refine wpList_copy_splice rfl _ _ 34 34 rfl 37 Try.underlying34 infoSz _ _ _ _ _ _ rfl rfl w.heap.size 0 (fls (List.replicate N 0)) 37 HG2.out (fls l) G1.out (fun _ => ⟨rfl, _, rfl, srow_src HL2.out H0.out⟩) G2.out (fls_one l) w.heap.size w HB2.out (Nat.le_refl _) ?_; intro w4 hg4 hb4)
  have HG4 : Hid (Blk w4 w.heap.size (fls (splice (List.replicate N 0) 0 l)).toArray 37) := by rw [← fls_splice]; exact hg4.out
  have HB4 := Lib.hid hb4
  clear hg4 hb4 G1 G2 HG2 HB2 HL2 KK
  have hfl := fls_len l
  go_loopw [8] (fun v wr => ∃ (m : Nat) (L : List Nat), v = .int .i64 m ∧ RepAt l N m L ∧ Blk wr w.heap.size (fls L).toArray 37 ∧ Below w.heap.size w wr) (fun v _ => N - (intOf v).toNat)
  case atStart => exact ⟨l.length, _, by rw [hfl], R0.out, HG4.out, HB4.out⟩
  case round =>
    clear HG4 HB4 R0 hfl
    obtain ⟨m, L, rfl, R, G, B⟩ := hrel
    have HR := Lib.hid R
    have HG := Lib.hid G
    have HB := Lib.hid B
    have m0 : (0 : Int) ≤ m := by omega
    have m1 : (m : Int) ≤ N := by have := R.m2; omega
    have mz := R.m1
    by_cases hlt : m < N
    · have hlt2 : (m : Int) < N := by omega
      have HS := Lib.hid (rep_step R H0.out hlt)
      clear R G B
      have HZ : Hid (∀ j v, (fls (L.take (min m (N - m))))[j]? = some v → wr.cell? ((⟨w.heap.size, 0, none⟩ : Addr).add j) = some v) := by
        intro j v hv
        rw [Go.WideShapes.add_plain, Nat.zero_add, HG.out.cell j]
        unfold fls at hv ⊢
        rw [List.getElem?_map] at hv
        simp only [List.getElem?_toArray, List.getElem?_map]
        rw [List.getElem?_take] at hv
        by_cases hj : j < min m (N - m)
        · rw [if_pos hj] at hv; exact hv
        · rw [if_neg hj] at hv; simp at hv
      have hLn := HR.out.len
      have G1 : Hid ((fls (L.take (min m (N - m)))).length = Nat.min m (N - m)) := Lib.hid (by rw [fls_len, List.length_take, hLn]; show min (min m (N - m)) N = min m (N - m); omega)
      have G2 : Hid (m + (fls (L.take (min m (N - m)))).length ≤ (fls L).length) := Lib.hid (by rw [fls_len, fls_len, List.length_take, hLn]; omega)
      clear hLn
      go_wp2_with fail
      have hne : ¬ N = m := by omega
      have hwr : IntKind.i64.wrap ((m : Int) + ((fls (L.take (min m (N - m)))).length : Int)) = ((m + min m (N - m) : Nat) : Int) := by
        rw [G1.out, IntKind.wrap_i64]
        show _ = ((m + min m (N - m) : Nat) : Int)
        have : Nat.min m (N - m) = min m (N - m) := rfl
        rw [this]
        omega
      have HM : Hid (0 < min m (N - m)) := by have := H0.out; unfold Hid; omega
      go_region_held3 (fun w' => True) (trivial) (first | (refine step_copy_splice rfl _ _ 34 34 rfl 37 Try.underlying34 infoSz _ _ _ _ _ _ rfl rfl w.heap.size m (fls L) 37 HG.out (fls (L.take (min m (N - m)))) G1.out (fun _ => ⟨rfl, _, rfl, HZ.out⟩) G2.out (fls_one _) w.heap.size w HB.out.drew (Nat.le_refl _) ?_; intro w4 hg4 hb4))
      have HG5 : Hid (Blk w4 w.heap.size (fls (splice L m (L.take (min m (N - m))))).toArray 37) := by rw [← fls_splice]; exact hg4.out
      have HB5 := Lib.hid hb4
      clear hg4 hb4 hwr
      go_wp2_with fail
      go_roundw
      case rel => exact ⟨m + min m (N - m), _, by rw [Int.natCast_add], HS.out, HG5.out, HB5.out⟩
      case measure => have := HM.out; simp [intOf]; omega
    · obtain rfl : m = N := by have := R.m2; omega
      have e := RE.out L R
      subst e
      clear R G B
      go_wp2_with fail
      go_ret
      exact ⟨rfl, HG.out, HB.out⟩
end Go.Proofs.Ytnfebeebjelgbaa
