import Derived.Test.YtfmbekdfigbfiaaKScatM
import Derived.Test.YtfmbekdfigbfiaaJM
import Derived.Deep.DeepCutAuto
namespace Go.Proofs.Ytfmbekdfigbfiaa
open Go.ChangeShapes Go.WideShapes Go.ChangeAt Go.RowKit
open Ieee.Format (fin finE htE allFin allHt all_true all_false mulF subF addF Ht Bd divF rootF floorF easeF mixF)
set_option linter.unusedVariables false
open Wide

/-! ### is a candidate chosen? -/
section
variable {a : Int} {th : Int × Int → Bool} {rk : Int × Int → Int} {pl : Int × Int → Int × Int} {q : Int × Int}
theorem ch_true (h : ∀ d : Int × Int, q.1 - 2 ≤ d.1 → d.1 ≤ q.1 + 2 → q.2 - 2 ≤ d.2 → d.2 ≤ q.2 + 2 → exB a th rk pl q d = false) : chB a th rk pl q = true := by
  unfold chB
  rw [List.all_eq_true]
  intro d hd
  rw [mem_box] at hd
  rw [h d (by omega) (by omega) (by omega) (by omega)]; rfl
theorem ch_false {d : Int × Int} (h1 : q.1 - 2 ≤ d.1) (h2 : d.1 ≤ q.1 + 2) (h3 : q.2 - 2 ≤ d.2) (h4 : d.2 ≤ q.2 + 2) (h : exB a th rk pl q d = true) : chB a th rk pl q = false := by
  unfold chB
  rw [List.all_eq_false]
  exact ⟨d, mem_box.2 ⟨by omega, by omega, by omega, by omega⟩, by rw [h]; simp⟩
theorem ex_iff (a : Int) (th : Int × Int → Bool) (rk : Int × Int → Int) (pl : Int × Int → Int × Int) (q d : Int × Int) : exB a th rk pl q d = (th d && decide (d ≠ q) && befB rk q d && decide (sqI (pl q) (pl d) ≤ a * a)) := rfl
end
theorem box_atI (i j : Int) (W H : Nat) {m n : Int} (hn : 0 ≤ n) (hn2 : n < W) (hm : 0 ≤ m) (hm2 : m < H) :
    0 ≤ m * (W : Int) ∧ m * (W : Int) + n < ((H * W : Nat) : Int) ∧ (boxL i j W H)[(m * (W : Int) + n).toNat]? = some (i + n, j + m) := by
  obtain ⟨l, rfl⟩ : ∃ l : Nat, m = (l : Int) := ⟨m.toNat, by omega⟩
  obtain ⟨k, rfl⟩ : ∃ k : Nat, n = (k : Int) := ⟨n.toNat, by omega⟩
  obtain ⟨a, b⟩ := box_at i j W H l k (by omega) (by omega)
  have e : (l : Int) * (W : Int) = ((l * W : Nat) : Int) := by rw [Int.natCast_mul]
  rw [e]
  refine ⟨by omega, by omega, ?_⟩
  rw [show ((l * W : Nat) : Int) + (k : Int) = ((l * W + k : Nat) : Int) by omega, Int.toNat_natCast]
  exact b
theorem idx_ltI {m n l k W : Int} (hn : 0 ≤ n) (hn2 : n < W) (hk : 0 ≤ k) (hk2 : k < W) : (m * W + n < l * W + k ↔ (m < l ∨ m = l ∧ n < k)) ∧ (m * W + n = l * W + k ↔ m = l ∧ n = k) := by
  have hW : 0 ≤ W := by omega
  rcases Int.lt_trichotomy m l with h | h | h
  · have := Int.mul_le_mul_of_nonneg_right (show m + 1 ≤ l by omega) hW
    rw [Int.add_mul, Int.one_mul] at this
    constructor <;> constructor <;> omega
  · subst h
    constructor <;> constructor <;> omega
  · have := Int.mul_le_mul_of_nonneg_right (show l + 1 ≤ m by omega) hW
    rw [Int.add_mul, Int.one_mul] at this
    constructor <;> constructor <;> omega
theorem plI_cell {seed c : Int} (h1 : 1 ≤ c) : InCell c (plI seed c) := fun q => by
  unfold plI cen cenX cenY
  have a1 := Int.emod_nonneg (hashTo seed q.1 q.2 2 3) (show c ≠ 0 by omega)
  have a2 := Int.emod_lt_of_pos (hashTo seed q.1 q.2 2 3) (show 0 < c by omega)
  have b1 := Int.emod_nonneg (hashTo seed q.1 q.2 3 3) (show c ≠ 0 by omega)
  have b2 := Int.emod_lt_of_pos (hashTo seed q.1 q.2 3 3) (show 0 < c by omega)
  simp only
  omega
theorem pl_near {seed c : Int} (h1 : 1 ≤ c) (h2 : c ≤ 256) {q d : Int × Int} (hx : -64 ≤ q.1 - d.1 ∧ q.1 - d.1 ≤ 64) (hy : -64 ≤ q.2 - d.2 ∧ q.2 - d.2 ≤ 64) :
    (-1048576 ≤ (plI seed c q).1 - (plI seed c d).1 ∧ (plI seed c q).1 - (plI seed c d).1 ≤ 1048576) ∧ (-1048576 ≤ (plI seed c q).2 - (plI seed c d).2 ∧ (plI seed c q).2 - (plI seed c d).2 ≤ 1048576) := by
  obtain ⟨a1, a2, a3, a4⟩ := plI_cell (seed := seed) h1 q
  obtain ⟨b1, b2, b3, b4⟩ := plI_cell (seed := seed) h1 d
  have m : ∀ z : Int, -64 ≤ z → z ≤ 64 → -16384 ≤ z * c ∧ z * c ≤ 16384 := fun z z1 z2 => by
    have p := Int.mul_le_mul_of_nonneg_right z1 (show 0 ≤ c by omega)
    have r := Int.mul_le_mul_of_nonneg_right z2 (show 0 ≤ c by omega)
    omega
  have m1 := m _ hx.1 hx.2
  have m2 := m _ hy.1 hy.2
  rw [Int.sub_mul] at m1 m2
  omega
theorem pl_big {seed c : Int} (h1 : 1 ≤ c) (h2 : c ≤ 256) {q : Int × Int} (hx : -16777216 ≤ q.1 ∧ q.1 ≤ 16777216) (hy : -16777216 ≤ q.2 ∧ q.2 ≤ 16777216) :
    (-1099511627776 ≤ (plI seed c q).1 ∧ (plI seed c q).1 ≤ 1099511627776) ∧ (-1099511627776 ≤ (plI seed c q).2 ∧ (plI seed c q).2 ≤ 1099511627776) := by
  obtain ⟨a1, a2, a3, a4⟩ := plI_cell (seed := seed) h1 q
  obtain ⟨m1, m2⟩ := cen_mul hx.1 hx.2 h1 (show c ≤ 4096 by omega)
  obtain ⟨m3, m4⟩ := cen_mul hy.1 hy.2 h1 (show c ≤ 4096 by omega)
  omega
/-- a row of candidates, as it is read -/
def CanR (seed c : Int) (sh : Nat) (w : World) (g : Nat) (L : List (Int × Int)) : Prop := g < w.heap.size ∧ ∀ (n : Nat) (q : Int × Int), L[n]? = some q → ∀ t, t < 4 → w.cell? ⟨g, n * 4 + t, none⟩ = (candC seed c sh q)[t]?
theorem CanR.below {seed c : Int} {sh : Nat} {w w' : World} {g : Nat} {L : List (Int × Int)} (h : CanR seed c sh w g L) (hb : Below w.heap.size w w') : CanR seed c sh w' g L :=
  ⟨Nat.lt_of_lt_of_le h.1 hb.size, fun n q hq t ht => (hb.cell (p := ⟨g, n * 4 + t, none⟩) h.1).trans (h.2 n q hq t ht)⟩
theorem candL_get (seed c : Int) (sh : Nat) (L : List (Int × Int)) (n : Nat) (q : Int × Int) (hq : L[n]? = some q) (t : Nat) (ht : t < 4) : (candL seed c sh L)[n * 4 + t]? = (candC seed c sh q)[t]? := by
  induction L generalizing n with
  | nil => simp at hq
  | cons x L ih =>
    have hl : (candC seed c sh x).length = 4 := rfl
    have e : candL seed c sh (x :: L) = candC seed c sh x ++ candL seed c sh L := rfl
    rw [e]
    cases n with
    | zero =>
      simp only [List.getElem?_cons_zero, Option.some.injEq] at hq
      subst hq
      rw [List.getElem?_append_left (by rw [hl]; omega)]
      congr 1; omega
    | succ n =>
      rw [List.getElem?_append_right (by rw [hl]; omega), hl, show (n + 1) * 4 + t - 4 = n * 4 + t by omega]
      exact ih n (by simpa using hq)
theorem CanR.of {seed c : Int} {sh : Nat} {w : World} {B g n cap : Nat} {L : List (Int × Int)} (h : w.ownsRow B 182 4 (.slice (some ⟨g, 0, none⟩) n cap) n (candL seed c sh L)) (hn : n = L.length) : CanR seed c sh w g L := by
  refine ⟨(h.lt g rfl).2, fun m q hq t ht => ?_⟩
  have hm : m < L.length := (List.getElem?_eq_some_iff.1 hq).1
  rw [h.cellAt (m * 4 + t) (by omega)]
  exact candL_get seed c sh L m q hq t ht
/-- the memory of chosen -/
structure ChI (seed c : Int) (sh : Nat) (ap : Int) (w wr : World) (g : Nat) (L : List (Int × Int)) (q : Int × Int) : Prop where
  s : Blk wr w.heap.size (scC seed c sh ap) 93
  k : Blk wr (w.heap.size + 1) (candC seed c sh q).toArray 182
  r : CanR seed c sh wr g L
  b : Below w.heap.size w wr
section
variable {seed c : Int} {sh : Nat} {ap : Int} {w wr w2 : World} {g : Nat} {L : List (Int × Int)} {q : Int × Int}
theorem ChI.call (h : ChI seed c sh ap w wr g L q) (hb : Below wr.heap.size wr w2) : ChI seed c sh ap w w2 g L q :=
  ⟨h.s.below hb h.s.lt, h.k.below hb h.k.lt, h.r.below hb, h.b.trans (hb.mono h.b.size)⟩
theorem ChI.alloc (h : ChI seed c sh ap w wr g L q) (o : Obj) : ChI seed c sh ap w (wr.alloc o) g L q := h.call ((Below.refl _ _).alloc (Nat.le_refl _) _)
end
set_option maxRecDepth 100000 in
set_option maxHeartbeats 16000000 in
theorem chosen_any (seed c : Int) (sh : Nat) (ap i j : Int) (W H : Nat) (k l : Int) (g cap : Nat) (w : World) (h1 : 1 ≤ c) (h2 : c ≤ 256) (ha : 0 ≤ ap) (ha2 : ap ≤ 2 * c) (hW : W ≤ 64) (hH : H ≤ 64) (hi : -8388608 ≤ i) (hi2 : i ≤ 8388608) (hj : -8388608 ≤ j) (hj2 : j ≤ 8388608)
    (hk : 2 ≤ k) (hk2 : k + 2 < W) (hl : 2 ≤ l) (hl2 : l + 2 < H) (hr : CanR seed c sh w g (boxL i j W H)) (hc : H * W ≤ cap) :
    Calls Try.prog 118 #[scV seed c sh ap, .slice (some ⟨g, 0, none⟩) (H * W) cap, .int .i64 (W : Int), .int .i64 k, .int .i64 l] w fun e w' =>
      e = .returned (.bool (chB ap (thB seed sh) (rkI seed) (plI seed c) (i + k, j + l))) ∧ Below w.heap.size w w' := by
  obtain ⟨o0, o1, o2⟩ := box_atI i j W H (n := k) (m := l) (by omega) (by omega) (by omega) (by omega)
  obtain ⟨q, hq⟩ : ∃ q : Int × Int, q = (i + k, j + l) := ⟨_, rfl⟩
  rw [← hq] at o2 ⊢
  have HQ := Lib.hid hq
  clear hq
  have hWH : H * W ≤ 4096 := Nat.mul_le_mul hH hW
  have HBA := Lib.hid (fun m n hn hn2 hm hm2 => box_atI i j W H (n := n) (m := m) hn hn2 hm hm2)
  have HB0 : Hid (Below w.heap.size w (w.alloc (.cells #[.int .u32 seed, .int .i64 c, .float .f32 sh, .int .i64 ap] 93))) := Lib.hid (by repeat (first | with_reducible exact Below.refl _ _ | with_reducible apply Below.drew | with_reducible refine below_drewN ?_ _ | (with_reducible refine Below.setCell ?_ ?_ _; rotate_left; focus (first | omega | (simp <;> omega))) | (with_reducible refine Below.alloc ?_ ?_ _; rotate_left; focus (first | omega | (simp <;> omega)))))
  have HS0 : Hid (Blk (w.alloc (.cells #[.int .u32 seed, .int .i64 c, .float .f32 sh, .int .i64 ap] 93)) w.heap.size (scC seed c sh ap) 93) := Lib.hid (Blk.new _ _ _)
  have HR0 := Lib.hid (hr.below HB0.out)
  have HZ0 : Hid ((w.alloc (.cells #[.int .u32 seed, .int .i64 c, .float .f32 sh, .int .i64 ap] 93)).heap.size = w.heap.size + 1) := Lib.hid (by simp)
  have HCF := Lib.hid (fun d h1 h2 h3 h4 h => ch_false (a := ap) (th := thB seed sh) (rk := rkI seed) (pl := plI seed c) (q := q) (d := d) h1 h2 h3 h4 h)
  have HCT := Lib.hid (fun h => ch_true (a := ap) (th := thB seed sh) (rk := rkI seed) (pl := plI seed c) (q := q) h)
  obtain ⟨CB, hCB⟩ : ∃ CB, CB = chB ap (thB seed sh) (rkI seed) (plI seed c) q := ⟨_, rfl⟩
  rw [← hCB] at HCF HCT ⊢
  have HO2 := Lib.hid o2
  clear hr hCB o2
  generalize hlw : l * (W : Int) = lw at *
  generalize hNN : H * W = NN at *
  have HNN := Lib.hid hNN
  have k0 : 0 ≤ lw + k := by omega
  have hic : lw + k < (NN : Int) := o1
  clear hNN
  obtain ⟨qx, hqx⟩ : ∃ z, z = (plI seed c q).1 := ⟨_, rfl⟩
  obtain ⟨qy, hqy⟩ : ∃ z, z = (plI seed c q).2 := ⟨_, rfl⟩
  obtain ⟨tq, htq⟩ : ∃ z, z = thB seed sh q := ⟨_, rfl⟩
  obtain ⟨rq, hrq⟩ : ∃ z, z = rkI seed q := ⟨_, rfl⟩
  have HCQ : Hid (candC seed c sh q = [.int .i64 qx, .int .i64 qy, .bool tq, .int .u32 rq]) := by rw [hqx, hqy, htq, hrq]; rfl
  have HPQ : Hid (plI seed c q = (qx, qy)) := by rw [hqx, hqy]; rfl
  have HRKQ := Lib.hid hrq
  clear hqx hqy htq hrq
  unfold scV scC
  go_enter Try.func118, Try.ntmps118
  go_upto_region 1 with fail
  generalize w.alloc (.cells #[.int .u32 seed, .int .i64 c, .float .f32 sh, .int .i64 ap] 93) = W0 at *
  have cz := fun t ht => HR0.out.2 _ q HO2.out t ht
  have c0 := cz 0 (by omega)
  have c1 := cz 1 (by omega)
  have c2 := cz 2 (by omega)
  have c3 := cz 3 (by omega)
  rw [HCQ.out] at c0 c1 c2 c3
  simp only [List.getElem?_cons_zero, List.getElem?_cons_succ, Nat.add_zero] at c0 c1 c2 c3
  have HK1 : Hid (Blk (W0.alloc (.cells #[.int .i64 qx, .int .i64 qy, .bool tq, .int .u32 rq] 182)) (w.heap.size + 1) (candC seed c sh q).toArray 182) := Lib.hid (by rw [← HZ0.out, HCQ.out]; exact Blk.new _ _ _)
  have HB1 : Hid (Below W0.heap.size W0 (W0.alloc (.cells #[.int .i64 qx, .int .i64 qy, .bool tq, .int .u32 rq] 182))) := Lib.hid (by repeat (first | with_reducible exact Below.refl _ _ | with_reducible apply Below.drew | with_reducible refine below_drewN ?_ _ | (with_reducible refine Below.setCell ?_ ?_ _; rotate_left; focus (first | omega | (simp <;> omega))) | (with_reducible refine Below.alloc ?_ ?_ _; rotate_left; focus (first | omega | (simp <;> omega)))))
  have HI1 : Hid (ChI seed c sh ap w (W0.alloc (.cells #[.int .i64 qx, .int .i64 qy, .bool tq, .int .u32 rq] 182)) g (boxL i j W H) q) :=
    Lib.hid ⟨HS0.out.below HB1.out HS0.out.lt, HK1.out, HR0.out.below HB1.out, HB0.out.trans (HB1.out.mono HB0.out.size)⟩
  clear cz
  go_upto_region 3 with fail
  generalize hW1 : W0.alloc (.cells #[.int .i64 qx, .int .i64 qy, .bool tq, .int .u32 rq] 182) = W1 at *
  rw [HZ0.out]
  clear hW1 HK1 HB1 HB0 HS0 HR0 HZ0 HO2 c0 c1 c2 c3
  go_upto_region 4 with fail
  go_loopw [13, 14, 15, 16, 17] (fun mv _ _ _ _ wr => ∃ m : Int, l - 2 ≤ m ∧ m ≤ l + 3 ∧ mv = .int .i64 m ∧ (∀ x y : Int, l - 2 ≤ y → y < m → k - 2 ≤ x → x ≤ k + 2 → exB ap (thB seed sh) (rkI seed) (plI seed c) q (i + x, j + y) = false) ∧ ChI seed c sh ap w wr g (boxL i j W H) q) (fun mv _ _ _ _ _ => (l + 3 - intOf mv).toNat)
  case atStart => exact ⟨l - 2, by omega, by omega, by go_num, fun x y a b => absurd b (by omega), HI1.out⟩
  case round =>
    clear HI1
    obtain ⟨m, hm1, hm2, rfl, hE, I⟩ := hrel
    have HE := Lib.hid hE
    have HI := Lib.hid I
    clear I hE
    by_cases hlt : m ≤ l + 2
    · go_upto_region 7 with fail
      go_loopw [14, 15, 16, 17] (fun nv _ _ _ wr => ∃ n : Int, k - 2 ≤ n ∧ n ≤ k + 3 ∧ nv = .int .i64 n ∧ (∀ x : Int, k - 2 ≤ x → x < n → exB ap (thB seed sh) (rkI seed) (plI seed c) q (i + x, j + m) = false) ∧ ChI seed c sh ap w wr g (boxL i j W H) q) (fun nv _ _ _ _ => (k + 3 - intOf nv).toNat)
      case atStart => exact ⟨k - 2, by omega, by omega, by go_num, fun x a b => absurd b (by omega), HI.out⟩
      case round =>
        clear HI
        obtain ⟨n, hn1, hn2, rfl, hE2, I⟩ := hrel
        have HE2 := Lib.hid hE2
        have HI := Lib.hid I
        clear I hE2
        by_cases hltn : n ≤ k + 2
        · obtain ⟨p0, p1, p2⟩ := HBA.out m n (by omega) (by omega) (by omega) (by omega)
          obtain ⟨d, hd⟩ : ∃ d : Int × Int, d = (i + n, j + m) := ⟨_, rfl⟩
          obtain ⟨ix1, ix2⟩ := idx_ltI (m := m) (n := n) (l := l) (k := k) (W := (W : Int)) (by omega) (by omega) (by omega) (by omega)
          have hlt3 : ltC d q ↔ m * (W : Int) + n < l * (W : Int) + k := by
            rw [ix1, hd, HQ.out]; unfold ltC; simp only; omega
          have heq3 : d = q ↔ m * (W : Int) + n = l * (W : Int) + k := by
            rw [ix2, hd, HQ.out, Prod.ext_iff]; simp only; omega
          rw [hlw] at hlt3 heq3
          rw [← hd] at p2
          generalize hmw : m * (W : Int) = mw at *
          have cz := fun t ht => HI.out.r.2 _ d p2 t ht
          have c0 := cz 0 (by omega)
          have c1 := cz 1 (by omega)
          have c2 := cz 2 (by omega)
          have c3 := cz 3 (by omega)
          unfold candC at c0 c1 c2 c3
          simp only [List.getElem?_cons_zero, List.getElem?_cons_succ, Nat.add_zero] at c0 c1 c2 c3
          have HX : Hid (exB ap (thB seed sh) (rkI seed) (plI seed c) q d = (thB seed sh d && decide (d ≠ q) && befB (rkI seed) q d && decide (sqI (qx, qy) (plI seed c d) ≤ ap * ap))) := by
            unfold exB; rw [HPQ.out]; rfl
          have HBF : Hid (befB (rkI seed) q d = decide (rkI seed d < rq ∨ rkI seed d = rq ∧ mw + n < lw + k)) := by
            rw [HRKQ.out]
            unfold befB Hid; simp only [hlt3]
          have HEQ := Lib.hid heq3
          have HD := Lib.hid hd
          have HIN : Hid (q.1 - 2 ≤ d.1 ∧ d.1 ≤ q.1 + 2 ∧ q.2 - 2 ≤ d.2 ∧ d.2 ≤ q.2 + 2) := by
            unfold Hid; rw [hd, HQ.out]; simp only; omega
          have hkq := HI.out.k
          rw [HCQ.out] at hkq
          have HKQ := Lib.hid hkq
          clear hkq
          have hg := HI.out.r.1
          have hnr := pl_near (seed := seed) h1 h2 (q := q) (d := d) (by rw [hd, HQ.out]; simp only; omega) (by rw [hd, HQ.out]; simp only; omega)
          have hbg := pl_big (seed := seed) h1 h2 (q := d) (by rw [hd]; simp only; omega) (by rw [hd]; simp only; omega)
          have KS := Lib.hid (fun w => square1_any (plI seed c q) (plI seed c d) w hnr.1 hnr.2 hbg.1 hbg.2)
          rw [HPQ.out] at KS
          have i1 : 0 ≤ mw + n := by omega
          clear cz p2 hd hlt3 heq3 ix1 ix2 hnr hbg
          have HRQ : Hid (mw + n = lw + k → rkI seed d = rq) := fun h => by rw [HEQ.out.2 h, HRKQ.out]
          go_upto_region 11 with fail
          have hI2 := HI.out.alloc (.cells #[.int .i64 (plI seed c d).1, .int .i64 (plI seed c d).2, .bool (thB seed sh d), .int .u32 (rkI seed d)] 182)
          have hD2 := Blk.new wr #[.int .i64 (plI seed c d).1, .int .i64 (plI seed c d).2, .bool (thB seed sh d), .int .u32 (rkI seed d)] 182
          generalize wr.alloc (.cells #[.int .i64 (plI seed c d).1, .int .i64 (plI seed c d).2, .bool (thB seed sh d), .int .u32 (rkI seed d)] 182) = W2 at *
          have HI2 := Lib.hid hI2
          have hK2 := hI2.k
          have hS2 := hI2.s
          rw [HCQ.out] at hK2
          unfold scC at hS2
          have HB2 := Lib.hid (And.intro hS2 (And.intro hK2 hD2))
          clear hI2 hK2 hS2 hD2 c0 c1 c2 c3 HI HKQ hg
          obtain ⟨fb, hfb⟩ : ∃ fb, fb = befB (rkI seed) q d := ⟨_, rfl⟩
          rw [← hfb] at HX HBF
          clear hfb
          generalize rkI seed d = rd at *
          generalize thB seed sh d = td at *
          have HPD : Hid (∃ S, S = sqI (qx, qy) (plI seed c d)) := ⟨_, rfl⟩
          obtain ⟨S, hS⟩ := HPD.out
          rw [← hS] at KS HX
          clear hS
          generalize plI seed c d = pd at *
          obtain ⟨dx, dy⟩ := pd
          generalize wr.heap.size = kd at *
          unfold ptV at KS
          simp only at HB2 KS
          obtain ⟨a2, ha2'⟩ : ∃ a2, a2 = ap * ap := ⟨_, rfl⟩
          have hA2 : 0 ≤ ap * ap ∧ ap * ap ≤ 262144 := by
            have := sq_nn ap
            have := sq_le_of (a := ap) (m := 512) (by omega) (by omega)
            omega
          have e2 : ap * ap = a2 := ha2'.symm
          rw [e2] at hA2 HX
          clear ha2'
          have y3 := HB2.out.2.1.cell 3
          have x3 := HB2.out.2.2.cell 3
          simp at x3 y3
          rcases Int.lt_trichotomy rd rq with h | h | h
          · have hf : Hid (fb = true) := HBF.out.trans (decide_eq_true (.inl h))
            have heq5 : ¬ mw + n = lw + k := fun e => by have := HRQ.out e; omega
            go_upto_region 12 with fail
            clear x3 y3
            have hbn : (mw + n != lw + k) = true := by simpa using heq5
            cases td with
            | false =>
              have HX2 : Hid (exB ap (thB seed sh) (rkI seed) (plI seed c) q d = false) := by
                rw [HX.out]; unfold Hid; simp
              refine wp_region_noPanic ?_
              refine wp_region_heldT (fun w' => Blk w' w.heap.size #[.int .u32 seed, .int .i64 c, .float .f32 sh, .int .i64 ap] 93 ∧ Blk w' (w.heap.size + 1) #[.int .i64 qx, .int .i64 qy, .bool tq, .int .u32 rq] 182 ∧ Blk w' kd #[.int .i64 dx, .int .i64 dy, .bool false, .int .u32 rd] 182) 23 (by kernel_rfl) ⟨HB2.out.1.drew, HB2.out.2.1.drew, HB2.out.2.2.drew⟩ (fun hHeld => ?_)
              refine wpAnyT_takeL [] (i := 0) (v := ?_) rfl (by kernel_rfl) (by kernel_rfl) (by kernel_rfl) (by kernel_rfl) (fun _ _ _ h => h) (Or.inl ⟨by kernel_rfl, ?_⟩) (by with_reducible assumption) ?_
              rotate_left
              · intro w hSw
                have z3 := hSw.1.cell 3
                have y0 := hSw.2.1.cell 0
                have y1 := hSw.2.1.cell 1
                have x0 := hSw.2.2.cell 0
                have x1 := hSw.2.2.cell 1
                have x2 := hSw.2.2.cell 2
                simp at z3 y0 y1 x0 x1 x2
                clear hSw
                go_simp
                try with_reducible rfl
              try simp only [Act.put, List.setIfInBounds_toArray, List.set_cons_zero, List.set_cons_succ]
              refine wpAnyT_takeL [] (i := 1) (v := ?_) rfl (by kernel_rfl) (by kernel_rfl) (by kernel_rfl) (by kernel_rfl) (fun _ _ _ h => h) (Or.inl ⟨by kernel_rfl, ?_⟩) (by with_reducible assumption) ?_
              rotate_left
              · intro w hSw
                have z3 := hSw.1.cell 3
                have y0 := hSw.2.1.cell 0
                have y1 := hSw.2.1.cell 1
                have x0 := hSw.2.2.cell 0
                have x1 := hSw.2.2.cell 1
                have x2 := hSw.2.2.cell 2
                simp at z3 y0 y1 x0 x1 x2
                clear hSw
                go_simp
                try with_reducible rfl
              try simp only [Act.put, List.setIfInBounds_toArray, List.set_cons_zero, List.set_cons_succ]
              refine wpAnyT_takeL [] (i := 2) (v := ?_) rfl (by kernel_rfl) (by kernel_rfl) (by kernel_rfl) (by kernel_rfl) (fun _ _ _ h => h) (Or.inl ⟨by kernel_rfl, ?_⟩) (by with_reducible assumption) ?_
              rotate_left
              · intro w hSw
                have z3 := hSw.1.cell 3
                have y0 := hSw.2.1.cell 0
                have y1 := hSw.2.1.cell 1
                have x0 := hSw.2.2.cell 0
                have x1 := hSw.2.2.cell 1
                have x2 := hSw.2.2.cell 2
                simp at z3 y0 y1 x0 x1 x2
                clear hSw
                go_simp
                try with_reducible rfl
              try simp only [Act.put, List.setIfInBounds_toArray, List.set_cons_zero, List.set_cons_succ]
              try simp only [hbn]
              refine wpAnyT_takeL [] (i := 3) (v := ?_) rfl (by kernel_rfl) (by kernel_rfl) (by kernel_rfl) (by kernel_rfl) (fun _ _ _ h => h) (Or.inl ⟨by kernel_rfl, ?_⟩) (by with_reducible assumption) ?_
              rotate_left
              · intro w hSw
                have z3 := hSw.1.cell 3
                have y0 := hSw.2.1.cell 0
                have y1 := hSw.2.1.cell 1
                have x0 := hSw.2.2.cell 0
                have x1 := hSw.2.2.cell 1
                have x2 := hSw.2.2.cell 2
                simp at z3 y0 y1 x0 x1 x2
                clear hSw
                go_simp
                try with_reducible rfl
              try simp only [Act.put, List.setIfInBounds_toArray, List.set_cons_zero, List.set_cons_succ]
              refine wpAnyT_takeL [] (i := 4) (v := ?_) rfl (by kernel_rfl) (by kernel_rfl) (by kernel_rfl) (by kernel_rfl) (fun _ _ _ h => h) (Or.inl ⟨by kernel_rfl, ?_⟩) (by with_reducible assumption) ?_
              rotate_left
              · intro w hSw
                have z3 := hSw.1.cell 3
                have y0 := hSw.2.1.cell 0
                have y1 := hSw.2.1.cell 1
                have x0 := hSw.2.2.cell 0
                have x1 := hSw.2.2.cell 1
                have x2 := hSw.2.2.cell 2
                simp at z3 y0 y1 x0 x1 x2
                clear hSw
                go_simp
                try with_reducible rfl
              try simp only [Act.put, List.setIfInBounds_toArray, List.set_cons_zero, List.set_cons_succ]
              refine wpAnyT_takeL [] (i := 5) (v := ?_) rfl (by kernel_rfl) (by kernel_rfl) (by kernel_rfl) (by kernel_rfl) (fun _ _ _ h => h) (Or.inl ⟨by kernel_rfl, ?_⟩) (by with_reducible assumption) ?_
              rotate_left
              · intro w hSw
                have z3 := hSw.1.cell 3
                have y0 := hSw.2.1.cell 0
                have y1 := hSw.2.1.cell 1
                have x0 := hSw.2.2.cell 0
                have x1 := hSw.2.2.cell 1
                have x2 := hSw.2.2.cell 2
                simp at z3 y0 y1 x0 x1 x2
                clear hSw
                go_simp
                try with_reducible rfl
              try simp only [Act.put, List.setIfInBounds_toArray, List.set_cons_zero, List.set_cons_succ]
              refine wpAnyT_takeL [] (i := 6) (v := ?_) rfl (by kernel_rfl) (by kernel_rfl) (by kernel_rfl) (by kernel_rfl) (fun _ _ _ h => h) (Or.inl ⟨by kernel_rfl, ?_⟩) (by with_reducible assumption) ?_
              rotate_left
              · intro w hSw
                have z3 := hSw.1.cell 3
                have y0 := hSw.2.1.cell 0
                have y1 := hSw.2.1.cell 1
                have x0 := hSw.2.2.cell 0
                have x1 := hSw.2.2.cell 1
                have x2 := hSw.2.2.cell 2
                simp at z3 y0 y1 x0 x1 x2
                clear hSw
                go_simp
                try with_reducible rfl
              try simp only [Act.put, List.setIfInBounds_toArray, List.set_cons_zero, List.set_cons_succ]
              refine wpAnyT_takeL [] (i := 7) (v := ?_) rfl (by kernel_rfl) (by kernel_rfl) (by kernel_rfl) (by kernel_rfl) (fun _ _ _ h => h) (Or.inl ⟨by kernel_rfl, ?_⟩) (by with_reducible assumption) ?_
              rotate_left
              · intro w hSw
                have z3 := hSw.1.cell 3
                have y0 := hSw.2.1.cell 0
                have y1 := hSw.2.1.cell 1
                have x0 := hSw.2.2.cell 0
                have x1 := hSw.2.2.cell 1
                have x2 := hSw.2.2.cell 2
                simp at z3 y0 y1 x0 x1 x2
                clear hSw
                go_simp
                try with_reducible rfl
              try simp only [Act.put, List.setIfInBounds_toArray, List.set_cons_zero, List.set_cons_succ]
              refine wpAnyT_takeL [] (i := 8) (v := undef) rfl (by kernel_rfl) (by kernel_rfl) (by kernel_rfl) (by kernel_rfl) (fun _ _ _ h => h) (Or.inr ⟨by kernel_rfl, rfl⟩) (by with_reducible assumption) ?_
              try simp only [Act.put, List.setIfInBounds_toArray, List.set_cons_zero, List.set_cons_succ]
              refine wpAnyT_takeL [] (i := 9) (v := ?_) rfl (by kernel_rfl) (by kernel_rfl) (by kernel_rfl) (by kernel_rfl) (fun _ _ _ h => h) (Or.inl ⟨by kernel_rfl, ?_⟩) (by with_reducible assumption) ?_
              rotate_left
              · intro w hSw
                have z3 := hSw.1.cell 3
                have y0 := hSw.2.1.cell 0
                have y1 := hSw.2.1.cell 1
                have x0 := hSw.2.2.cell 0
                have x1 := hSw.2.2.cell 1
                have x2 := hSw.2.2.cell 2
                simp at z3 y0 y1 x0 x1 x2
                clear hSw
                go_simp
                try with_reducible rfl
              try simp only [Act.put, List.setIfInBounds_toArray, List.set_cons_zero, List.set_cons_succ]
              refine wpAnyT_takeL [] (i := 10) (v := ?_) rfl (by kernel_rfl) (by kernel_rfl) (by kernel_rfl) (by kernel_rfl) (fun _ _ _ h => h) (Or.inl ⟨by kernel_rfl, ?_⟩) (by with_reducible assumption) ?_
              rotate_left
              · intro w hSw
                have z3 := hSw.1.cell 3
                have y0 := hSw.2.1.cell 0
                have y1 := hSw.2.1.cell 1
                have x0 := hSw.2.2.cell 0
                have x1 := hSw.2.2.cell 1
                have x2 := hSw.2.2.cell 2
                simp at z3 y0 y1 x0 x1 x2
                clear hSw
                go_simp
                try with_reducible rfl
              try simp only [Act.put, List.setIfInBounds_toArray, List.set_cons_zero, List.set_cons_succ]
              refine wpAnyT_takeL [] (i := 11) (v := undef) rfl (by kernel_rfl) (by kernel_rfl) (by kernel_rfl) (by kernel_rfl) (fun _ _ _ h => h) (Or.inr ⟨by kernel_rfl, rfl⟩) (by with_reducible assumption) ?_
              try simp only [Act.put, List.setIfInBounds_toArray, List.set_cons_zero, List.set_cons_succ]
              refine wpAnyT_takeL [] (i := 12) (v := undef) rfl (by kernel_rfl) (by kernel_rfl) (by kernel_rfl) (by kernel_rfl) (fun _ _ _ h => h) (Or.inr ⟨by kernel_rfl, rfl⟩) (by with_reducible assumption) ?_
              try simp only [Act.put, List.setIfInBounds_toArray, List.set_cons_zero, List.set_cons_succ]
              refine wpAnyT_takeL [] (i := 13) (v := undef) rfl (by kernel_rfl) (by kernel_rfl) (by kernel_rfl) (by kernel_rfl) (fun _ _ _ h => h) (Or.inr ⟨by kernel_rfl, rfl⟩) (by with_reducible assumption) ?_
              try simp only [Act.put, List.setIfInBounds_toArray, List.set_cons_zero, List.set_cons_succ]
              refine wpAnyT_takeL [] (i := 14) (v := undef) rfl (by kernel_rfl) (by kernel_rfl) (by kernel_rfl) (by kernel_rfl) (fun _ _ _ h => h) (Or.inr ⟨by kernel_rfl, rfl⟩) (by with_reducible assumption) ?_
              try simp only [Act.put, List.setIfInBounds_toArray, List.set_cons_zero, List.set_cons_succ]
              refine wpAnyT_takeL [] (i := 15) (v := undef) rfl (by kernel_rfl) (by kernel_rfl) (by kernel_rfl) (by kernel_rfl) (fun _ _ _ h => h) (Or.inr ⟨by kernel_rfl, rfl⟩) (by with_reducible assumption) ?_
              try simp only [Act.put, List.setIfInBounds_toArray, List.set_cons_zero, List.set_cons_succ]
              refine wpAnyT_takeL [] (i := 16) (v := undef) rfl (by kernel_rfl) (by kernel_rfl) (by kernel_rfl) (by kernel_rfl) (fun _ _ _ h => h) (Or.inr ⟨by kernel_rfl, rfl⟩) (by with_reducible assumption) ?_
              try simp only [Act.put, List.setIfInBounds_toArray, List.set_cons_zero, List.set_cons_succ]
              refine wpAnyT_takeL [] (i := 17) (v := undef) rfl (by kernel_rfl) (by kernel_rfl) (by kernel_rfl) (by kernel_rfl) (fun _ _ _ h => h) (Or.inr ⟨by kernel_rfl, rfl⟩) (by with_reducible assumption) ?_
              try simp only [Act.put, List.setIfInBounds_toArray, List.set_cons_zero, List.set_cons_succ]
              refine wpAnyT_takeL [] (i := 18) (v := undef) rfl (by kernel_rfl) (by kernel_rfl) (by kernel_rfl) (by kernel_rfl) (fun _ _ _ h => h) (Or.inr ⟨by kernel_rfl, rfl⟩) (by with_reducible assumption) ?_
              try simp only [Act.put, List.setIfInBounds_toArray, List.set_cons_zero, List.set_cons_succ]
              refine wpAnyT_takeL [] (i := 19) (v := undef) rfl (by kernel_rfl) (by kernel_rfl) (by kernel_rfl) (by kernel_rfl) (fun _ _ _ h => h) (Or.inr ⟨by kernel_rfl, rfl⟩) (by with_reducible assumption) ?_
              try simp only [Act.put, List.setIfInBounds_toArray, List.set_cons_zero, List.set_cons_succ]
              refine wpAnyT_takeL [] (i := 20) (v := undef) rfl (by kernel_rfl) (by kernel_rfl) (by kernel_rfl) (by kernel_rfl) (fun _ _ _ h => h) (Or.inr ⟨by kernel_rfl, rfl⟩) (by with_reducible assumption) ?_
              try simp only [Act.put, List.setIfInBounds_toArray, List.set_cons_zero, List.set_cons_succ]
              refine wpAnyT_takeL [] (i := 21) (v := undef) rfl (by kernel_rfl) (by kernel_rfl) (by kernel_rfl) (by kernel_rfl) (fun _ _ _ h => h) (Or.inr ⟨by kernel_rfl, rfl⟩) (by with_reducible assumption) ?_
              try simp only [Act.put, List.setIfInBounds_toArray, List.set_cons_zero, List.set_cons_succ]
              refine wpAnyT_takeL [] (i := 22) (v := ?_) rfl (by kernel_rfl) (by kernel_rfl) (by kernel_rfl) (by kernel_rfl) (fun _ _ _ h => h) (Or.inl ⟨by kernel_rfl, ?_⟩) (by with_reducible assumption) ?_
              rotate_left
              · intro w hSw
                have z3 := hSw.1.cell 3
                have y0 := hSw.2.1.cell 0
                have y1 := hSw.2.1.cell 1
                have x0 := hSw.2.2.cell 0
                have x1 := hSw.2.2.cell 1
                have x2 := hSw.2.2.cell 2
                simp at z3 y0 y1 x0 x1 x2
                clear hSw
                go_simp
                try with_reducible rfl
              try simp only [Act.put, List.setIfInBounds_toArray, List.set_cons_zero, List.set_cons_succ]
              refine wpAnyT_done (by kernel_rfl) ?_ _
              refine NoPanic.normal ?_
              clear hHeld
              have HI3 := Lib.hid (HI2.out.call (Below.refl _ _).drew)
              have HXF : Hid (exB ap (thB seed sh) (rkI seed) (plI seed c) q (i + n, j + m) = false) := by rw [← HD.out]; exact HX2.out
              go_wp2_with fail
              go_roundw
              case rel =>
                exact ⟨n + 1, by omega, by omega, by go_num, fun x a b => by
                  by_cases hx : x = n
                  · subst hx; exact HXF.out
                  · exact HE2.out x a (by omega), HI3.out⟩
              case measure => simp [intOf]; omega
            | true =>
              by_cases hle : S ≤ a2
              · have hdec : decide (S ≤ a2) = true := decide_eq_true hle
                have HLE := Lib.hid hle
                refine wp_region_noPanic ?_
                refine wp_region_heldT (fun w' => Blk w' w.heap.size #[.int .u32 seed, .int .i64 c, .float .f32 sh, .int .i64 ap] 93 ∧ Blk w' (w.heap.size + 1) #[.int .i64 qx, .int .i64 qy, .bool tq, .int .u32 rq] 182 ∧ Blk w' kd #[.int .i64 dx, .int .i64 dy, .bool true, .int .u32 rd] 182) 23 (by kernel_rfl) ⟨HB2.out.1.drew, HB2.out.2.1.drew, HB2.out.2.2.drew⟩ (fun hHeld => ?_)
                refine wpAnyT_takeL [] (i := 0) (v := ?_) rfl (by kernel_rfl) (by kernel_rfl) (by kernel_rfl) (by kernel_rfl) (fun _ _ _ h => h) (Or.inl ⟨by kernel_rfl, ?_⟩) (by with_reducible assumption) ?_
                rotate_left
                · intro w hSw
                  have z3 := hSw.1.cell 3
                  have y0 := hSw.2.1.cell 0
                  have y1 := hSw.2.1.cell 1
                  have x0 := hSw.2.2.cell 0
                  have x1 := hSw.2.2.cell 1
                  have x2 := hSw.2.2.cell 2
                  simp at z3 y0 y1 x0 x1 x2
                  clear hSw
                  go_simp
                  try with_reducible rfl
                try simp only [Act.put, List.setIfInBounds_toArray, List.set_cons_zero, List.set_cons_succ]
                refine wpAnyT_takeL [] (i := 1) (v := ?_) rfl (by kernel_rfl) (by kernel_rfl) (by kernel_rfl) (by kernel_rfl) (fun _ _ _ h => h) (Or.inl ⟨by kernel_rfl, ?_⟩) (by with_reducible assumption) ?_
                rotate_left
                · intro w hSw
                  have z3 := hSw.1.cell 3
                  have y0 := hSw.2.1.cell 0
                  have y1 := hSw.2.1.cell 1
                  have x0 := hSw.2.2.cell 0
                  have x1 := hSw.2.2.cell 1
                  have x2 := hSw.2.2.cell 2
                  simp at z3 y0 y1 x0 x1 x2
                  clear hSw
                  go_simp
                  try with_reducible rfl
                try simp only [Act.put, List.setIfInBounds_toArray, List.set_cons_zero, List.set_cons_succ]
                refine wpAnyT_takeL [] (i := 2) (v := ?_) rfl (by kernel_rfl) (by kernel_rfl) (by kernel_rfl) (by kernel_rfl) (fun _ _ _ h => h) (Or.inl ⟨by kernel_rfl, ?_⟩) (by with_reducible assumption) ?_
                rotate_left
                · intro w hSw
                  have z3 := hSw.1.cell 3
                  have y0 := hSw.2.1.cell 0
                  have y1 := hSw.2.1.cell 1
                  have x0 := hSw.2.2.cell 0
                  have x1 := hSw.2.2.cell 1
                  have x2 := hSw.2.2.cell 2
                  simp at z3 y0 y1 x0 x1 x2
                  clear hSw
                  go_simp
                  try with_reducible rfl
                try simp only [Act.put, List.setIfInBounds_toArray, List.set_cons_zero, List.set_cons_succ]
                try simp only [hbn]
                refine wpAnyT_takeL [] (i := 3) (v := ?_) rfl (by kernel_rfl) (by kernel_rfl) (by kernel_rfl) (by kernel_rfl) (fun _ _ _ h => h) (Or.inl ⟨by kernel_rfl, ?_⟩) (by with_reducible assumption) ?_
                rotate_left
                · intro w hSw
                  have z3 := hSw.1.cell 3
                  have y0 := hSw.2.1.cell 0
                  have y1 := hSw.2.1.cell 1
                  have x0 := hSw.2.2.cell 0
                  have x1 := hSw.2.2.cell 1
                  have x2 := hSw.2.2.cell 2
                  simp at z3 y0 y1 x0 x1 x2
                  clear hSw
                  go_simp
                  try with_reducible rfl
                try simp only [Act.put, List.setIfInBounds_toArray, List.set_cons_zero, List.set_cons_succ]
                refine wpAnyT_takeL [] (i := 4) (v := ?_) rfl (by kernel_rfl) (by kernel_rfl) (by kernel_rfl) (by kernel_rfl) (fun _ _ _ h => h) (Or.inl ⟨by kernel_rfl, ?_⟩) (by with_reducible assumption) ?_
                rotate_left
                · intro w hSw
                  have z3 := hSw.1.cell 3
                  have y0 := hSw.2.1.cell 0
                  have y1 := hSw.2.1.cell 1
                  have x0 := hSw.2.2.cell 0
                  have x1 := hSw.2.2.cell 1
                  have x2 := hSw.2.2.cell 2
                  simp at z3 y0 y1 x0 x1 x2
                  clear hSw
                  go_simp
                  try with_reducible rfl
                try simp only [Act.put, List.setIfInBounds_toArray, List.set_cons_zero, List.set_cons_succ]
                refine wpAnyT_takeL [] (i := 5) (v := ?_) rfl (by kernel_rfl) (by kernel_rfl) (by kernel_rfl) (by kernel_rfl) (fun _ _ _ h => h) (Or.inl ⟨by kernel_rfl, ?_⟩) (by with_reducible assumption) ?_
                rotate_left
                · intro w hSw
                  have z3 := hSw.1.cell 3
                  have y0 := hSw.2.1.cell 0
                  have y1 := hSw.2.1.cell 1
                  have x0 := hSw.2.2.cell 0
                  have x1 := hSw.2.2.cell 1
                  have x2 := hSw.2.2.cell 2
                  simp at z3 y0 y1 x0 x1 x2
                  clear hSw
                  go_simp
                  try with_reducible rfl
                try simp only [Act.put, List.setIfInBounds_toArray, List.set_cons_zero, List.set_cons_succ]
                refine wpAnyT_takeL [] (i := 6) (v := ?_) rfl (by kernel_rfl) (by kernel_rfl) (by kernel_rfl) (by kernel_rfl) (fun _ _ _ h => h) (Or.inl ⟨by kernel_rfl, ?_⟩) (by with_reducible assumption) ?_
                rotate_left
                · intro w hSw
                  have z3 := hSw.1.cell 3
                  have y0 := hSw.2.1.cell 0
                  have y1 := hSw.2.1.cell 1
                  have x0 := hSw.2.2.cell 0
                  have x1 := hSw.2.2.cell 1
                  have x2 := hSw.2.2.cell 2
                  simp at z3 y0 y1 x0 x1 x2
                  clear hSw
                  go_simp
                  try with_reducible rfl
                try simp only [Act.put, List.setIfInBounds_toArray, List.set_cons_zero, List.set_cons_succ]
                refine wpAnyT_takeL [] (i := 7) (v := ?_) rfl (by kernel_rfl) (by kernel_rfl) (by kernel_rfl) (by kernel_rfl) (fun _ _ _ h => h) (Or.inl ⟨by kernel_rfl, ?_⟩) (by with_reducible assumption) ?_
                rotate_left
                · intro w hSw
                  have z3 := hSw.1.cell 3
                  have y0 := hSw.2.1.cell 0
                  have y1 := hSw.2.1.cell 1
                  have x0 := hSw.2.2.cell 0
                  have x1 := hSw.2.2.cell 1
                  have x2 := hSw.2.2.cell 2
                  simp at z3 y0 y1 x0 x1 x2
                  clear hSw
                  go_simp
                  try with_reducible rfl
                try simp only [Act.put, List.setIfInBounds_toArray, List.set_cons_zero, List.set_cons_succ]
                refine wpAnyT_takeL [] (i := 8) (v := ?_) rfl (by kernel_rfl) (by kernel_rfl) (by kernel_rfl) (by kernel_rfl) (fun _ _ _ h => h) (Or.inl ⟨by kernel_rfl, ?_⟩) (by with_reducible assumption) ?_
                rotate_left
                · intro w hSw
                  have z3 := hSw.1.cell 3
                  have y0 := hSw.2.1.cell 0
                  have y1 := hSw.2.1.cell 1
                  have x0 := hSw.2.2.cell 0
                  have x1 := hSw.2.2.cell 1
                  have x2 := hSw.2.2.cell 2
                  simp at z3 y0 y1 x0 x1 x2
                  clear hSw
                  go_simp
                  try with_reducible rfl
                try simp only [Act.put, List.setIfInBounds_toArray, List.set_cons_zero, List.set_cons_succ]
                refine wpAnyT_takeL [] (i := 9) (v := ?_) rfl (by kernel_rfl) (by kernel_rfl) (by kernel_rfl) (by kernel_rfl) (fun _ _ _ h => h) (Or.inl ⟨by kernel_rfl, ?_⟩) (by with_reducible assumption) ?_
                rotate_left
                · intro w hSw
                  have z3 := hSw.1.cell 3
                  have y0 := hSw.2.1.cell 0
                  have y1 := hSw.2.1.cell 1
                  have x0 := hSw.2.2.cell 0
                  have x1 := hSw.2.2.cell 1
                  have x2 := hSw.2.2.cell 2
                  simp at z3 y0 y1 x0 x1 x2
                  clear hSw
                  go_simp
                  try with_reducible rfl
                try simp only [Act.put, List.setIfInBounds_toArray, List.set_cons_zero, List.set_cons_succ]
                refine wpAnyT_takeL [] (i := 10) (v := ?_) rfl (by kernel_rfl) (by kernel_rfl) (by kernel_rfl) (by kernel_rfl) (fun _ _ _ h => h) (Or.inl ⟨by kernel_rfl, ?_⟩) (by with_reducible assumption) ?_
                rotate_left
                · intro w hSw
                  have z3 := hSw.1.cell 3
                  have y0 := hSw.2.1.cell 0
                  have y1 := hSw.2.1.cell 1
                  have x0 := hSw.2.2.cell 0
                  have x1 := hSw.2.2.cell 1
                  have x2 := hSw.2.2.cell 2
                  simp at z3 y0 y1 x0 x1 x2
                  clear hSw
                  go_simp
                  try with_reducible rfl
                try simp only [Act.put, List.setIfInBounds_toArray, List.set_cons_zero, List.set_cons_succ]
                refine wpAnyT_takeL [] (i := 11) (v := ?_) rfl (by kernel_rfl) (by kernel_rfl) (by kernel_rfl) (by kernel_rfl) (fun _ _ _ h => h) (Or.inl ⟨by kernel_rfl, ?_⟩) (by with_reducible assumption) ?_
                rotate_left
                · intro w hSw
                  have z3 := hSw.1.cell 3
                  have y0 := hSw.2.1.cell 0
                  have y1 := hSw.2.1.cell 1
                  have x0 := hSw.2.2.cell 0
                  have x1 := hSw.2.2.cell 1
                  have x2 := hSw.2.2.cell 2
                  simp at z3 y0 y1 x0 x1 x2
                  clear hSw
                  go_simp
                  try with_reducible rfl
                try simp only [Act.put, List.setIfInBounds_toArray, List.set_cons_zero, List.set_cons_succ]
                refine wpAnyT_takeL [] (i := 12) (v := ?_) rfl (by kernel_rfl) (by kernel_rfl) (by kernel_rfl) (by kernel_rfl) (fun _ _ _ h => h) (Or.inl ⟨by kernel_rfl, ?_⟩) (by with_reducible assumption) ?_
                rotate_left
                · intro w hSw
                  have z3 := hSw.1.cell 3
                  have y0 := hSw.2.1.cell 0
                  have y1 := hSw.2.1.cell 1
                  have x0 := hSw.2.2.cell 0
                  have x1 := hSw.2.2.cell 1
                  have x2 := hSw.2.2.cell 2
                  simp at z3 y0 y1 x0 x1 x2
                  clear hSw
                  go_simp
                  try with_reducible rfl
                try simp only [Act.put, List.setIfInBounds_toArray, List.set_cons_zero, List.set_cons_succ]
                refine wpAnyT_takeL [] (i := 13) (v := ?_) rfl (by kernel_rfl) (by kernel_rfl) (by kernel_rfl) (by kernel_rfl) (fun _ _ _ h => h) (Or.inl ⟨by kernel_rfl, ?_⟩) (by with_reducible assumption) ?_
                rotate_left
                · intro w hSw
                  have z3 := hSw.1.cell 3
                  have y0 := hSw.2.1.cell 0
                  have y1 := hSw.2.1.cell 1
                  have x0 := hSw.2.2.cell 0
                  have x1 := hSw.2.2.cell 1
                  have x2 := hSw.2.2.cell 2
                  simp at z3 y0 y1 x0 x1 x2
                  clear hSw
                  go_simp
                  try with_reducible rfl
                try simp only [Act.put, List.setIfInBounds_toArray, List.set_cons_zero, List.set_cons_succ]
                refine wpAnyT_takeL [] (i := 14) (v := ?_) rfl (by kernel_rfl) (by kernel_rfl) (by kernel_rfl) (by kernel_rfl) (fun _ _ _ h => h) (Or.inl ⟨by kernel_rfl, ?_⟩) (by with_reducible assumption) ?_
                rotate_left
                · intro w hSw
                  have z3 := hSw.1.cell 3
                  have y0 := hSw.2.1.cell 0
                  have y1 := hSw.2.1.cell 1
                  have x0 := hSw.2.2.cell 0
                  have x1 := hSw.2.2.cell 1
                  have x2 := hSw.2.2.cell 2
                  simp at z3 y0 y1 x0 x1 x2
                  clear hSw
                  go_simp
                  try with_reducible rfl
                try simp only [Act.put, List.setIfInBounds_toArray, List.set_cons_zero, List.set_cons_succ]
                refine wpAnyT_takeL [] (i := 16) (v := ?_) rfl (by kernel_rfl) (by kernel_rfl) (by kernel_rfl) (by kernel_rfl) (fun _ _ _ h => h) (Or.inl ⟨by kernel_rfl, ?_⟩) (by with_reducible assumption) ?_
                rotate_left
                · intro w hSw
                  have z3 := hSw.1.cell 3
                  have y0 := hSw.2.1.cell 0
                  have y1 := hSw.2.1.cell 1
                  have x0 := hSw.2.2.cell 0
                  have x1 := hSw.2.2.cell 1
                  have x2 := hSw.2.2.cell 2
                  simp at z3 y0 y1 x0 x1 x2
                  clear hSw
                  go_simp
                  try with_reducible rfl
                try simp only [Act.put, List.setIfInBounds_toArray, List.set_cons_zero, List.set_cons_succ]
                refine wpAnyT_takeL [] (i := 17) (v := ?_) rfl (by kernel_rfl) (by kernel_rfl) (by kernel_rfl) (by kernel_rfl) (fun _ _ _ h => h) (Or.inl ⟨by kernel_rfl, ?_⟩) (by with_reducible assumption) ?_
                rotate_left
                · intro w hSw
                  have z3 := hSw.1.cell 3
                  have y0 := hSw.2.1.cell 0
                  have y1 := hSw.2.1.cell 1
                  have x0 := hSw.2.2.cell 0
                  have x1 := hSw.2.2.cell 1
                  have x2 := hSw.2.2.cell 2
                  simp at z3 y0 y1 x0 x1 x2
                  clear hSw
                  go_simp
                  try with_reducible rfl
                try simp only [Act.put, List.setIfInBounds_toArray, List.set_cons_zero, List.set_cons_succ]
                refine wpAnyT_takeL [] (i := 18) (v := ?_) rfl (by kernel_rfl) (by kernel_rfl) (by kernel_rfl) (by kernel_rfl) (fun _ _ _ h => h) (Or.inl ⟨by kernel_rfl, ?_⟩) (by with_reducible assumption) ?_
                rotate_left
                · intro w hSw
                  have z3 := hSw.1.cell 3
                  have y0 := hSw.2.1.cell 0
                  have y1 := hSw.2.1.cell 1
                  have x0 := hSw.2.2.cell 0
                  have x1 := hSw.2.2.cell 1
                  have x2 := hSw.2.2.cell 2
                  simp at z3 y0 y1 x0 x1 x2
                  clear hSw
                  go_simp
                  try with_reducible rfl
                try simp only [Act.put, List.setIfInBounds_toArray, List.set_cons_zero, List.set_cons_succ]
                refine wpAnyT_takeL [] (i := 19) (v := ?_) rfl (by kernel_rfl) (by kernel_rfl) (by kernel_rfl) (by kernel_rfl) (fun _ _ _ h => h) (Or.inl ⟨by kernel_rfl, ?_⟩) (by with_reducible assumption) ?_
                rotate_left
                · intro w hSw
                  have z3 := hSw.1.cell 3
                  have y0 := hSw.2.1.cell 0
                  have y1 := hSw.2.1.cell 1
                  have x0 := hSw.2.2.cell 0
                  have x1 := hSw.2.2.cell 1
                  have x2 := hSw.2.2.cell 2
                  simp at z3 y0 y1 x0 x1 x2
                  clear hSw
                  go_simp
                  try with_reducible rfl
                try simp only [Act.put, List.setIfInBounds_toArray, List.set_cons_zero, List.set_cons_succ]
                refine wpAnyT_takeL [] (i := 20) (v := ?_) rfl (by kernel_rfl) (by kernel_rfl) (by kernel_rfl) (by kernel_rfl) (fun _ _ _ h => h) (Or.inl ⟨by kernel_rfl, ?_⟩) (by with_reducible assumption) ?_
                rotate_left
                · intro w hSw
                  have z3 := hSw.1.cell 3
                  have y0 := hSw.2.1.cell 0
                  have y1 := hSw.2.1.cell 1
                  have x0 := hSw.2.2.cell 0
                  have x1 := hSw.2.2.cell 1
                  have x2 := hSw.2.2.cell 2
                  simp at z3 y0 y1 x0 x1 x2
                  clear hSw
                  go_simp
                  try with_reducible rfl
                try simp only [Act.put, List.setIfInBounds_toArray, List.set_cons_zero, List.set_cons_succ]
                refine wpAnyT_ready (rs := [15]) (by kernel_rfl) (by simp) ?_
                refine AllReadyT.cons rfl (fun K hK => ?_) AllReadyT.nil
                go_simp
                refine (KS.out _).mono ?_
                rintro e w5 ⟨rfl, hb⟩
                have HI3 := Lib.hid ((HI2.out.call (Below.refl _ _).drew).call hb)
                have hS5 := And.intro (hHeld.1.below hb hHeld.1.lt) (And.intro (hHeld.2.1.below hb hHeld.2.1.lt) (hHeld.2.2.below hb hHeld.2.2.lt))
                clear hb
                go_wp2_with fail
                refine hK.out _ _ (fun _ => hS5) (fun hS_ => ?_)
                have hHeld := hS_ (by omega)
                clear hS_ hK K
                try simp only [Act.put, List.setIfInBounds_toArray, List.set_cons_zero, List.set_cons_succ]
                refine wpAnyT_takeL [] (i := 21) (v := ?_) rfl (by kernel_rfl) (by kernel_rfl) (by kernel_rfl) (by kernel_rfl) (fun _ _ _ h => h) (Or.inl ⟨by kernel_rfl, ?_⟩) (by with_reducible assumption) ?_
                rotate_left
                · intro w hSw
                  have z3 := hSw.1.cell 3
                  have y0 := hSw.2.1.cell 0
                  have y1 := hSw.2.1.cell 1
                  have x0 := hSw.2.2.cell 0
                  have x1 := hSw.2.2.cell 1
                  have x2 := hSw.2.2.cell 2
                  simp at z3 y0 y1 x0 x1 x2
                  clear hSw
                  go_simp
                  try with_reducible rfl
                try simp only [Act.put, List.setIfInBounds_toArray, List.set_cons_zero, List.set_cons_succ]
                refine wpAnyT_takeL [] (i := 22) (v := ?_) rfl (by kernel_rfl) (by kernel_rfl) (by kernel_rfl) (by kernel_rfl) (fun _ _ _ h => h) (Or.inl ⟨by kernel_rfl, ?_⟩) (by with_reducible assumption) ?_
                rotate_left
                · intro w hSw
                  have z3 := hSw.1.cell 3
                  have y0 := hSw.2.1.cell 0
                  have y1 := hSw.2.1.cell 1
                  have x0 := hSw.2.2.cell 0
                  have x1 := hSw.2.2.cell 1
                  have x2 := hSw.2.2.cell 2
                  simp at z3 y0 y1 x0 x1 x2
                  clear hSw
                  go_simp
                  try with_reducible rfl
                try simp only [Act.put, List.setIfInBounds_toArray, List.set_cons_zero, List.set_cons_succ]
                refine wpAnyT_done (by kernel_rfl) ?_ _
                refine NoPanic.normal ?_
                clear hHeld hS5
                have hwa : IntKind.i64.wrap a2 = a2 := IntWalk.i64_in _ (by omega)
                have hwb : wrap64 a2 = a2 := by unfold wrap64; omega
                try simp only [hwa, hwb, hdec]
                have HC : Hid (CB = false) := HCF.out d HIN.out.1 HIN.out.2.1 HIN.out.2.2.1 HIN.out.2.2.2 (by
                  rw [HX.out, hf.out, decide_eq_true HLE.out, decide_eq_true (show d ≠ q from fun h => heq5 (HEQ.out.1 h))]; rfl)
                go_wp2_with fail
                go_ret
                exact ⟨by rw [HC.out]; rfl, HI3.out.b⟩
              · have hdec : decide (S ≤ a2) = false := decide_eq_false (show ¬ S ≤ a2 by omega)
                have HLE := Lib.hid hle
                refine wp_region_noPanic ?_
                refine wp_region_heldT (fun w' => Blk w' w.heap.size #[.int .u32 seed, .int .i64 c, .float .f32 sh, .int .i64 ap] 93 ∧ Blk w' (w.heap.size + 1) #[.int .i64 qx, .int .i64 qy, .bool tq, .int .u32 rq] 182 ∧ Blk w' kd #[.int .i64 dx, .int .i64 dy, .bool true, .int .u32 rd] 182) 23 (by kernel_rfl) ⟨HB2.out.1.drew, HB2.out.2.1.drew, HB2.out.2.2.drew⟩ (fun hHeld => ?_)
                refine wpAnyT_takeL [] (i := 0) (v := ?_) rfl (by kernel_rfl) (by kernel_rfl) (by kernel_rfl) (by kernel_rfl) (fun _ _ _ h => h) (Or.inl ⟨by kernel_rfl, ?_⟩) (by with_reducible assumption) ?_
                rotate_left
                · intro w hSw
                  have z3 := hSw.1.cell 3
                  have y0 := hSw.2.1.cell 0
                  have y1 := hSw.2.1.cell 1
                  have x0 := hSw.2.2.cell 0
                  have x1 := hSw.2.2.cell 1
                  have x2 := hSw.2.2.cell 2
                  simp at z3 y0 y1 x0 x1 x2
                  clear hSw
                  go_simp
                  try with_reducible rfl
                try simp only [Act.put, List.setIfInBounds_toArray, List.set_cons_zero, List.set_cons_succ]
                refine wpAnyT_takeL [] (i := 1) (v := ?_) rfl (by kernel_rfl) (by kernel_rfl) (by kernel_rfl) (by kernel_rfl) (fun _ _ _ h => h) (Or.inl ⟨by kernel_rfl, ?_⟩) (by with_reducible assumption) ?_
                rotate_left
                · intro w hSw
                  have z3 := hSw.1.cell 3
                  have y0 := hSw.2.1.cell 0
                  have y1 := hSw.2.1.cell 1
                  have x0 := hSw.2.2.cell 0
                  have x1 := hSw.2.2.cell 1
                  have x2 := hSw.2.2.cell 2
                  simp at z3 y0 y1 x0 x1 x2
                  clear hSw
                  go_simp
                  try with_reducible rfl
                try simp only [Act.put, List.setIfInBounds_toArray, List.set_cons_zero, List.set_cons_succ]
                refine wpAnyT_takeL [] (i := 2) (v := ?_) rfl (by kernel_rfl) (by kernel_rfl) (by kernel_rfl) (by kernel_rfl) (fun _ _ _ h => h) (Or.inl ⟨by kernel_rfl, ?_⟩) (by with_reducible assumption) ?_
                rotate_left
                · intro w hSw
                  have z3 := hSw.1.cell 3
                  have y0 := hSw.2.1.cell 0
                  have y1 := hSw.2.1.cell 1
                  have x0 := hSw.2.2.cell 0
                  have x1 := hSw.2.2.cell 1
                  have x2 := hSw.2.2.cell 2
                  simp at z3 y0 y1 x0 x1 x2
                  clear hSw
                  go_simp
                  try with_reducible rfl
                try simp only [Act.put, List.setIfInBounds_toArray, List.set_cons_zero, List.set_cons_succ]
                try simp only [hbn]
                refine wpAnyT_takeL [] (i := 3) (v := ?_) rfl (by kernel_rfl) (by kernel_rfl) (by kernel_rfl) (by kernel_rfl) (fun _ _ _ h => h) (Or.inl ⟨by kernel_rfl, ?_⟩) (by with_reducible assumption) ?_
                rotate_left
                · intro w hSw
                  have z3 := hSw.1.cell 3
                  have y0 := hSw.2.1.cell 0
                  have y1 := hSw.2.1.cell 1
                  have x0 := hSw.2.2.cell 0
                  have x1 := hSw.2.2.cell 1
                  have x2 := hSw.2.2.cell 2
                  simp at z3 y0 y1 x0 x1 x2
                  clear hSw
                  go_simp
                  try with_reducible rfl
                try simp only [Act.put, List.setIfInBounds_toArray, List.set_cons_zero, List.set_cons_succ]
                refine wpAnyT_takeL [] (i := 4) (v := ?_) rfl (by kernel_rfl) (by kernel_rfl) (by kernel_rfl) (by kernel_rfl) (fun _ _ _ h => h) (Or.inl ⟨by kernel_rfl, ?_⟩) (by with_reducible assumption) ?_
                rotate_left
                · intro w hSw
                  have z3 := hSw.1.cell 3
                  have y0 := hSw.2.1.cell 0
                  have y1 := hSw.2.1.cell 1
                  have x0 := hSw.2.2.cell 0
                  have x1 := hSw.2.2.cell 1
                  have x2 := hSw.2.2.cell 2
                  simp at z3 y0 y1 x0 x1 x2
                  clear hSw
                  go_simp
                  try with_reducible rfl
                try simp only [Act.put, List.setIfInBounds_toArray, List.set_cons_zero, List.set_cons_succ]
                refine wpAnyT_takeL [] (i := 5) (v := ?_) rfl (by kernel_rfl) (by kernel_rfl) (by kernel_rfl) (by kernel_rfl) (fun _ _ _ h => h) (Or.inl ⟨by kernel_rfl, ?_⟩) (by with_reducible assumption) ?_
                rotate_left
                · intro w hSw
                  have z3 := hSw.1.cell 3
                  have y0 := hSw.2.1.cell 0
                  have y1 := hSw.2.1.cell 1
                  have x0 := hSw.2.2.cell 0
                  have x1 := hSw.2.2.cell 1
                  have x2 := hSw.2.2.cell 2
                  simp at z3 y0 y1 x0 x1 x2
                  clear hSw
                  go_simp
                  try with_reducible rfl
                try simp only [Act.put, List.setIfInBounds_toArray, List.set_cons_zero, List.set_cons_succ]
                refine wpAnyT_takeL [] (i := 6) (v := ?_) rfl (by kernel_rfl) (by kernel_rfl) (by kernel_rfl) (by kernel_rfl) (fun _ _ _ h => h) (Or.inl ⟨by kernel_rfl, ?_⟩) (by with_reducible assumption) ?_
                rotate_left
                · intro w hSw
                  have z3 := hSw.1.cell 3
                  have y0 := hSw.2.1.cell 0
                  have y1 := hSw.2.1.cell 1
                  have x0 := hSw.2.2.cell 0
                  have x1 := hSw.2.2.cell 1
                  have x2 := hSw.2.2.cell 2
                  simp at z3 y0 y1 x0 x1 x2
                  clear hSw
                  go_simp
                  try with_reducible rfl
                try simp only [Act.put, List.setIfInBounds_toArray, List.set_cons_zero, List.set_cons_succ]
                refine wpAnyT_takeL [] (i := 7) (v := ?_) rfl (by kernel_rfl) (by kernel_rfl) (by kernel_rfl) (by kernel_rfl) (fun _ _ _ h => h) (Or.inl ⟨by kernel_rfl, ?_⟩) (by with_reducible assumption) ?_
                rotate_left
                · intro w hSw
                  have z3 := hSw.1.cell 3
                  have y0 := hSw.2.1.cell 0
                  have y1 := hSw.2.1.cell 1
                  have x0 := hSw.2.2.cell 0
                  have x1 := hSw.2.2.cell 1
                  have x2 := hSw.2.2.cell 2
                  simp at z3 y0 y1 x0 x1 x2
                  clear hSw
                  go_simp
                  try with_reducible rfl
                try simp only [Act.put, List.setIfInBounds_toArray, List.set_cons_zero, List.set_cons_succ]
                refine wpAnyT_takeL [] (i := 8) (v := ?_) rfl (by kernel_rfl) (by kernel_rfl) (by kernel_rfl) (by kernel_rfl) (fun _ _ _ h => h) (Or.inl ⟨by kernel_rfl, ?_⟩) (by with_reducible assumption) ?_
                rotate_left
                · intro w hSw
                  have z3 := hSw.1.cell 3
                  have y0 := hSw.2.1.cell 0
                  have y1 := hSw.2.1.cell 1
                  have x0 := hSw.2.2.cell 0
                  have x1 := hSw.2.2.cell 1
                  have x2 := hSw.2.2.cell 2
                  simp at z3 y0 y1 x0 x1 x2
                  clear hSw
                  go_simp
                  try with_reducible rfl
                try simp only [Act.put, List.setIfInBounds_toArray, List.set_cons_zero, List.set_cons_succ]
                refine wpAnyT_takeL [] (i := 9) (v := ?_) rfl (by kernel_rfl) (by kernel_rfl) (by kernel_rfl) (by kernel_rfl) (fun _ _ _ h => h) (Or.inl ⟨by kernel_rfl, ?_⟩) (by with_reducible assumption) ?_
                rotate_left
                · intro w hSw
                  have z3 := hSw.1.cell 3
                  have y0 := hSw.2.1.cell 0
                  have y1 := hSw.2.1.cell 1
                  have x0 := hSw.2.2.cell 0
                  have x1 := hSw.2.2.cell 1
                  have x2 := hSw.2.2.cell 2
                  simp at z3 y0 y1 x0 x1 x2
                  clear hSw
                  go_simp
                  try with_reducible rfl
                try simp only [Act.put, List.setIfInBounds_toArray, List.set_cons_zero, List.set_cons_succ]
                refine wpAnyT_takeL [] (i := 10) (v := ?_) rfl (by kernel_rfl) (by kernel_rfl) (by kernel_rfl) (by kernel_rfl) (fun _ _ _ h => h) (Or.inl ⟨by kernel_rfl, ?_⟩) (by with_reducible assumption) ?_
                rotate_left
                · intro w hSw
                  have z3 := hSw.1.cell 3
                  have y0 := hSw.2.1.cell 0
                  have y1 := hSw.2.1.cell 1
                  have x0 := hSw.2.2.cell 0
                  have x1 := hSw.2.2.cell 1
                  have x2 := hSw.2.2.cell 2
                  simp at z3 y0 y1 x0 x1 x2
                  clear hSw
                  go_simp
                  try with_reducible rfl
                try simp only [Act.put, List.setIfInBounds_toArray, List.set_cons_zero, List.set_cons_succ]
                refine wpAnyT_takeL [] (i := 11) (v := ?_) rfl (by kernel_rfl) (by kernel_rfl) (by kernel_rfl) (by kernel_rfl) (fun _ _ _ h => h) (Or.inl ⟨by kernel_rfl, ?_⟩) (by with_reducible assumption) ?_
                rotate_left
                · intro w hSw
                  have z3 := hSw.1.cell 3
                  have y0 := hSw.2.1.cell 0
                  have y1 := hSw.2.1.cell 1
                  have x0 := hSw.2.2.cell 0
                  have x1 := hSw.2.2.cell 1
                  have x2 := hSw.2.2.cell 2
                  simp at z3 y0 y1 x0 x1 x2
                  clear hSw
                  go_simp
                  try with_reducible rfl
                try simp only [Act.put, List.setIfInBounds_toArray, List.set_cons_zero, List.set_cons_succ]
                refine wpAnyT_takeL [] (i := 12) (v := ?_) rfl (by kernel_rfl) (by kernel_rfl) (by kernel_rfl) (by kernel_rfl) (fun _ _ _ h => h) (Or.inl ⟨by kernel_rfl, ?_⟩) (by with_reducible assumption) ?_
                rotate_left
                · intro w hSw
                  have z3 := hSw.1.cell 3
                  have y0 := hSw.2.1.cell 0
                  have y1 := hSw.2.1.cell 1
                  have x0 := hSw.2.2.cell 0
                  have x1 := hSw.2.2.cell 1
                  have x2 := hSw.2.2.cell 2
                  simp at z3 y0 y1 x0 x1 x2
                  clear hSw
                  go_simp
                  try with_reducible rfl
                try simp only [Act.put, List.setIfInBounds_toArray, List.set_cons_zero, List.set_cons_succ]
                refine wpAnyT_takeL [] (i := 13) (v := ?_) rfl (by kernel_rfl) (by kernel_rfl) (by kernel_rfl) (by kernel_rfl) (fun _ _ _ h => h) (Or.inl ⟨by kernel_rfl, ?_⟩) (by with_reducible assumption) ?_
                rotate_left
                · intro w hSw
                  have z3 := hSw.1.cell 3
                  have y0 := hSw.2.1.cell 0
                  have y1 := hSw.2.1.cell 1
                  have x0 := hSw.2.2.cell 0
                  have x1 := hSw.2.2.cell 1
                  have x2 := hSw.2.2.cell 2
                  simp at z3 y0 y1 x0 x1 x2
                  clear hSw
                  go_simp
                  try with_reducible rfl
                try simp only [Act.put, List.setIfInBounds_toArray, List.set_cons_zero, List.set_cons_succ]
                refine wpAnyT_takeL [] (i := 14) (v := ?_) rfl (by kernel_rfl) (by kernel_rfl) (by kernel_rfl) (by kernel_rfl) (fun _ _ _ h => h) (Or.inl ⟨by kernel_rfl, ?_⟩) (by with_reducible assumption) ?_
                rotate_left
                · intro w hSw
                  have z3 := hSw.1.cell 3
                  have y0 := hSw.2.1.cell 0
                  have y1 := hSw.2.1.cell 1
                  have x0 := hSw.2.2.cell 0
                  have x1 := hSw.2.2.cell 1
                  have x2 := hSw.2.2.cell 2
                  simp at z3 y0 y1 x0 x1 x2
                  clear hSw
                  go_simp
                  try with_reducible rfl
                try simp only [Act.put, List.setIfInBounds_toArray, List.set_cons_zero, List.set_cons_succ]
                refine wpAnyT_takeL [] (i := 16) (v := ?_) rfl (by kernel_rfl) (by kernel_rfl) (by kernel_rfl) (by kernel_rfl) (fun _ _ _ h => h) (Or.inl ⟨by kernel_rfl, ?_⟩) (by with_reducible assumption) ?_
                rotate_left
                · intro w hSw
                  have z3 := hSw.1.cell 3
                  have y0 := hSw.2.1.cell 0
                  have y1 := hSw.2.1.cell 1
                  have x0 := hSw.2.2.cell 0
                  have x1 := hSw.2.2.cell 1
                  have x2 := hSw.2.2.cell 2
                  simp at z3 y0 y1 x0 x1 x2
                  clear hSw
                  go_simp
                  try with_reducible rfl
                try simp only [Act.put, List.setIfInBounds_toArray, List.set_cons_zero, List.set_cons_succ]
                refine wpAnyT_takeL [] (i := 17) (v := ?_) rfl (by kernel_rfl) (by kernel_rfl) (by kernel_rfl) (by kernel_rfl) (fun _ _ _ h => h) (Or.inl ⟨by kernel_rfl, ?_⟩) (by with_reducible assumption) ?_
                rotate_left
                · intro w hSw
                  have z3 := hSw.1.cell 3
                  have y0 := hSw.2.1.cell 0
                  have y1 := hSw.2.1.cell 1
                  have x0 := hSw.2.2.cell 0
                  have x1 := hSw.2.2.cell 1
                  have x2 := hSw.2.2.cell 2
                  simp at z3 y0 y1 x0 x1 x2
                  clear hSw
                  go_simp
                  try with_reducible rfl
                try simp only [Act.put, List.setIfInBounds_toArray, List.set_cons_zero, List.set_cons_succ]
                refine wpAnyT_takeL [] (i := 18) (v := ?_) rfl (by kernel_rfl) (by kernel_rfl) (by kernel_rfl) (by kernel_rfl) (fun _ _ _ h => h) (Or.inl ⟨by kernel_rfl, ?_⟩) (by with_reducible assumption) ?_
                rotate_left
                · intro w hSw
                  have z3 := hSw.1.cell 3
                  have y0 := hSw.2.1.cell 0
                  have y1 := hSw.2.1.cell 1
                  have x0 := hSw.2.2.cell 0
                  have x1 := hSw.2.2.cell 1
                  have x2 := hSw.2.2.cell 2
                  simp at z3 y0 y1 x0 x1 x2
                  clear hSw
                  go_simp
                  try with_reducible rfl
                try simp only [Act.put, List.setIfInBounds_toArray, List.set_cons_zero, List.set_cons_succ]
                refine wpAnyT_takeL [] (i := 19) (v := ?_) rfl (by kernel_rfl) (by kernel_rfl) (by kernel_rfl) (by kernel_rfl) (fun _ _ _ h => h) (Or.inl ⟨by kernel_rfl, ?_⟩) (by with_reducible assumption) ?_
                rotate_left
                · intro w hSw
                  have z3 := hSw.1.cell 3
                  have y0 := hSw.2.1.cell 0
                  have y1 := hSw.2.1.cell 1
                  have x0 := hSw.2.2.cell 0
                  have x1 := hSw.2.2.cell 1
                  have x2 := hSw.2.2.cell 2
                  simp at z3 y0 y1 x0 x1 x2
                  clear hSw
                  go_simp
                  try with_reducible rfl
                try simp only [Act.put, List.setIfInBounds_toArray, List.set_cons_zero, List.set_cons_succ]
                refine wpAnyT_takeL [] (i := 20) (v := ?_) rfl (by kernel_rfl) (by kernel_rfl) (by kernel_rfl) (by kernel_rfl) (fun _ _ _ h => h) (Or.inl ⟨by kernel_rfl, ?_⟩) (by with_reducible assumption) ?_
                rotate_left
                · intro w hSw
                  have z3 := hSw.1.cell 3
                  have y0 := hSw.2.1.cell 0
                  have y1 := hSw.2.1.cell 1
                  have x0 := hSw.2.2.cell 0
                  have x1 := hSw.2.2.cell 1
                  have x2 := hSw.2.2.cell 2
                  simp at z3 y0 y1 x0 x1 x2
                  clear hSw
                  go_simp
                  try with_reducible rfl
                try simp only [Act.put, List.setIfInBounds_toArray, List.set_cons_zero, List.set_cons_succ]
                refine wpAnyT_ready (rs := [15]) (by kernel_rfl) (by simp) ?_
                refine AllReadyT.cons rfl (fun K hK => ?_) AllReadyT.nil
                go_simp
                refine (KS.out _).mono ?_
                rintro e w5 ⟨rfl, hb⟩
                have HI3 := Lib.hid ((HI2.out.call (Below.refl _ _).drew).call hb)
                have hS5 := And.intro (hHeld.1.below hb hHeld.1.lt) (And.intro (hHeld.2.1.below hb hHeld.2.1.lt) (hHeld.2.2.below hb hHeld.2.2.lt))
                clear hb
                go_wp2_with fail
                refine hK.out _ _ (fun _ => hS5) (fun hS_ => ?_)
                have hHeld := hS_ (by omega)
                clear hS_ hK K
                try simp only [Act.put, List.setIfInBounds_toArray, List.set_cons_zero, List.set_cons_succ]
                refine wpAnyT_takeL [] (i := 21) (v := ?_) rfl (by kernel_rfl) (by kernel_rfl) (by kernel_rfl) (by kernel_rfl) (fun _ _ _ h => h) (Or.inl ⟨by kernel_rfl, ?_⟩) (by with_reducible assumption) ?_
                rotate_left
                · intro w hSw
                  have z3 := hSw.1.cell 3
                  have y0 := hSw.2.1.cell 0
                  have y1 := hSw.2.1.cell 1
                  have x0 := hSw.2.2.cell 0
                  have x1 := hSw.2.2.cell 1
                  have x2 := hSw.2.2.cell 2
                  simp at z3 y0 y1 x0 x1 x2
                  clear hSw
                  go_simp
                  try with_reducible rfl
                try simp only [Act.put, List.setIfInBounds_toArray, List.set_cons_zero, List.set_cons_succ]
                refine wpAnyT_takeL [] (i := 22) (v := ?_) rfl (by kernel_rfl) (by kernel_rfl) (by kernel_rfl) (by kernel_rfl) (fun _ _ _ h => h) (Or.inl ⟨by kernel_rfl, ?_⟩) (by with_reducible assumption) ?_
                rotate_left
                · intro w hSw
                  have z3 := hSw.1.cell 3
                  have y0 := hSw.2.1.cell 0
                  have y1 := hSw.2.1.cell 1
                  have x0 := hSw.2.2.cell 0
                  have x1 := hSw.2.2.cell 1
                  have x2 := hSw.2.2.cell 2
                  simp at z3 y0 y1 x0 x1 x2
                  clear hSw
                  go_simp
                  try with_reducible rfl
                try simp only [Act.put, List.setIfInBounds_toArray, List.set_cons_zero, List.set_cons_succ]
                refine wpAnyT_done (by kernel_rfl) ?_ _
                refine NoPanic.normal ?_
                clear hHeld hS5
                have hwa : IntKind.i64.wrap a2 = a2 := IntWalk.i64_in _ (by omega)
                have hwb : wrap64 a2 = a2 := by unfold wrap64; omega
                try simp only [hwa, hwb, hdec]
                have HX2 : Hid (exB ap (thB seed sh) (rkI seed) (plI seed c) q d = false) := by
                  rw [HX.out, decide_eq_false (show ¬ S ≤ a2 from fun h => absurd HLE.out (by omega))]; unfold Hid; simp
                have HXF : Hid (exB ap (thB seed sh) (rkI seed) (plI seed c) q (i + n, j + m) = false) := by rw [← HD.out]; exact HX2.out
                go_wp2_with fail
                go_roundw
                case rel =>
                  exact ⟨n + 1, by omega, by omega, by go_num, fun x a b => by
                    by_cases hx : x = n
                    · subst hx; exact HXF.out
                    · exact HE2.out x a (by omega), HI3.out⟩
                case measure => simp [intOf]; omega
          · have hb1 : ¬ rd < rq := by omega
            have hb2 : (rd == rq) = true := by simpa using h
            by_cases hlt5 : mw + n < lw + k
            · have hf : Hid (fb = true) := HBF.out.trans (decide_eq_true (.inr ⟨h, hlt5⟩))
              have heq5 : ¬ mw + n = lw + k := by omega
              go_upto_region 12 with fail
              clear x3 y3
              have hbn : (mw + n != lw + k) = true := by simpa using heq5
              cases td with
              | false =>
                have HX2 : Hid (exB ap (thB seed sh) (rkI seed) (plI seed c) q d = false) := by
                  rw [HX.out]; unfold Hid; simp
                refine wp_region_noPanic ?_
                refine wp_region_heldT (fun w' => Blk w' w.heap.size #[.int .u32 seed, .int .i64 c, .float .f32 sh, .int .i64 ap] 93 ∧ Blk w' (w.heap.size + 1) #[.int .i64 qx, .int .i64 qy, .bool tq, .int .u32 rq] 182 ∧ Blk w' kd #[.int .i64 dx, .int .i64 dy, .bool false, .int .u32 rd] 182) 23 (by kernel_rfl) ⟨HB2.out.1.drew, HB2.out.2.1.drew, HB2.out.2.2.drew⟩ (fun hHeld => ?_)
                refine wpAnyT_takeL [] (i := 0) (v := ?_) rfl (by kernel_rfl) (by kernel_rfl) (by kernel_rfl) (by kernel_rfl) (fun _ _ _ h => h) (Or.inl ⟨by kernel_rfl, ?_⟩) (by with_reducible assumption) ?_
                rotate_left
                · intro w hSw
                  have z3 := hSw.1.cell 3
                  have y0 := hSw.2.1.cell 0
                  have y1 := hSw.2.1.cell 1
                  have x0 := hSw.2.2.cell 0
                  have x1 := hSw.2.2.cell 1
                  have x2 := hSw.2.2.cell 2
                  simp at z3 y0 y1 x0 x1 x2
                  clear hSw
                  go_simp
                  try with_reducible rfl
                try simp only [Act.put, List.setIfInBounds_toArray, List.set_cons_zero, List.set_cons_succ]
                refine wpAnyT_takeL [] (i := 1) (v := ?_) rfl (by kernel_rfl) (by kernel_rfl) (by kernel_rfl) (by kernel_rfl) (fun _ _ _ h => h) (Or.inl ⟨by kernel_rfl, ?_⟩) (by with_reducible assumption) ?_
                rotate_left
                · intro w hSw
                  have z3 := hSw.1.cell 3
                  have y0 := hSw.2.1.cell 0
                  have y1 := hSw.2.1.cell 1
                  have x0 := hSw.2.2.cell 0
                  have x1 := hSw.2.2.cell 1
                  have x2 := hSw.2.2.cell 2
                  simp at z3 y0 y1 x0 x1 x2
                  clear hSw
                  go_simp
                  try with_reducible rfl
                try simp only [Act.put, List.setIfInBounds_toArray, List.set_cons_zero, List.set_cons_succ]
                refine wpAnyT_takeL [] (i := 2) (v := ?_) rfl (by kernel_rfl) (by kernel_rfl) (by kernel_rfl) (by kernel_rfl) (fun _ _ _ h => h) (Or.inl ⟨by kernel_rfl, ?_⟩) (by with_reducible assumption) ?_
                rotate_left
                · intro w hSw
                  have z3 := hSw.1.cell 3
                  have y0 := hSw.2.1.cell 0
                  have y1 := hSw.2.1.cell 1
                  have x0 := hSw.2.2.cell 0
                  have x1 := hSw.2.2.cell 1
                  have x2 := hSw.2.2.cell 2
                  simp at z3 y0 y1 x0 x1 x2
                  clear hSw
                  go_simp
                  try with_reducible rfl
                try simp only [Act.put, List.setIfInBounds_toArray, List.set_cons_zero, List.set_cons_succ]
                try simp only [hbn]
                refine wpAnyT_takeL [] (i := 3) (v := ?_) rfl (by kernel_rfl) (by kernel_rfl) (by kernel_rfl) (by kernel_rfl) (fun _ _ _ h => h) (Or.inl ⟨by kernel_rfl, ?_⟩) (by with_reducible assumption) ?_
                rotate_left
                · intro w hSw
                  have z3 := hSw.1.cell 3
                  have y0 := hSw.2.1.cell 0
                  have y1 := hSw.2.1.cell 1
                  have x0 := hSw.2.2.cell 0
                  have x1 := hSw.2.2.cell 1
                  have x2 := hSw.2.2.cell 2
                  simp at z3 y0 y1 x0 x1 x2
                  clear hSw
                  go_simp
                  try with_reducible rfl
                try simp only [Act.put, List.setIfInBounds_toArray, List.set_cons_zero, List.set_cons_succ]
                refine wpAnyT_takeL [] (i := 4) (v := ?_) rfl (by kernel_rfl) (by kernel_rfl) (by kernel_rfl) (by kernel_rfl) (fun _ _ _ h => h) (Or.inl ⟨by kernel_rfl, ?_⟩) (by with_reducible assumption) ?_
                rotate_left
                · intro w hSw
                  have z3 := hSw.1.cell 3
                  have y0 := hSw.2.1.cell 0
                  have y1 := hSw.2.1.cell 1
                  have x0 := hSw.2.2.cell 0
                  have x1 := hSw.2.2.cell 1
                  have x2 := hSw.2.2.cell 2
                  simp at z3 y0 y1 x0 x1 x2
                  clear hSw
                  go_simp
                  try with_reducible rfl
                try simp only [Act.put, List.setIfInBounds_toArray, List.set_cons_zero, List.set_cons_succ]
                refine wpAnyT_takeL [] (i := 5) (v := ?_) rfl (by kernel_rfl) (by kernel_rfl) (by kernel_rfl) (by kernel_rfl) (fun _ _ _ h => h) (Or.inl ⟨by kernel_rfl, ?_⟩) (by with_reducible assumption) ?_
                rotate_left
                · intro w hSw
                  have z3 := hSw.1.cell 3
                  have y0 := hSw.2.1.cell 0
                  have y1 := hSw.2.1.cell 1
                  have x0 := hSw.2.2.cell 0
                  have x1 := hSw.2.2.cell 1
                  have x2 := hSw.2.2.cell 2
                  simp at z3 y0 y1 x0 x1 x2
                  clear hSw
                  go_simp
                  try with_reducible rfl
                try simp only [Act.put, List.setIfInBounds_toArray, List.set_cons_zero, List.set_cons_succ]
                refine wpAnyT_takeL [] (i := 6) (v := ?_) rfl (by kernel_rfl) (by kernel_rfl) (by kernel_rfl) (by kernel_rfl) (fun _ _ _ h => h) (Or.inl ⟨by kernel_rfl, ?_⟩) (by with_reducible assumption) ?_
                rotate_left
                · intro w hSw
                  have z3 := hSw.1.cell 3
                  have y0 := hSw.2.1.cell 0
                  have y1 := hSw.2.1.cell 1
                  have x0 := hSw.2.2.cell 0
                  have x1 := hSw.2.2.cell 1
                  have x2 := hSw.2.2.cell 2
                  simp at z3 y0 y1 x0 x1 x2
                  clear hSw
                  go_simp
                  try with_reducible rfl
                try simp only [Act.put, List.setIfInBounds_toArray, List.set_cons_zero, List.set_cons_succ]
                refine wpAnyT_takeL [] (i := 7) (v := ?_) rfl (by kernel_rfl) (by kernel_rfl) (by kernel_rfl) (by kernel_rfl) (fun _ _ _ h => h) (Or.inl ⟨by kernel_rfl, ?_⟩) (by with_reducible assumption) ?_
                rotate_left
                · intro w hSw
                  have z3 := hSw.1.cell 3
                  have y0 := hSw.2.1.cell 0
                  have y1 := hSw.2.1.cell 1
                  have x0 := hSw.2.2.cell 0
                  have x1 := hSw.2.2.cell 1
                  have x2 := hSw.2.2.cell 2
                  simp at z3 y0 y1 x0 x1 x2
                  clear hSw
                  go_simp
                  try with_reducible rfl
                try simp only [Act.put, List.setIfInBounds_toArray, List.set_cons_zero, List.set_cons_succ]
                refine wpAnyT_takeL [] (i := 8) (v := undef) rfl (by kernel_rfl) (by kernel_rfl) (by kernel_rfl) (by kernel_rfl) (fun _ _ _ h => h) (Or.inr ⟨by kernel_rfl, rfl⟩) (by with_reducible assumption) ?_
                try simp only [Act.put, List.setIfInBounds_toArray, List.set_cons_zero, List.set_cons_succ]
                refine wpAnyT_takeL [] (i := 9) (v := ?_) rfl (by kernel_rfl) (by kernel_rfl) (by kernel_rfl) (by kernel_rfl) (fun _ _ _ h => h) (Or.inl ⟨by kernel_rfl, ?_⟩) (by with_reducible assumption) ?_
                rotate_left
                · intro w hSw
                  have z3 := hSw.1.cell 3
                  have y0 := hSw.2.1.cell 0
                  have y1 := hSw.2.1.cell 1
                  have x0 := hSw.2.2.cell 0
                  have x1 := hSw.2.2.cell 1
                  have x2 := hSw.2.2.cell 2
                  simp at z3 y0 y1 x0 x1 x2
                  clear hSw
                  go_simp
                  try with_reducible rfl
                try simp only [Act.put, List.setIfInBounds_toArray, List.set_cons_zero, List.set_cons_succ]
                refine wpAnyT_takeL [] (i := 10) (v := ?_) rfl (by kernel_rfl) (by kernel_rfl) (by kernel_rfl) (by kernel_rfl) (fun _ _ _ h => h) (Or.inl ⟨by kernel_rfl, ?_⟩) (by with_reducible assumption) ?_
                rotate_left
                · intro w hSw
                  have z3 := hSw.1.cell 3
                  have y0 := hSw.2.1.cell 0
                  have y1 := hSw.2.1.cell 1
                  have x0 := hSw.2.2.cell 0
                  have x1 := hSw.2.2.cell 1
                  have x2 := hSw.2.2.cell 2
                  simp at z3 y0 y1 x0 x1 x2
                  clear hSw
                  go_simp
                  try with_reducible rfl
                try simp only [Act.put, List.setIfInBounds_toArray, List.set_cons_zero, List.set_cons_succ]
                refine wpAnyT_takeL [] (i := 11) (v := undef) rfl (by kernel_rfl) (by kernel_rfl) (by kernel_rfl) (by kernel_rfl) (fun _ _ _ h => h) (Or.inr ⟨by kernel_rfl, rfl⟩) (by with_reducible assumption) ?_
                try simp only [Act.put, List.setIfInBounds_toArray, List.set_cons_zero, List.set_cons_succ]
                refine wpAnyT_takeL [] (i := 12) (v := undef) rfl (by kernel_rfl) (by kernel_rfl) (by kernel_rfl) (by kernel_rfl) (fun _ _ _ h => h) (Or.inr ⟨by kernel_rfl, rfl⟩) (by with_reducible assumption) ?_
                try simp only [Act.put, List.setIfInBounds_toArray, List.set_cons_zero, List.set_cons_succ]
                refine wpAnyT_takeL [] (i := 13) (v := undef) rfl (by kernel_rfl) (by kernel_rfl) (by kernel_rfl) (by kernel_rfl) (fun _ _ _ h => h) (Or.inr ⟨by kernel_rfl, rfl⟩) (by with_reducible assumption) ?_
                try simp only [Act.put, List.setIfInBounds_toArray, List.set_cons_zero, List.set_cons_succ]
                refine wpAnyT_takeL [] (i := 14) (v := undef) rfl (by kernel_rfl) (by kernel_rfl) (by kernel_rfl) (by kernel_rfl) (fun _ _ _ h => h) (Or.inr ⟨by kernel_rfl, rfl⟩) (by with_reducible assumption) ?_
                try simp only [Act.put, List.setIfInBounds_toArray, List.set_cons_zero, List.set_cons_succ]
                refine wpAnyT_takeL [] (i := 15) (v := undef) rfl (by kernel_rfl) (by kernel_rfl) (by kernel_rfl) (by kernel_rfl) (fun _ _ _ h => h) (Or.inr ⟨by kernel_rfl, rfl⟩) (by with_reducible assumption) ?_
                try simp only [Act.put, List.setIfInBounds_toArray, List.set_cons_zero, List.set_cons_succ]
                refine wpAnyT_takeL [] (i := 16) (v := undef) rfl (by kernel_rfl) (by kernel_rfl) (by kernel_rfl) (by kernel_rfl) (fun _ _ _ h => h) (Or.inr ⟨by kernel_rfl, rfl⟩) (by with_reducible assumption) ?_
                try simp only [Act.put, List.setIfInBounds_toArray, List.set_cons_zero, List.set_cons_succ]
                refine wpAnyT_takeL [] (i := 17) (v := undef) rfl (by kernel_rfl) (by kernel_rfl) (by kernel_rfl) (by kernel_rfl) (fun _ _ _ h => h) (Or.inr ⟨by kernel_rfl, rfl⟩) (by with_reducible assumption) ?_
                try simp only [Act.put, List.setIfInBounds_toArray, List.set_cons_zero, List.set_cons_succ]
                refine wpAnyT_takeL [] (i := 18) (v := undef) rfl (by kernel_rfl) (by kernel_rfl) (by kernel_rfl) (by kernel_rfl) (fun _ _ _ h => h) (Or.inr ⟨by kernel_rfl, rfl⟩) (by with_reducible assumption) ?_
                try simp only [Act.put, List.setIfInBounds_toArray, List.set_cons_zero, List.set_cons_succ]
                refine wpAnyT_takeL [] (i := 19) (v := undef) rfl (by kernel_rfl) (by kernel_rfl) (by kernel_rfl) (by kernel_rfl) (fun _ _ _ h => h) (Or.inr ⟨by kernel_rfl, rfl⟩) (by with_reducible assumption) ?_
                try simp only [Act.put, List.setIfInBounds_toArray, List.set_cons_zero, List.set_cons_succ]
                refine wpAnyT_takeL [] (i := 20) (v := undef) rfl (by kernel_rfl) (by kernel_rfl) (by kernel_rfl) (by kernel_rfl) (fun _ _ _ h => h) (Or.inr ⟨by kernel_rfl, rfl⟩) (by with_reducible assumption) ?_
                try simp only [Act.put, List.setIfInBounds_toArray, List.set_cons_zero, List.set_cons_succ]
                refine wpAnyT_takeL [] (i := 21) (v := undef) rfl (by kernel_rfl) (by kernel_rfl) (by kernel_rfl) (by kernel_rfl) (fun _ _ _ h => h) (Or.inr ⟨by kernel_rfl, rfl⟩) (by with_reducible assumption) ?_
                try simp only [Act.put, List.setIfInBounds_toArray, List.set_cons_zero, List.set_cons_succ]
                refine wpAnyT_takeL [] (i := 22) (v := ?_) rfl (by kernel_rfl) (by kernel_rfl) (by kernel_rfl) (by kernel_rfl) (fun _ _ _ h => h) (Or.inl ⟨by kernel_rfl, ?_⟩) (by with_reducible assumption) ?_
                rotate_left
                · intro w hSw
                  have z3 := hSw.1.cell 3
                  have y0 := hSw.2.1.cell 0
                  have y1 := hSw.2.1.cell 1
                  have x0 := hSw.2.2.cell 0
                  have x1 := hSw.2.2.cell 1
                  have x2 := hSw.2.2.cell 2
                  simp at z3 y0 y1 x0 x1 x2
                  clear hSw
                  go_simp
                  try with_reducible rfl
                try simp only [Act.put, List.setIfInBounds_toArray, List.set_cons_zero, List.set_cons_succ]
                refine wpAnyT_done (by kernel_rfl) ?_ _
                refine NoPanic.normal ?_
                clear hHeld
                have HI3 := Lib.hid (HI2.out.call (Below.refl _ _).drew)
                have HXF : Hid (exB ap (thB seed sh) (rkI seed) (plI seed c) q (i + n, j + m) = false) := by rw [← HD.out]; exact HX2.out
                go_wp2_with fail
                go_roundw
                case rel =>
                  exact ⟨n + 1, by omega, by omega, by go_num, fun x a b => by
                    by_cases hx : x = n
                    · subst hx; exact HXF.out
                    · exact HE2.out x a (by omega), HI3.out⟩
                case measure => simp [intOf]; omega
              | true =>
                by_cases hle : S ≤ a2
                · have hdec : decide (S ≤ a2) = true := decide_eq_true hle
                  have HLE := Lib.hid hle
                  refine wp_region_noPanic ?_
                  refine wp_region_heldT (fun w' => Blk w' w.heap.size #[.int .u32 seed, .int .i64 c, .float .f32 sh, .int .i64 ap] 93 ∧ Blk w' (w.heap.size + 1) #[.int .i64 qx, .int .i64 qy, .bool tq, .int .u32 rq] 182 ∧ Blk w' kd #[.int .i64 dx, .int .i64 dy, .bool true, .int .u32 rd] 182) 23 (by kernel_rfl) ⟨HB2.out.1.drew, HB2.out.2.1.drew, HB2.out.2.2.drew⟩ (fun hHeld => ?_)
                  refine wpAnyT_takeL [] (i := 0) (v := ?_) rfl (by kernel_rfl) (by kernel_rfl) (by kernel_rfl) (by kernel_rfl) (fun _ _ _ h => h) (Or.inl ⟨by kernel_rfl, ?_⟩) (by with_reducible assumption) ?_
                  rotate_left
                  · intro w hSw
                    have z3 := hSw.1.cell 3
                    have y0 := hSw.2.1.cell 0
                    have y1 := hSw.2.1.cell 1
                    have x0 := hSw.2.2.cell 0
                    have x1 := hSw.2.2.cell 1
                    have x2 := hSw.2.2.cell 2
                    simp at z3 y0 y1 x0 x1 x2
                    clear hSw
                    go_simp
                    try with_reducible rfl
                  try simp only [Act.put, List.setIfInBounds_toArray, List.set_cons_zero, List.set_cons_succ]
                  refine wpAnyT_takeL [] (i := 1) (v := ?_) rfl (by kernel_rfl) (by kernel_rfl) (by kernel_rfl) (by kernel_rfl) (fun _ _ _ h => h) (Or.inl ⟨by kernel_rfl, ?_⟩) (by with_reducible assumption) ?_
                  rotate_left
                  · intro w hSw
                    have z3 := hSw.1.cell 3
                    have y0 := hSw.2.1.cell 0
                    have y1 := hSw.2.1.cell 1
                    have x0 := hSw.2.2.cell 0
                    have x1 := hSw.2.2.cell 1
                    have x2 := hSw.2.2.cell 2
                    simp at z3 y0 y1 x0 x1 x2
                    clear hSw
                    go_simp
                    try with_reducible rfl
                  try simp only [Act.put, List.setIfInBounds_toArray, List.set_cons_zero, List.set_cons_succ]
                  refine wpAnyT_takeL [] (i := 2) (v := ?_) rfl (by kernel_rfl) (by kernel_rfl) (by kernel_rfl) (by kernel_rfl) (fun _ _ _ h => h) (Or.inl ⟨by kernel_rfl, ?_⟩) (by with_reducible assumption) ?_
                  rotate_left
                  · intro w hSw
                    have z3 := hSw.1.cell 3
                    have y0 := hSw.2.1.cell 0
                    have y1 := hSw.2.1.cell 1
                    have x0 := hSw.2.2.cell 0
                    have x1 := hSw.2.2.cell 1
                    have x2 := hSw.2.2.cell 2
                    simp at z3 y0 y1 x0 x1 x2
                    clear hSw
                    go_simp
                    try with_reducible rfl
                  try simp only [Act.put, List.setIfInBounds_toArray, List.set_cons_zero, List.set_cons_succ]
                  try simp only [hbn]
                  refine wpAnyT_takeL [] (i := 3) (v := ?_) rfl (by kernel_rfl) (by kernel_rfl) (by kernel_rfl) (by kernel_rfl) (fun _ _ _ h => h) (Or.inl ⟨by kernel_rfl, ?_⟩) (by with_reducible assumption) ?_
                  rotate_left
                  · intro w hSw
                    have z3 := hSw.1.cell 3
                    have y0 := hSw.2.1.cell 0
                    have y1 := hSw.2.1.cell 1
                    have x0 := hSw.2.2.cell 0
                    have x1 := hSw.2.2.cell 1
                    have x2 := hSw.2.2.cell 2
                    simp at z3 y0 y1 x0 x1 x2
                    clear hSw
                    go_simp
                    try with_reducible rfl
                  try simp only [Act.put, List.setIfInBounds_toArray, List.set_cons_zero, List.set_cons_succ]
                  refine wpAnyT_takeL [] (i := 4) (v := ?_) rfl (by kernel_rfl) (by kernel_rfl) (by kernel_rfl) (by kernel_rfl) (fun _ _ _ h => h) (Or.inl ⟨by kernel_rfl, ?_⟩) (by with_reducible assumption) ?_
                  rotate_left
                  · intro w hSw
                    have z3 := hSw.1.cell 3
                    have y0 := hSw.2.1.cell 0
                    have y1 := hSw.2.1.cell 1
                    have x0 := hSw.2.2.cell 0
                    have x1 := hSw.2.2.cell 1
                    have x2 := hSw.2.2.cell 2
                    simp at z3 y0 y1 x0 x1 x2
                    clear hSw
                    go_simp
                    try with_reducible rfl
                  try simp only [Act.put, List.setIfInBounds_toArray, List.set_cons_zero, List.set_cons_succ]
                  refine wpAnyT_takeL [] (i := 5) (v := ?_) rfl (by kernel_rfl) (by kernel_rfl) (by kernel_rfl) (by kernel_rfl) (fun _ _ _ h => h) (Or.inl ⟨by kernel_rfl, ?_⟩) (by with_reducible assumption) ?_
                  rotate_left
                  · intro w hSw
                    have z3 := hSw.1.cell 3
                    have y0 := hSw.2.1.cell 0
                    have y1 := hSw.2.1.cell 1
                    have x0 := hSw.2.2.cell 0
                    have x1 := hSw.2.2.cell 1
                    have x2 := hSw.2.2.cell 2
                    simp at z3 y0 y1 x0 x1 x2
                    clear hSw
                    go_simp
                    try with_reducible rfl
                  try simp only [Act.put, List.setIfInBounds_toArray, List.set_cons_zero, List.set_cons_succ]
                  refine wpAnyT_takeL [] (i := 6) (v := ?_) rfl (by kernel_rfl) (by kernel_rfl) (by kernel_rfl) (by kernel_rfl) (fun _ _ _ h => h) (Or.inl ⟨by kernel_rfl, ?_⟩) (by with_reducible assumption) ?_
                  rotate_left
                  · intro w hSw
                    have z3 := hSw.1.cell 3
                    have y0 := hSw.2.1.cell 0
                    have y1 := hSw.2.1.cell 1
                    have x0 := hSw.2.2.cell 0
                    have x1 := hSw.2.2.cell 1
                    have x2 := hSw.2.2.cell 2
                    simp at z3 y0 y1 x0 x1 x2
                    clear hSw
                    go_simp
                    try with_reducible rfl
                  try simp only [Act.put, List.setIfInBounds_toArray, List.set_cons_zero, List.set_cons_succ]
                  refine wpAnyT_takeL [] (i := 7) (v := ?_) rfl (by kernel_rfl) (by kernel_rfl) (by kernel_rfl) (by kernel_rfl) (fun _ _ _ h => h) (Or.inl ⟨by kernel_rfl, ?_⟩) (by with_reducible assumption) ?_
                  rotate_left
                  · intro w hSw
                    have z3 := hSw.1.cell 3
                    have y0 := hSw.2.1.cell 0
                    have y1 := hSw.2.1.cell 1
                    have x0 := hSw.2.2.cell 0
                    have x1 := hSw.2.2.cell 1
                    have x2 := hSw.2.2.cell 2
                    simp at z3 y0 y1 x0 x1 x2
                    clear hSw
                    go_simp
                    try with_reducible rfl
                  try simp only [Act.put, List.setIfInBounds_toArray, List.set_cons_zero, List.set_cons_succ]
                  refine wpAnyT_takeL [] (i := 8) (v := ?_) rfl (by kernel_rfl) (by kernel_rfl) (by kernel_rfl) (by kernel_rfl) (fun _ _ _ h => h) (Or.inl ⟨by kernel_rfl, ?_⟩) (by with_reducible assumption) ?_
                  rotate_left
                  · intro w hSw
                    have z3 := hSw.1.cell 3
                    have y0 := hSw.2.1.cell 0
                    have y1 := hSw.2.1.cell 1
                    have x0 := hSw.2.2.cell 0
                    have x1 := hSw.2.2.cell 1
                    have x2 := hSw.2.2.cell 2
                    simp at z3 y0 y1 x0 x1 x2
                    clear hSw
                    go_simp
                    try with_reducible rfl
                  try simp only [Act.put, List.setIfInBounds_toArray, List.set_cons_zero, List.set_cons_succ]
                  refine wpAnyT_takeL [] (i := 9) (v := ?_) rfl (by kernel_rfl) (by kernel_rfl) (by kernel_rfl) (by kernel_rfl) (fun _ _ _ h => h) (Or.inl ⟨by kernel_rfl, ?_⟩) (by with_reducible assumption) ?_
                  rotate_left
                  · intro w hSw
                    have z3 := hSw.1.cell 3
                    have y0 := hSw.2.1.cell 0
                    have y1 := hSw.2.1.cell 1
                    have x0 := hSw.2.2.cell 0
                    have x1 := hSw.2.2.cell 1
                    have x2 := hSw.2.2.cell 2
                    simp at z3 y0 y1 x0 x1 x2
                    clear hSw
                    go_simp
                    try with_reducible rfl
                  try simp only [Act.put, List.setIfInBounds_toArray, List.set_cons_zero, List.set_cons_succ]
                  refine wpAnyT_takeL [] (i := 10) (v := ?_) rfl (by kernel_rfl) (by kernel_rfl) (by kernel_rfl) (by kernel_rfl) (fun _ _ _ h => h) (Or.inl ⟨by kernel_rfl, ?_⟩) (by with_reducible assumption) ?_
                  rotate_left
                  · intro w hSw
                    have z3 := hSw.1.cell 3
                    have y0 := hSw.2.1.cell 0
                    have y1 := hSw.2.1.cell 1
                    have x0 := hSw.2.2.cell 0
                    have x1 := hSw.2.2.cell 1
                    have x2 := hSw.2.2.cell 2
                    simp at z3 y0 y1 x0 x1 x2
                    clear hSw
                    go_simp
                    try with_reducible rfl
                  try simp only [Act.put, List.setIfInBounds_toArray, List.set_cons_zero, List.set_cons_succ]
                  refine wpAnyT_takeL [] (i := 11) (v := ?_) rfl (by kernel_rfl) (by kernel_rfl) (by kernel_rfl) (by kernel_rfl) (fun _ _ _ h => h) (Or.inl ⟨by kernel_rfl, ?_⟩) (by with_reducible assumption) ?_
                  rotate_left
                  · intro w hSw
                    have z3 := hSw.1.cell 3
                    have y0 := hSw.2.1.cell 0
                    have y1 := hSw.2.1.cell 1
                    have x0 := hSw.2.2.cell 0
                    have x1 := hSw.2.2.cell 1
                    have x2 := hSw.2.2.cell 2
                    simp at z3 y0 y1 x0 x1 x2
                    clear hSw
                    go_simp
                    try with_reducible rfl
                  try simp only [Act.put, List.setIfInBounds_toArray, List.set_cons_zero, List.set_cons_succ]
                  refine wpAnyT_takeL [] (i := 12) (v := ?_) rfl (by kernel_rfl) (by kernel_rfl) (by kernel_rfl) (by kernel_rfl) (fun _ _ _ h => h) (Or.inl ⟨by kernel_rfl, ?_⟩) (by with_reducible assumption) ?_
                  rotate_left
                  · intro w hSw
                    have z3 := hSw.1.cell 3
                    have y0 := hSw.2.1.cell 0
                    have y1 := hSw.2.1.cell 1
                    have x0 := hSw.2.2.cell 0
                    have x1 := hSw.2.2.cell 1
                    have x2 := hSw.2.2.cell 2
                    simp at z3 y0 y1 x0 x1 x2
                    clear hSw
                    go_simp
                    try with_reducible rfl
                  try simp only [Act.put, List.setIfInBounds_toArray, List.set_cons_zero, List.set_cons_succ]
                  refine wpAnyT_takeL [] (i := 13) (v := ?_) rfl (by kernel_rfl) (by kernel_rfl) (by kernel_rfl) (by kernel_rfl) (fun _ _ _ h => h) (Or.inl ⟨by kernel_rfl, ?_⟩) (by with_reducible assumption) ?_
                  rotate_left
                  · intro w hSw
                    have z3 := hSw.1.cell 3
                    have y0 := hSw.2.1.cell 0
                    have y1 := hSw.2.1.cell 1
                    have x0 := hSw.2.2.cell 0
                    have x1 := hSw.2.2.cell 1
                    have x2 := hSw.2.2.cell 2
                    simp at z3 y0 y1 x0 x1 x2
                    clear hSw
                    go_simp
                    try with_reducible rfl
                  try simp only [Act.put, List.setIfInBounds_toArray, List.set_cons_zero, List.set_cons_succ]
                  refine wpAnyT_takeL [] (i := 14) (v := ?_) rfl (by kernel_rfl) (by kernel_rfl) (by kernel_rfl) (by kernel_rfl) (fun _ _ _ h => h) (Or.inl ⟨by kernel_rfl, ?_⟩) (by with_reducible assumption) ?_
                  rotate_left
                  · intro w hSw
                    have z3 := hSw.1.cell 3
                    have y0 := hSw.2.1.cell 0
                    have y1 := hSw.2.1.cell 1
                    have x0 := hSw.2.2.cell 0
                    have x1 := hSw.2.2.cell 1
                    have x2 := hSw.2.2.cell 2
                    simp at z3 y0 y1 x0 x1 x2
                    clear hSw
                    go_simp
                    try with_reducible rfl
                  try simp only [Act.put, List.setIfInBounds_toArray, List.set_cons_zero, List.set_cons_succ]
                  refine wpAnyT_takeL [] (i := 16) (v := ?_) rfl (by kernel_rfl) (by kernel_rfl) (by kernel_rfl) (by kernel_rfl) (fun _ _ _ h => h) (Or.inl ⟨by kernel_rfl, ?_⟩) (by with_reducible assumption) ?_
                  rotate_left
                  · intro w hSw
                    have z3 := hSw.1.cell 3
                    have y0 := hSw.2.1.cell 0
                    have y1 := hSw.2.1.cell 1
                    have x0 := hSw.2.2.cell 0
                    have x1 := hSw.2.2.cell 1
                    have x2 := hSw.2.2.cell 2
                    simp at z3 y0 y1 x0 x1 x2
                    clear hSw
                    go_simp
                    try with_reducible rfl
                  try simp only [Act.put, List.setIfInBounds_toArray, List.set_cons_zero, List.set_cons_succ]
                  refine wpAnyT_takeL [] (i := 17) (v := ?_) rfl (by kernel_rfl) (by kernel_rfl) (by kernel_rfl) (by kernel_rfl) (fun _ _ _ h => h) (Or.inl ⟨by kernel_rfl, ?_⟩) (by with_reducible assumption) ?_
                  rotate_left
                  · intro w hSw
                    have z3 := hSw.1.cell 3
                    have y0 := hSw.2.1.cell 0
                    have y1 := hSw.2.1.cell 1
                    have x0 := hSw.2.2.cell 0
                    have x1 := hSw.2.2.cell 1
                    have x2 := hSw.2.2.cell 2
                    simp at z3 y0 y1 x0 x1 x2
                    clear hSw
                    go_simp
                    try with_reducible rfl
                  try simp only [Act.put, List.setIfInBounds_toArray, List.set_cons_zero, List.set_cons_succ]
                  refine wpAnyT_takeL [] (i := 18) (v := ?_) rfl (by kernel_rfl) (by kernel_rfl) (by kernel_rfl) (by kernel_rfl) (fun _ _ _ h => h) (Or.inl ⟨by kernel_rfl, ?_⟩) (by with_reducible assumption) ?_
                  rotate_left
                  · intro w hSw
                    have z3 := hSw.1.cell 3
                    have y0 := hSw.2.1.cell 0
                    have y1 := hSw.2.1.cell 1
                    have x0 := hSw.2.2.cell 0
                    have x1 := hSw.2.2.cell 1
                    have x2 := hSw.2.2.cell 2
                    simp at z3 y0 y1 x0 x1 x2
                    clear hSw
                    go_simp
                    try with_reducible rfl
                  try simp only [Act.put, List.setIfInBounds_toArray, List.set_cons_zero, List.set_cons_succ]
                  refine wpAnyT_takeL [] (i := 19) (v := ?_) rfl (by kernel_rfl) (by kernel_rfl) (by kernel_rfl) (by kernel_rfl) (fun _ _ _ h => h) (Or.inl ⟨by kernel_rfl, ?_⟩) (by with_reducible assumption) ?_
                  rotate_left
                  · intro w hSw
                    have z3 := hSw.1.cell 3
                    have y0 := hSw.2.1.cell 0
                    have y1 := hSw.2.1.cell 1
                    have x0 := hSw.2.2.cell 0
                    have x1 := hSw.2.2.cell 1
                    have x2 := hSw.2.2.cell 2
                    simp at z3 y0 y1 x0 x1 x2
                    clear hSw
                    go_simp
                    try with_reducible rfl
                  try simp only [Act.put, List.setIfInBounds_toArray, List.set_cons_zero, List.set_cons_succ]
                  refine wpAnyT_takeL [] (i := 20) (v := ?_) rfl (by kernel_rfl) (by kernel_rfl) (by kernel_rfl) (by kernel_rfl) (fun _ _ _ h => h) (Or.inl ⟨by kernel_rfl, ?_⟩) (by with_reducible assumption) ?_
                  rotate_left
                  · intro w hSw
                    have z3 := hSw.1.cell 3
                    have y0 := hSw.2.1.cell 0
                    have y1 := hSw.2.1.cell 1
                    have x0 := hSw.2.2.cell 0
                    have x1 := hSw.2.2.cell 1
                    have x2 := hSw.2.2.cell 2
                    simp at z3 y0 y1 x0 x1 x2
                    clear hSw
                    go_simp
                    try with_reducible rfl
                  try simp only [Act.put, List.setIfInBounds_toArray, List.set_cons_zero, List.set_cons_succ]
                  refine wpAnyT_ready (rs := [15]) (by kernel_rfl) (by simp) ?_
                  refine AllReadyT.cons rfl (fun K hK => ?_) AllReadyT.nil
                  go_simp
                  refine (KS.out _).mono ?_
                  rintro e w5 ⟨rfl, hb⟩
                  have HI3 := Lib.hid ((HI2.out.call (Below.refl _ _).drew).call hb)
                  have hS5 := And.intro (hHeld.1.below hb hHeld.1.lt) (And.intro (hHeld.2.1.below hb hHeld.2.1.lt) (hHeld.2.2.below hb hHeld.2.2.lt))
                  clear hb
                  go_wp2_with fail
                  refine hK.out _ _ (fun _ => hS5) (fun hS_ => ?_)
                  have hHeld := hS_ (by omega)
                  clear hS_ hK K
                  try simp only [Act.put, List.setIfInBounds_toArray, List.set_cons_zero, List.set_cons_succ]
                  refine wpAnyT_takeL [] (i := 21) (v := ?_) rfl (by kernel_rfl) (by kernel_rfl) (by kernel_rfl) (by kernel_rfl) (fun _ _ _ h => h) (Or.inl ⟨by kernel_rfl, ?_⟩) (by with_reducible assumption) ?_
                  rotate_left
                  · intro w hSw
                    have z3 := hSw.1.cell 3
                    have y0 := hSw.2.1.cell 0
                    have y1 := hSw.2.1.cell 1
                    have x0 := hSw.2.2.cell 0
                    have x1 := hSw.2.2.cell 1
                    have x2 := hSw.2.2.cell 2
                    simp at z3 y0 y1 x0 x1 x2
                    clear hSw
                    go_simp
                    try with_reducible rfl
                  try simp only [Act.put, List.setIfInBounds_toArray, List.set_cons_zero, List.set_cons_succ]
                  refine wpAnyT_takeL [] (i := 22) (v := ?_) rfl (by kernel_rfl) (by kernel_rfl) (by kernel_rfl) (by kernel_rfl) (fun _ _ _ h => h) (Or.inl ⟨by kernel_rfl, ?_⟩) (by with_reducible assumption) ?_
                  rotate_left
                  · intro w hSw
                    have z3 := hSw.1.cell 3
                    have y0 := hSw.2.1.cell 0
                    have y1 := hSw.2.1.cell 1
                    have x0 := hSw.2.2.cell 0
                    have x1 := hSw.2.2.cell 1
                    have x2 := hSw.2.2.cell 2
                    simp at z3 y0 y1 x0 x1 x2
                    clear hSw
                    go_simp
                    try with_reducible rfl
                  try simp only [Act.put, List.setIfInBounds_toArray, List.set_cons_zero, List.set_cons_succ]
                  refine wpAnyT_done (by kernel_rfl) ?_ _
                  refine NoPanic.normal ?_
                  clear hHeld hS5
                  have hwa : IntKind.i64.wrap a2 = a2 := IntWalk.i64_in _ (by omega)
                  have hwb : wrap64 a2 = a2 := by unfold wrap64; omega
                  try simp only [hwa, hwb, hdec]
                  have HC : Hid (CB = false) := HCF.out d HIN.out.1 HIN.out.2.1 HIN.out.2.2.1 HIN.out.2.2.2 (by
                    rw [HX.out, hf.out, decide_eq_true HLE.out, decide_eq_true (show d ≠ q from fun h => heq5 (HEQ.out.1 h))]; rfl)
                  go_wp2_with fail
                  go_ret
                  exact ⟨by rw [HC.out]; rfl, HI3.out.b⟩
                · have hdec : decide (S ≤ a2) = false := decide_eq_false (show ¬ S ≤ a2 by omega)
                  have HLE := Lib.hid hle
                  refine wp_region_noPanic ?_
                  refine wp_region_heldT (fun w' => Blk w' w.heap.size #[.int .u32 seed, .int .i64 c, .float .f32 sh, .int .i64 ap] 93 ∧ Blk w' (w.heap.size + 1) #[.int .i64 qx, .int .i64 qy, .bool tq, .int .u32 rq] 182 ∧ Blk w' kd #[.int .i64 dx, .int .i64 dy, .bool true, .int .u32 rd] 182) 23 (by kernel_rfl) ⟨HB2.out.1.drew, HB2.out.2.1.drew, HB2.out.2.2.drew⟩ (fun hHeld => ?_)
                  refine wpAnyT_takeL [] (i := 0) (v := ?_) rfl (by kernel_rfl) (by kernel_rfl) (by kernel_rfl) (by kernel_rfl) (fun _ _ _ h => h) (Or.inl ⟨by kernel_rfl, ?_⟩) (by with_reducible assumption) ?_
                  rotate_left
                  · intro w hSw
                    have z3 := hSw.1.cell 3
                    have y0 := hSw.2.1.cell 0
                    have y1 := hSw.2.1.cell 1
                    have x0 := hSw.2.2.cell 0
                    have x1 := hSw.2.2.cell 1
                    have x2 := hSw.2.2.cell 2
                    simp at z3 y0 y1 x0 x1 x2
                    clear hSw
                    go_simp
                    try with_reducible rfl
                  try simp only [Act.put, List.setIfInBounds_toArray, List.set_cons_zero, List.set_cons_succ]
                  refine wpAnyT_takeL [] (i := 1) (v := ?_) rfl (by kernel_rfl) (by kernel_rfl) (by kernel_rfl) (by kernel_rfl) (fun _ _ _ h => h) (Or.inl ⟨by kernel_rfl, ?_⟩) (by with_reducible assumption) ?_
                  rotate_left
                  · intro w hSw
                    have z3 := hSw.1.cell 3
                    have y0 := hSw.2.1.cell 0
                    have y1 := hSw.2.1.cell 1
                    have x0 := hSw.2.2.cell 0
                    have x1 := hSw.2.2.cell 1
                    have x2 := hSw.2.2.cell 2
                    simp at z3 y0 y1 x0 x1 x2
                    clear hSw
                    go_simp
                    try with_reducible rfl
                  try simp only [Act.put, List.setIfInBounds_toArray, List.set_cons_zero, List.set_cons_succ]
                  refine wpAnyT_takeL [] (i := 2) (v := ?_) rfl (by kernel_rfl) (by kernel_rfl) (by kernel_rfl) (by kernel_rfl) (fun _ _ _ h => h) (Or.inl ⟨by kernel_rfl, ?_⟩) (by with_reducible assumption) ?_
                  rotate_left
                  · intro w hSw
                    have z3 := hSw.1.cell 3
                    have y0 := hSw.2.1.cell 0
                    have y1 := hSw.2.1.cell 1
                    have x0 := hSw.2.2.cell 0
                    have x1 := hSw.2.2.cell 1
                    have x2 := hSw.2.2.cell 2
                    simp at z3 y0 y1 x0 x1 x2
                    clear hSw
                    go_simp
                    try with_reducible rfl
                  try simp only [Act.put, List.setIfInBounds_toArray, List.set_cons_zero, List.set_cons_succ]
                  try simp only [hbn]
                  refine wpAnyT_takeL [] (i := 3) (v := ?_) rfl (by kernel_rfl) (by kernel_rfl) (by kernel_rfl) (by kernel_rfl) (fun _ _ _ h => h) (Or.inl ⟨by kernel_rfl, ?_⟩) (by with_reducible assumption) ?_
                  rotate_left
                  · intro w hSw
                    have z3 := hSw.1.cell 3
                    have y0 := hSw.2.1.cell 0
                    have y1 := hSw.2.1.cell 1
                    have x0 := hSw.2.2.cell 0
                    have x1 := hSw.2.2.cell 1
                    have x2 := hSw.2.2.cell 2
                    simp at z3 y0 y1 x0 x1 x2
                    clear hSw
                    go_simp
                    try with_reducible rfl
                  try simp only [Act.put, List.setIfInBounds_toArray, List.set_cons_zero, List.set_cons_succ]
                  refine wpAnyT_takeL [] (i := 4) (v := ?_) rfl (by kernel_rfl) (by kernel_rfl) (by kernel_rfl) (by kernel_rfl) (fun _ _ _ h => h) (Or.inl ⟨by kernel_rfl, ?_⟩) (by with_reducible assumption) ?_
                  rotate_left
                  · intro w hSw
                    have z3 := hSw.1.cell 3
                    have y0 := hSw.2.1.cell 0
                    have y1 := hSw.2.1.cell 1
                    have x0 := hSw.2.2.cell 0
                    have x1 := hSw.2.2.cell 1
                    have x2 := hSw.2.2.cell 2
                    simp at z3 y0 y1 x0 x1 x2
                    clear hSw
                    go_simp
                    try with_reducible rfl
                  try simp only [Act.put, List.setIfInBounds_toArray, List.set_cons_zero, List.set_cons_succ]
                  refine wpAnyT_takeL [] (i := 5) (v := ?_) rfl (by kernel_rfl) (by kernel_rfl) (by kernel_rfl) (by kernel_rfl) (fun _ _ _ h => h) (Or.inl ⟨by kernel_rfl, ?_⟩) (by with_reducible assumption) ?_
                  rotate_left
                  · intro w hSw
                    have z3 := hSw.1.cell 3
                    have y0 := hSw.2.1.cell 0
                    have y1 := hSw.2.1.cell 1
                    have x0 := hSw.2.2.cell 0
                    have x1 := hSw.2.2.cell 1
                    have x2 := hSw.2.2.cell 2
                    simp at z3 y0 y1 x0 x1 x2
                    clear hSw
                    go_simp
                    try with_reducible rfl
                  try simp only [Act.put, List.setIfInBounds_toArray, List.set_cons_zero, List.set_cons_succ]
                  refine wpAnyT_takeL [] (i := 6) (v := ?_) rfl (by kernel_rfl) (by kernel_rfl) (by kernel_rfl) (by kernel_rfl) (fun _ _ _ h => h) (Or.inl ⟨by kernel_rfl, ?_⟩) (by with_reducible assumption) ?_
                  rotate_left
                  · intro w hSw
                    have z3 := hSw.1.cell 3
                    have y0 := hSw.2.1.cell 0
                    have y1 := hSw.2.1.cell 1
                    have x0 := hSw.2.2.cell 0
                    have x1 := hSw.2.2.cell 1
                    have x2 := hSw.2.2.cell 2
                    simp at z3 y0 y1 x0 x1 x2
                    clear hSw
                    go_simp
                    try with_reducible rfl
                  try simp only [Act.put, List.setIfInBounds_toArray, List.set_cons_zero, List.set_cons_succ]
                  refine wpAnyT_takeL [] (i := 7) (v := ?_) rfl (by kernel_rfl) (by kernel_rfl) (by kernel_rfl) (by kernel_rfl) (fun _ _ _ h => h) (Or.inl ⟨by kernel_rfl, ?_⟩) (by with_reducible assumption) ?_
                  rotate_left
                  · intro w hSw
                    have z3 := hSw.1.cell 3
                    have y0 := hSw.2.1.cell 0
                    have y1 := hSw.2.1.cell 1
                    have x0 := hSw.2.2.cell 0
                    have x1 := hSw.2.2.cell 1
                    have x2 := hSw.2.2.cell 2
                    simp at z3 y0 y1 x0 x1 x2
                    clear hSw
                    go_simp
                    try with_reducible rfl
                  try simp only [Act.put, List.setIfInBounds_toArray, List.set_cons_zero, List.set_cons_succ]
                  refine wpAnyT_takeL [] (i := 8) (v := ?_) rfl (by kernel_rfl) (by kernel_rfl) (by kernel_rfl) (by kernel_rfl) (fun _ _ _ h => h) (Or.inl ⟨by kernel_rfl, ?_⟩) (by with_reducible assumption) ?_
                  rotate_left
                  · intro w hSw
                    have z3 := hSw.1.cell 3
                    have y0 := hSw.2.1.cell 0
                    have y1 := hSw.2.1.cell 1
                    have x0 := hSw.2.2.cell 0
                    have x1 := hSw.2.2.cell 1
                    have x2 := hSw.2.2.cell 2
                    simp at z3 y0 y1 x0 x1 x2
                    clear hSw
                    go_simp
                    try with_reducible rfl
                  try simp only [Act.put, List.setIfInBounds_toArray, List.set_cons_zero, List.set_cons_succ]
                  refine wpAnyT_takeL [] (i := 9) (v := ?_) rfl (by kernel_rfl) (by kernel_rfl) (by kernel_rfl) (by kernel_rfl) (fun _ _ _ h => h) (Or.inl ⟨by kernel_rfl, ?_⟩) (by with_reducible assumption) ?_
                  rotate_left
                  · intro w hSw
                    have z3 := hSw.1.cell 3
                    have y0 := hSw.2.1.cell 0
                    have y1 := hSw.2.1.cell 1
                    have x0 := hSw.2.2.cell 0
                    have x1 := hSw.2.2.cell 1
                    have x2 := hSw.2.2.cell 2
                    simp at z3 y0 y1 x0 x1 x2
                    clear hSw
                    go_simp
                    try with_reducible rfl
                  try simp only [Act.put, List.setIfInBounds_toArray, List.set_cons_zero, List.set_cons_succ]
                  refine wpAnyT_takeL [] (i := 10) (v := ?_) rfl (by kernel_rfl) (by kernel_rfl) (by kernel_rfl) (by kernel_rfl) (fun _ _ _ h => h) (Or.inl ⟨by kernel_rfl, ?_⟩) (by with_reducible assumption) ?_
                  rotate_left
                  · intro w hSw
                    have z3 := hSw.1.cell 3
                    have y0 := hSw.2.1.cell 0
                    have y1 := hSw.2.1.cell 1
                    have x0 := hSw.2.2.cell 0
                    have x1 := hSw.2.2.cell 1
                    have x2 := hSw.2.2.cell 2
                    simp at z3 y0 y1 x0 x1 x2
                    clear hSw
                    go_simp
                    try with_reducible rfl
                  try simp only [Act.put, List.setIfInBounds_toArray, List.set_cons_zero, List.set_cons_succ]
                  refine wpAnyT_takeL [] (i := 11) (v := ?_) rfl (by kernel_rfl) (by kernel_rfl) (by kernel_rfl) (by kernel_rfl) (fun _ _ _ h => h) (Or.inl ⟨by kernel_rfl, ?_⟩) (by with_reducible assumption) ?_
                  rotate_left
                  · intro w hSw
                    have z3 := hSw.1.cell 3
                    have y0 := hSw.2.1.cell 0
                    have y1 := hSw.2.1.cell 1
                    have x0 := hSw.2.2.cell 0
                    have x1 := hSw.2.2.cell 1
                    have x2 := hSw.2.2.cell 2
                    simp at z3 y0 y1 x0 x1 x2
                    clear hSw
                    go_simp
                    try with_reducible rfl
                  try simp only [Act.put, List.setIfInBounds_toArray, List.set_cons_zero, List.set_cons_succ]
                  refine wpAnyT_takeL [] (i := 12) (v := ?_) rfl (by kernel_rfl) (by kernel_rfl) (by kernel_rfl) (by kernel_rfl) (fun _ _ _ h => h) (Or.inl ⟨by kernel_rfl, ?_⟩) (by with_reducible assumption) ?_
                  rotate_left
                  · intro w hSw
                    have z3 := hSw.1.cell 3
                    have y0 := hSw.2.1.cell 0
                    have y1 := hSw.2.1.cell 1
                    have x0 := hSw.2.2.cell 0
                    have x1 := hSw.2.2.cell 1
                    have x2 := hSw.2.2.cell 2
                    simp at z3 y0 y1 x0 x1 x2
                    clear hSw
                    go_simp
                    try with_reducible rfl
                  try simp only [Act.put, List.setIfInBounds_toArray, List.set_cons_zero, List.set_cons_succ]
                  refine wpAnyT_takeL [] (i := 13) (v := ?_) rfl (by kernel_rfl) (by kernel_rfl) (by kernel_rfl) (by kernel_rfl) (fun _ _ _ h => h) (Or.inl ⟨by kernel_rfl, ?_⟩) (by with_reducible assumption) ?_
                  rotate_left
                  · intro w hSw
                    have z3 := hSw.1.cell 3
                    have y0 := hSw.2.1.cell 0
                    have y1 := hSw.2.1.cell 1
                    have x0 := hSw.2.2.cell 0
                    have x1 := hSw.2.2.cell 1
                    have x2 := hSw.2.2.cell 2
                    simp at z3 y0 y1 x0 x1 x2
                    clear hSw
                    go_simp
                    try with_reducible rfl
                  try simp only [Act.put, List.setIfInBounds_toArray, List.set_cons_zero, List.set_cons_succ]
                  refine wpAnyT_takeL [] (i := 14) (v := ?_) rfl (by kernel_rfl) (by kernel_rfl) (by kernel_rfl) (by kernel_rfl) (fun _ _ _ h => h) (Or.inl ⟨by kernel_rfl, ?_⟩) (by with_reducible assumption) ?_
                  rotate_left
                  · intro w hSw
                    have z3 := hSw.1.cell 3
                    have y0 := hSw.2.1.cell 0
                    have y1 := hSw.2.1.cell 1
                    have x0 := hSw.2.2.cell 0
                    have x1 := hSw.2.2.cell 1
                    have x2 := hSw.2.2.cell 2
                    simp at z3 y0 y1 x0 x1 x2
                    clear hSw
                    go_simp
                    try with_reducible rfl
                  try simp only [Act.put, List.setIfInBounds_toArray, List.set_cons_zero, List.set_cons_succ]
                  refine wpAnyT_takeL [] (i := 16) (v := ?_) rfl (by kernel_rfl) (by kernel_rfl) (by kernel_rfl) (by kernel_rfl) (fun _ _ _ h => h) (Or.inl ⟨by kernel_rfl, ?_⟩) (by with_reducible assumption) ?_
                  rotate_left
                  · intro w hSw
                    have z3 := hSw.1.cell 3
                    have y0 := hSw.2.1.cell 0
                    have y1 := hSw.2.1.cell 1
                    have x0 := hSw.2.2.cell 0
                    have x1 := hSw.2.2.cell 1
                    have x2 := hSw.2.2.cell 2
                    simp at z3 y0 y1 x0 x1 x2
                    clear hSw
                    go_simp
                    try with_reducible rfl
                  try simp only [Act.put, List.setIfInBounds_toArray, List.set_cons_zero, List.set_cons_succ]
                  refine wpAnyT_takeL [] (i := 17) (v := ?_) rfl (by kernel_rfl) (by kernel_rfl) (by kernel_rfl) (by kernel_rfl) (fun _ _ _ h => h) (Or.inl ⟨by kernel_rfl, ?_⟩) (by with_reducible assumption) ?_
                  rotate_left
                  · intro w hSw
                    have z3 := hSw.1.cell 3
                    have y0 := hSw.2.1.cell 0
                    have y1 := hSw.2.1.cell 1
                    have x0 := hSw.2.2.cell 0
                    have x1 := hSw.2.2.cell 1
                    have x2 := hSw.2.2.cell 2
                    simp at z3 y0 y1 x0 x1 x2
                    clear hSw
                    go_simp
                    try with_reducible rfl
                  try simp only [Act.put, List.setIfInBounds_toArray, List.set_cons_zero, List.set_cons_succ]
                  refine wpAnyT_takeL [] (i := 18) (v := ?_) rfl (by kernel_rfl) (by kernel_rfl) (by kernel_rfl) (by kernel_rfl) (fun _ _ _ h => h) (Or.inl ⟨by kernel_rfl, ?_⟩) (by with_reducible assumption) ?_
                  rotate_left
                  · intro w hSw
                    have z3 := hSw.1.cell 3
                    have y0 := hSw.2.1.cell 0
                    have y1 := hSw.2.1.cell 1
                    have x0 := hSw.2.2.cell 0
                    have x1 := hSw.2.2.cell 1
                    have x2 := hSw.2.2.cell 2
                    simp at z3 y0 y1 x0 x1 x2
                    clear hSw
                    go_simp
                    try with_reducible rfl
                  try simp only [Act.put, List.setIfInBounds_toArray, List.set_cons_zero, List.set_cons_succ]
                  refine wpAnyT_takeL [] (i := 19) (v := ?_) rfl (by kernel_rfl) (by kernel_rfl) (by kernel_rfl) (by kernel_rfl) (fun _ _ _ h => h) (Or.inl ⟨by kernel_rfl, ?_⟩) (by with_reducible assumption) ?_
                  rotate_left
                  · intro w hSw
                    have z3 := hSw.1.cell 3
                    have y0 := hSw.2.1.cell 0
                    have y1 := hSw.2.1.cell 1
                    have x0 := hSw.2.2.cell 0
                    have x1 := hSw.2.2.cell 1
                    have x2 := hSw.2.2.cell 2
                    simp at z3 y0 y1 x0 x1 x2
                    clear hSw
                    go_simp
                    try with_reducible rfl
                  try simp only [Act.put, List.setIfInBounds_toArray, List.set_cons_zero, List.set_cons_succ]
                  refine wpAnyT_takeL [] (i := 20) (v := ?_) rfl (by kernel_rfl) (by kernel_rfl) (by kernel_rfl) (by kernel_rfl) (fun _ _ _ h => h) (Or.inl ⟨by kernel_rfl, ?_⟩) (by with_reducible assumption) ?_
                  rotate_left
                  · intro w hSw
                    have z3 := hSw.1.cell 3
                    have y0 := hSw.2.1.cell 0
                    have y1 := hSw.2.1.cell 1
                    have x0 := hSw.2.2.cell 0
                    have x1 := hSw.2.2.cell 1
                    have x2 := hSw.2.2.cell 2
                    simp at z3 y0 y1 x0 x1 x2
                    clear hSw
                    go_simp
                    try with_reducible rfl
                  try simp only [Act.put, List.setIfInBounds_toArray, List.set_cons_zero, List.set_cons_succ]
                  refine wpAnyT_ready (rs := [15]) (by kernel_rfl) (by simp) ?_
                  refine AllReadyT.cons rfl (fun K hK => ?_) AllReadyT.nil
                  go_simp
                  refine (KS.out _).mono ?_
                  rintro e w5 ⟨rfl, hb⟩
                  have HI3 := Lib.hid ((HI2.out.call (Below.refl _ _).drew).call hb)
                  have hS5 := And.intro (hHeld.1.below hb hHeld.1.lt) (And.intro (hHeld.2.1.below hb hHeld.2.1.lt) (hHeld.2.2.below hb hHeld.2.2.lt))
                  clear hb
                  go_wp2_with fail
                  refine hK.out _ _ (fun _ => hS5) (fun hS_ => ?_)
                  have hHeld := hS_ (by omega)
                  clear hS_ hK K
                  try simp only [Act.put, List.setIfInBounds_toArray, List.set_cons_zero, List.set_cons_succ]
                  refine wpAnyT_takeL [] (i := 21) (v := ?_) rfl (by kernel_rfl) (by kernel_rfl) (by kernel_rfl) (by kernel_rfl) (fun _ _ _ h => h) (Or.inl ⟨by kernel_rfl, ?_⟩) (by with_reducible assumption) ?_
                  rotate_left
                  · intro w hSw
                    have z3 := hSw.1.cell 3
                    have y0 := hSw.2.1.cell 0
                    have y1 := hSw.2.1.cell 1
                    have x0 := hSw.2.2.cell 0
                    have x1 := hSw.2.2.cell 1
                    have x2 := hSw.2.2.cell 2
                    simp at z3 y0 y1 x0 x1 x2
                    clear hSw
                    go_simp
                    try with_reducible rfl
                  try simp only [Act.put, List.setIfInBounds_toArray, List.set_cons_zero, List.set_cons_succ]
                  refine wpAnyT_takeL [] (i := 22) (v := ?_) rfl (by kernel_rfl) (by kernel_rfl) (by kernel_rfl) (by kernel_rfl) (fun _ _ _ h => h) (Or.inl ⟨by kernel_rfl, ?_⟩) (by with_reducible assumption) ?_
                  rotate_left
                  · intro w hSw
                    have z3 := hSw.1.cell 3
                    have y0 := hSw.2.1.cell 0
                    have y1 := hSw.2.1.cell 1
                    have x0 := hSw.2.2.cell 0
                    have x1 := hSw.2.2.cell 1
                    have x2 := hSw.2.2.cell 2
                    simp at z3 y0 y1 x0 x1 x2
                    clear hSw
                    go_simp
                    try with_reducible rfl
                  try simp only [Act.put, List.setIfInBounds_toArray, List.set_cons_zero, List.set_cons_succ]
                  refine wpAnyT_done (by kernel_rfl) ?_ _
                  refine NoPanic.normal ?_
                  clear hHeld hS5
                  have hwa : IntKind.i64.wrap a2 = a2 := IntWalk.i64_in _ (by omega)
                  have hwb : wrap64 a2 = a2 := by unfold wrap64; omega
                  try simp only [hwa, hwb, hdec]
                  have HX2 : Hid (exB ap (thB seed sh) (rkI seed) (plI seed c) q d = false) := by
                    rw [HX.out, decide_eq_false (show ¬ S ≤ a2 from fun h => absurd HLE.out (by omega))]; unfold Hid; simp
                  have HXF : Hid (exB ap (thB seed sh) (rkI seed) (plI seed c) q (i + n, j + m) = false) := by rw [← HD.out]; exact HX2.out
                  go_wp2_with fail
                  go_roundw
                  case rel =>
                    exact ⟨n + 1, by omega, by omega, by go_num, fun x a b => by
                      by_cases hx : x = n
                      · subst hx; exact HXF.out
                      · exact HE2.out x a (by omega), HI3.out⟩
                  case measure => simp [intOf]; omega
            · have hf : Hid (fb = false) := HBF.out.trans (decide_eq_false (by omega))
              go_upto_region 12 with fail
              clear x3 y3
              by_cases heq5 : mw + n = lw + k
              · have HX2 : Hid (exB ap (thB seed sh) (rkI seed) (plI seed c) q d = false) := by
                  rw [HX.out, decide_eq_false (show ¬ d ≠ q from fun h => h (HEQ.out.2 heq5))]; unfold Hid; simp
                have hbn : (mw + n != lw + k) = false := by simpa using heq5
                refine wp_region_noPanic ?_
                refine wp_region_heldT (fun w' => Blk w' w.heap.size #[.int .u32 seed, .int .i64 c, .float .f32 sh, .int .i64 ap] 93 ∧ Blk w' (w.heap.size + 1) #[.int .i64 qx, .int .i64 qy, .bool tq, .int .u32 rq] 182 ∧ Blk w' kd #[.int .i64 dx, .int .i64 dy, .bool td, .int .u32 rd] 182) 23 (by kernel_rfl) ⟨HB2.out.1.drew, HB2.out.2.1.drew, HB2.out.2.2.drew⟩ (fun hHeld => ?_)
                refine wpAnyT_takeL [] (i := 0) (v := ?_) rfl (by kernel_rfl) (by kernel_rfl) (by kernel_rfl) (by kernel_rfl) (fun _ _ _ h => h) (Or.inl ⟨by kernel_rfl, ?_⟩) (by with_reducible assumption) ?_
                rotate_left
                · intro w hSw
                  have z3 := hSw.1.cell 3
                  have y0 := hSw.2.1.cell 0
                  have y1 := hSw.2.1.cell 1
                  have x0 := hSw.2.2.cell 0
                  have x1 := hSw.2.2.cell 1
                  have x2 := hSw.2.2.cell 2
                  simp at z3 y0 y1 x0 x1 x2
                  clear hSw
                  go_simp
                  try with_reducible rfl
                try simp only [Act.put, List.setIfInBounds_toArray, List.set_cons_zero, List.set_cons_succ]
                refine wpAnyT_takeL [] (i := 1) (v := ?_) rfl (by kernel_rfl) (by kernel_rfl) (by kernel_rfl) (by kernel_rfl) (fun _ _ _ h => h) (Or.inl ⟨by kernel_rfl, ?_⟩) (by with_reducible assumption) ?_
                rotate_left
                · intro w hSw
                  have z3 := hSw.1.cell 3
                  have y0 := hSw.2.1.cell 0
                  have y1 := hSw.2.1.cell 1
                  have x0 := hSw.2.2.cell 0
                  have x1 := hSw.2.2.cell 1
                  have x2 := hSw.2.2.cell 2
                  simp at z3 y0 y1 x0 x1 x2
                  clear hSw
                  go_simp
                  try with_reducible rfl
                try simp only [Act.put, List.setIfInBounds_toArray, List.set_cons_zero, List.set_cons_succ]
                refine wpAnyT_takeL [] (i := 2) (v := ?_) rfl (by kernel_rfl) (by kernel_rfl) (by kernel_rfl) (by kernel_rfl) (fun _ _ _ h => h) (Or.inl ⟨by kernel_rfl, ?_⟩) (by with_reducible assumption) ?_
                rotate_left
                · intro w hSw
                  have z3 := hSw.1.cell 3
                  have y0 := hSw.2.1.cell 0
                  have y1 := hSw.2.1.cell 1
                  have x0 := hSw.2.2.cell 0
                  have x1 := hSw.2.2.cell 1
                  have x2 := hSw.2.2.cell 2
                  simp at z3 y0 y1 x0 x1 x2
                  clear hSw
                  go_simp
                  try with_reducible rfl
                try simp only [Act.put, List.setIfInBounds_toArray, List.set_cons_zero, List.set_cons_succ]
                try simp only [hbn]
                refine wpAnyT_takeL [] (i := 3) (v := ?_) rfl (by kernel_rfl) (by kernel_rfl) (by kernel_rfl) (by kernel_rfl) (fun _ _ _ h => h) (Or.inl ⟨by kernel_rfl, ?_⟩) (by with_reducible assumption) ?_
                rotate_left
                · intro w hSw
                  have z3 := hSw.1.cell 3
                  have y0 := hSw.2.1.cell 0
                  have y1 := hSw.2.1.cell 1
                  have x0 := hSw.2.2.cell 0
                  have x1 := hSw.2.2.cell 1
                  have x2 := hSw.2.2.cell 2
                  simp at z3 y0 y1 x0 x1 x2
                  clear hSw
                  go_simp
                  try with_reducible rfl
                try simp only [Act.put, List.setIfInBounds_toArray, List.set_cons_zero, List.set_cons_succ]
                refine wpAnyT_takeL [] (i := 4) (v := undef) rfl (by kernel_rfl) (by kernel_rfl) (by kernel_rfl) (by kernel_rfl) (fun _ _ _ h => h) (Or.inr ⟨by kernel_rfl, rfl⟩) (by with_reducible assumption) ?_
                try simp only [Act.put, List.setIfInBounds_toArray, List.set_cons_zero, List.set_cons_succ]
                refine wpAnyT_takeL [] (i := 5) (v := undef) rfl (by kernel_rfl) (by kernel_rfl) (by kernel_rfl) (by kernel_rfl) (fun _ _ _ h => h) (Or.inr ⟨by kernel_rfl, rfl⟩) (by with_reducible assumption) ?_
                try simp only [Act.put, List.setIfInBounds_toArray, List.set_cons_zero, List.set_cons_succ]
                refine wpAnyT_takeL [] (i := 6) (v := ?_) rfl (by kernel_rfl) (by kernel_rfl) (by kernel_rfl) (by kernel_rfl) (fun _ _ _ h => h) (Or.inl ⟨by kernel_rfl, ?_⟩) (by with_reducible assumption) ?_
                rotate_left
                · intro w hSw
                  have z3 := hSw.1.cell 3
                  have y0 := hSw.2.1.cell 0
                  have y1 := hSw.2.1.cell 1
                  have x0 := hSw.2.2.cell 0
                  have x1 := hSw.2.2.cell 1
                  have x2 := hSw.2.2.cell 2
                  simp at z3 y0 y1 x0 x1 x2
                  clear hSw
                  go_simp
                  try with_reducible rfl
                try simp only [Act.put, List.setIfInBounds_toArray, List.set_cons_zero, List.set_cons_succ]
                refine wpAnyT_takeL [] (i := 7) (v := ?_) rfl (by kernel_rfl) (by kernel_rfl) (by kernel_rfl) (by kernel_rfl) (fun _ _ _ h => h) (Or.inl ⟨by kernel_rfl, ?_⟩) (by with_reducible assumption) ?_
                rotate_left
                · intro w hSw
                  have z3 := hSw.1.cell 3
                  have y0 := hSw.2.1.cell 0
                  have y1 := hSw.2.1.cell 1
                  have x0 := hSw.2.2.cell 0
                  have x1 := hSw.2.2.cell 1
                  have x2 := hSw.2.2.cell 2
                  simp at z3 y0 y1 x0 x1 x2
                  clear hSw
                  go_simp
                  try with_reducible rfl
                try simp only [Act.put, List.setIfInBounds_toArray, List.set_cons_zero, List.set_cons_succ]
                refine wpAnyT_takeL [] (i := 8) (v := undef) rfl (by kernel_rfl) (by kernel_rfl) (by kernel_rfl) (by kernel_rfl) (fun _ _ _ h => h) (Or.inr ⟨by kernel_rfl, rfl⟩) (by with_reducible assumption) ?_
                try simp only [Act.put, List.setIfInBounds_toArray, List.set_cons_zero, List.set_cons_succ]
                refine wpAnyT_takeL [] (i := 9) (v := ?_) rfl (by kernel_rfl) (by kernel_rfl) (by kernel_rfl) (by kernel_rfl) (fun _ _ _ h => h) (Or.inl ⟨by kernel_rfl, ?_⟩) (by with_reducible assumption) ?_
                rotate_left
                · intro w hSw
                  have z3 := hSw.1.cell 3
                  have y0 := hSw.2.1.cell 0
                  have y1 := hSw.2.1.cell 1
                  have x0 := hSw.2.2.cell 0
                  have x1 := hSw.2.2.cell 1
                  have x2 := hSw.2.2.cell 2
                  simp at z3 y0 y1 x0 x1 x2
                  clear hSw
                  go_simp
                  try with_reducible rfl
                try simp only [Act.put, List.setIfInBounds_toArray, List.set_cons_zero, List.set_cons_succ]
                refine wpAnyT_takeL [] (i := 10) (v := ?_) rfl (by kernel_rfl) (by kernel_rfl) (by kernel_rfl) (by kernel_rfl) (fun _ _ _ h => h) (Or.inl ⟨by kernel_rfl, ?_⟩) (by with_reducible assumption) ?_
                rotate_left
                · intro w hSw
                  have z3 := hSw.1.cell 3
                  have y0 := hSw.2.1.cell 0
                  have y1 := hSw.2.1.cell 1
                  have x0 := hSw.2.2.cell 0
                  have x1 := hSw.2.2.cell 1
                  have x2 := hSw.2.2.cell 2
                  simp at z3 y0 y1 x0 x1 x2
                  clear hSw
                  go_simp
                  try with_reducible rfl
                try simp only [Act.put, List.setIfInBounds_toArray, List.set_cons_zero, List.set_cons_succ]
                refine wpAnyT_takeL [] (i := 11) (v := undef) rfl (by kernel_rfl) (by kernel_rfl) (by kernel_rfl) (by kernel_rfl) (fun _ _ _ h => h) (Or.inr ⟨by kernel_rfl, rfl⟩) (by with_reducible assumption) ?_
                try simp only [Act.put, List.setIfInBounds_toArray, List.set_cons_zero, List.set_cons_succ]
                refine wpAnyT_takeL [] (i := 12) (v := undef) rfl (by kernel_rfl) (by kernel_rfl) (by kernel_rfl) (by kernel_rfl) (fun _ _ _ h => h) (Or.inr ⟨by kernel_rfl, rfl⟩) (by with_reducible assumption) ?_
                try simp only [Act.put, List.setIfInBounds_toArray, List.set_cons_zero, List.set_cons_succ]
                refine wpAnyT_takeL [] (i := 13) (v := undef) rfl (by kernel_rfl) (by kernel_rfl) (by kernel_rfl) (by kernel_rfl) (fun _ _ _ h => h) (Or.inr ⟨by kernel_rfl, rfl⟩) (by with_reducible assumption) ?_
                try simp only [Act.put, List.setIfInBounds_toArray, List.set_cons_zero, List.set_cons_succ]
                refine wpAnyT_takeL [] (i := 14) (v := undef) rfl (by kernel_rfl) (by kernel_rfl) (by kernel_rfl) (by kernel_rfl) (fun _ _ _ h => h) (Or.inr ⟨by kernel_rfl, rfl⟩) (by with_reducible assumption) ?_
                try simp only [Act.put, List.setIfInBounds_toArray, List.set_cons_zero, List.set_cons_succ]
                refine wpAnyT_takeL [] (i := 15) (v := undef) rfl (by kernel_rfl) (by kernel_rfl) (by kernel_rfl) (by kernel_rfl) (fun _ _ _ h => h) (Or.inr ⟨by kernel_rfl, rfl⟩) (by with_reducible assumption) ?_
                try simp only [Act.put, List.setIfInBounds_toArray, List.set_cons_zero, List.set_cons_succ]
                refine wpAnyT_takeL [] (i := 16) (v := undef) rfl (by kernel_rfl) (by kernel_rfl) (by kernel_rfl) (by kernel_rfl) (fun _ _ _ h => h) (Or.inr ⟨by kernel_rfl, rfl⟩) (by with_reducible assumption) ?_
                try simp only [Act.put, List.setIfInBounds_toArray, List.set_cons_zero, List.set_cons_succ]
                refine wpAnyT_takeL [] (i := 17) (v := undef) rfl (by kernel_rfl) (by kernel_rfl) (by kernel_rfl) (by kernel_rfl) (fun _ _ _ h => h) (Or.inr ⟨by kernel_rfl, rfl⟩) (by with_reducible assumption) ?_
                try simp only [Act.put, List.setIfInBounds_toArray, List.set_cons_zero, List.set_cons_succ]
                refine wpAnyT_takeL [] (i := 18) (v := undef) rfl (by kernel_rfl) (by kernel_rfl) (by kernel_rfl) (by kernel_rfl) (fun _ _ _ h => h) (Or.inr ⟨by kernel_rfl, rfl⟩) (by with_reducible assumption) ?_
                try simp only [Act.put, List.setIfInBounds_toArray, List.set_cons_zero, List.set_cons_succ]
                refine wpAnyT_takeL [] (i := 19) (v := undef) rfl (by kernel_rfl) (by kernel_rfl) (by kernel_rfl) (by kernel_rfl) (fun _ _ _ h => h) (Or.inr ⟨by kernel_rfl, rfl⟩) (by with_reducible assumption) ?_
                try simp only [Act.put, List.setIfInBounds_toArray, List.set_cons_zero, List.set_cons_succ]
                refine wpAnyT_takeL [] (i := 20) (v := undef) rfl (by kernel_rfl) (by kernel_rfl) (by kernel_rfl) (by kernel_rfl) (fun _ _ _ h => h) (Or.inr ⟨by kernel_rfl, rfl⟩) (by with_reducible assumption) ?_
                try simp only [Act.put, List.setIfInBounds_toArray, List.set_cons_zero, List.set_cons_succ]
                refine wpAnyT_takeL [] (i := 21) (v := undef) rfl (by kernel_rfl) (by kernel_rfl) (by kernel_rfl) (by kernel_rfl) (fun _ _ _ h => h) (Or.inr ⟨by kernel_rfl, rfl⟩) (by with_reducible assumption) ?_
                try simp only [Act.put, List.setIfInBounds_toArray, List.set_cons_zero, List.set_cons_succ]
                refine wpAnyT_takeL [] (i := 22) (v := ?_) rfl (by kernel_rfl) (by kernel_rfl) (by kernel_rfl) (by kernel_rfl) (fun _ _ _ h => h) (Or.inl ⟨by kernel_rfl, ?_⟩) (by with_reducible assumption) ?_
                rotate_left
                · intro w hSw
                  have z3 := hSw.1.cell 3
                  have y0 := hSw.2.1.cell 0
                  have y1 := hSw.2.1.cell 1
                  have x0 := hSw.2.2.cell 0
                  have x1 := hSw.2.2.cell 1
                  have x2 := hSw.2.2.cell 2
                  simp at z3 y0 y1 x0 x1 x2
                  clear hSw
                  go_simp
                  try with_reducible rfl
                try simp only [Act.put, List.setIfInBounds_toArray, List.set_cons_zero, List.set_cons_succ]
                refine wpAnyT_done (by kernel_rfl) ?_ _
                refine NoPanic.normal ?_
                clear hHeld
                have HI3 := Lib.hid (HI2.out.call (Below.refl _ _).drew)
                have HXF : Hid (exB ap (thB seed sh) (rkI seed) (plI seed c) q (i + n, j + m) = false) := by rw [← HD.out]; exact HX2.out
                go_wp2_with fail
                go_roundw
                case rel =>
                  exact ⟨n + 1, by omega, by omega, by go_num, fun x a b => by
                    by_cases hx : x = n
                    · subst hx; exact HXF.out
                    · exact HE2.out x a (by omega), HI3.out⟩
                case measure => simp [intOf]; omega
              · have hbn : (mw + n != lw + k) = true := by simpa using heq5
                cases td with
                | false =>
                  have HX2 : Hid (exB ap (thB seed sh) (rkI seed) (plI seed c) q d = false) := by
                    rw [HX.out]; unfold Hid; simp
                  refine wp_region_noPanic ?_
                  refine wp_region_heldT (fun w' => Blk w' w.heap.size #[.int .u32 seed, .int .i64 c, .float .f32 sh, .int .i64 ap] 93 ∧ Blk w' (w.heap.size + 1) #[.int .i64 qx, .int .i64 qy, .bool tq, .int .u32 rq] 182 ∧ Blk w' kd #[.int .i64 dx, .int .i64 dy, .bool false, .int .u32 rd] 182) 23 (by kernel_rfl) ⟨HB2.out.1.drew, HB2.out.2.1.drew, HB2.out.2.2.drew⟩ (fun hHeld => ?_)
                  refine wpAnyT_takeL [] (i := 0) (v := ?_) rfl (by kernel_rfl) (by kernel_rfl) (by kernel_rfl) (by kernel_rfl) (fun _ _ _ h => h) (Or.inl ⟨by kernel_rfl, ?_⟩) (by with_reducible assumption) ?_
                  rotate_left
                  · intro w hSw
                    have z3 := hSw.1.cell 3
                    have y0 := hSw.2.1.cell 0
                    have y1 := hSw.2.1.cell 1
                    have x0 := hSw.2.2.cell 0
                    have x1 := hSw.2.2.cell 1
                    have x2 := hSw.2.2.cell 2
                    simp at z3 y0 y1 x0 x1 x2
                    clear hSw
                    go_simp
                    try with_reducible rfl
                  try simp only [Act.put, List.setIfInBounds_toArray, List.set_cons_zero, List.set_cons_succ]
                  refine wpAnyT_takeL [] (i := 1) (v := ?_) rfl (by kernel_rfl) (by kernel_rfl) (by kernel_rfl) (by kernel_rfl) (fun _ _ _ h => h) (Or.inl ⟨by kernel_rfl, ?_⟩) (by with_reducible assumption) ?_
                  rotate_left
                  · intro w hSw
                    have z3 := hSw.1.cell 3
                    have y0 := hSw.2.1.cell 0
                    have y1 := hSw.2.1.cell 1
                    have x0 := hSw.2.2.cell 0
                    have x1 := hSw.2.2.cell 1
                    have x2 := hSw.2.2.cell 2
                    simp at z3 y0 y1 x0 x1 x2
                    clear hSw
                    go_simp
                    try with_reducible rfl
                  try simp only [Act.put, List.setIfInBounds_toArray, List.set_cons_zero, List.set_cons_succ]
                  refine wpAnyT_takeL [] (i := 2) (v := ?_) rfl (by kernel_rfl) (by kernel_rfl) (by kernel_rfl) (by kernel_rfl) (fun _ _ _ h => h) (Or.inl ⟨by kernel_rfl, ?_⟩) (by with_reducible assumption) ?_
                  rotate_left
                  · intro w hSw
                    have z3 := hSw.1.cell 3
                    have y0 := hSw.2.1.cell 0
                    have y1 := hSw.2.1.cell 1
                    have x0 := hSw.2.2.cell 0
                    have x1 := hSw.2.2.cell 1
                    have x2 := hSw.2.2.cell 2
                    simp at z3 y0 y1 x0 x1 x2
                    clear hSw
                    go_simp
                    try with_reducible rfl
                  try simp only [Act.put, List.setIfInBounds_toArray, List.set_cons_zero, List.set_cons_succ]
                  try simp only [hbn]
                  refine wpAnyT_takeL [] (i := 3) (v := ?_) rfl (by kernel_rfl) (by kernel_rfl) (by kernel_rfl) (by kernel_rfl) (fun _ _ _ h => h) (Or.inl ⟨by kernel_rfl, ?_⟩) (by with_reducible assumption) ?_
                  rotate_left
                  · intro w hSw
                    have z3 := hSw.1.cell 3
                    have y0 := hSw.2.1.cell 0
                    have y1 := hSw.2.1.cell 1
                    have x0 := hSw.2.2.cell 0
                    have x1 := hSw.2.2.cell 1
                    have x2 := hSw.2.2.cell 2
                    simp at z3 y0 y1 x0 x1 x2
                    clear hSw
                    go_simp
                    try with_reducible rfl
                  try simp only [Act.put, List.setIfInBounds_toArray, List.set_cons_zero, List.set_cons_succ]
                  refine wpAnyT_takeL [] (i := 4) (v := ?_) rfl (by kernel_rfl) (by kernel_rfl) (by kernel_rfl) (by kernel_rfl) (fun _ _ _ h => h) (Or.inl ⟨by kernel_rfl, ?_⟩) (by with_reducible assumption) ?_
                  rotate_left
                  · intro w hSw
                    have z3 := hSw.1.cell 3
                    have y0 := hSw.2.1.cell 0
                    have y1 := hSw.2.1.cell 1
                    have x0 := hSw.2.2.cell 0
                    have x1 := hSw.2.2.cell 1
                    have x2 := hSw.2.2.cell 2
                    simp at z3 y0 y1 x0 x1 x2
                    clear hSw
                    go_simp
                    try with_reducible rfl
                  try simp only [Act.put, List.setIfInBounds_toArray, List.set_cons_zero, List.set_cons_succ]
                  refine wpAnyT_takeL [] (i := 5) (v := ?_) rfl (by kernel_rfl) (by kernel_rfl) (by kernel_rfl) (by kernel_rfl) (fun _ _ _ h => h) (Or.inl ⟨by kernel_rfl, ?_⟩) (by with_reducible assumption) ?_
                  rotate_left
                  · intro w hSw
                    have z3 := hSw.1.cell 3
                    have y0 := hSw.2.1.cell 0
                    have y1 := hSw.2.1.cell 1
                    have x0 := hSw.2.2.cell 0
                    have x1 := hSw.2.2.cell 1
                    have x2 := hSw.2.2.cell 2
                    simp at z3 y0 y1 x0 x1 x2
                    clear hSw
                    go_simp
                    try with_reducible rfl
                  try simp only [Act.put, List.setIfInBounds_toArray, List.set_cons_zero, List.set_cons_succ]
                  refine wpAnyT_takeL [] (i := 6) (v := ?_) rfl (by kernel_rfl) (by kernel_rfl) (by kernel_rfl) (by kernel_rfl) (fun _ _ _ h => h) (Or.inl ⟨by kernel_rfl, ?_⟩) (by with_reducible assumption) ?_
                  rotate_left
                  · intro w hSw
                    have z3 := hSw.1.cell 3
                    have y0 := hSw.2.1.cell 0
                    have y1 := hSw.2.1.cell 1
                    have x0 := hSw.2.2.cell 0
                    have x1 := hSw.2.2.cell 1
                    have x2 := hSw.2.2.cell 2
                    simp at z3 y0 y1 x0 x1 x2
                    clear hSw
                    go_simp
                    try with_reducible rfl
                  try simp only [Act.put, List.setIfInBounds_toArray, List.set_cons_zero, List.set_cons_succ]
                  refine wpAnyT_takeL [] (i := 7) (v := ?_) rfl (by kernel_rfl) (by kernel_rfl) (by kernel_rfl) (by kernel_rfl) (fun _ _ _ h => h) (Or.inl ⟨by kernel_rfl, ?_⟩) (by with_reducible assumption) ?_
                  rotate_left
                  · intro w hSw
                    have z3 := hSw.1.cell 3
                    have y0 := hSw.2.1.cell 0
                    have y1 := hSw.2.1.cell 1
                    have x0 := hSw.2.2.cell 0
                    have x1 := hSw.2.2.cell 1
                    have x2 := hSw.2.2.cell 2
                    simp at z3 y0 y1 x0 x1 x2
                    clear hSw
                    go_simp
                    try with_reducible rfl
                  try simp only [Act.put, List.setIfInBounds_toArray, List.set_cons_zero, List.set_cons_succ]
                  refine wpAnyT_takeL [] (i := 8) (v := undef) rfl (by kernel_rfl) (by kernel_rfl) (by kernel_rfl) (by kernel_rfl) (fun _ _ _ h => h) (Or.inr ⟨by kernel_rfl, rfl⟩) (by with_reducible assumption) ?_
                  try simp only [Act.put, List.setIfInBounds_toArray, List.set_cons_zero, List.set_cons_succ]
                  refine wpAnyT_takeL [] (i := 9) (v := ?_) rfl (by kernel_rfl) (by kernel_rfl) (by kernel_rfl) (by kernel_rfl) (fun _ _ _ h => h) (Or.inl ⟨by kernel_rfl, ?_⟩) (by with_reducible assumption) ?_
                  rotate_left
                  · intro w hSw
                    have z3 := hSw.1.cell 3
                    have y0 := hSw.2.1.cell 0
                    have y1 := hSw.2.1.cell 1
                    have x0 := hSw.2.2.cell 0
                    have x1 := hSw.2.2.cell 1
                    have x2 := hSw.2.2.cell 2
                    simp at z3 y0 y1 x0 x1 x2
                    clear hSw
                    go_simp
                    try with_reducible rfl
                  try simp only [Act.put, List.setIfInBounds_toArray, List.set_cons_zero, List.set_cons_succ]
                  refine wpAnyT_takeL [] (i := 10) (v := ?_) rfl (by kernel_rfl) (by kernel_rfl) (by kernel_rfl) (by kernel_rfl) (fun _ _ _ h => h) (Or.inl ⟨by kernel_rfl, ?_⟩) (by with_reducible assumption) ?_
                  rotate_left
                  · intro w hSw
                    have z3 := hSw.1.cell 3
                    have y0 := hSw.2.1.cell 0
                    have y1 := hSw.2.1.cell 1
                    have x0 := hSw.2.2.cell 0
                    have x1 := hSw.2.2.cell 1
                    have x2 := hSw.2.2.cell 2
                    simp at z3 y0 y1 x0 x1 x2
                    clear hSw
                    go_simp
                    try with_reducible rfl
                  try simp only [Act.put, List.setIfInBounds_toArray, List.set_cons_zero, List.set_cons_succ]
                  refine wpAnyT_takeL [] (i := 11) (v := undef) rfl (by kernel_rfl) (by kernel_rfl) (by kernel_rfl) (by kernel_rfl) (fun _ _ _ h => h) (Or.inr ⟨by kernel_rfl, rfl⟩) (by with_reducible assumption) ?_
                  try simp only [Act.put, List.setIfInBounds_toArray, List.set_cons_zero, List.set_cons_succ]
                  refine wpAnyT_takeL [] (i := 12) (v := undef) rfl (by kernel_rfl) (by kernel_rfl) (by kernel_rfl) (by kernel_rfl) (fun _ _ _ h => h) (Or.inr ⟨by kernel_rfl, rfl⟩) (by with_reducible assumption) ?_
                  try simp only [Act.put, List.setIfInBounds_toArray, List.set_cons_zero, List.set_cons_succ]
                  refine wpAnyT_takeL [] (i := 13) (v := undef) rfl (by kernel_rfl) (by kernel_rfl) (by kernel_rfl) (by kernel_rfl) (fun _ _ _ h => h) (Or.inr ⟨by kernel_rfl, rfl⟩) (by with_reducible assumption) ?_
                  try simp only [Act.put, List.setIfInBounds_toArray, List.set_cons_zero, List.set_cons_succ]
                  refine wpAnyT_takeL [] (i := 14) (v := undef) rfl (by kernel_rfl) (by kernel_rfl) (by kernel_rfl) (by kernel_rfl) (fun _ _ _ h => h) (Or.inr ⟨by kernel_rfl, rfl⟩) (by with_reducible assumption) ?_
                  try simp only [Act.put, List.setIfInBounds_toArray, List.set_cons_zero, List.set_cons_succ]
                  refine wpAnyT_takeL [] (i := 15) (v := undef) rfl (by kernel_rfl) (by kernel_rfl) (by kernel_rfl) (by kernel_rfl) (fun _ _ _ h => h) (Or.inr ⟨by kernel_rfl, rfl⟩) (by with_reducible assumption) ?_
                  try simp only [Act.put, List.setIfInBounds_toArray, List.set_cons_zero, List.set_cons_succ]
                  refine wpAnyT_takeL [] (i := 16) (v := undef) rfl (by kernel_rfl) (by kernel_rfl) (by kernel_rfl) (by kernel_rfl) (fun _ _ _ h => h) (Or.inr ⟨by kernel_rfl, rfl⟩) (by with_reducible assumption) ?_
                  try simp only [Act.put, List.setIfInBounds_toArray, List.set_cons_zero, List.set_cons_succ]
                  refine wpAnyT_takeL [] (i := 17) (v := undef) rfl (by kernel_rfl) (by kernel_rfl) (by kernel_rfl) (by kernel_rfl) (fun _ _ _ h => h) (Or.inr ⟨by kernel_rfl, rfl⟩) (by with_reducible assumption) ?_
                  try simp only [Act.put, List.setIfInBounds_toArray, List.set_cons_zero, List.set_cons_succ]
                  refine wpAnyT_takeL [] (i := 18) (v := undef) rfl (by kernel_rfl) (by kernel_rfl) (by kernel_rfl) (by kernel_rfl) (fun _ _ _ h => h) (Or.inr ⟨by kernel_rfl, rfl⟩) (by with_reducible assumption) ?_
                  try simp only [Act.put, List.setIfInBounds_toArray, List.set_cons_zero, List.set_cons_succ]
                  refine wpAnyT_takeL [] (i := 19) (v := undef) rfl (by kernel_rfl) (by kernel_rfl) (by kernel_rfl) (by kernel_rfl) (fun _ _ _ h => h) (Or.inr ⟨by kernel_rfl, rfl⟩) (by with_reducible assumption) ?_
                  try simp only [Act.put, List.setIfInBounds_toArray, List.set_cons_zero, List.set_cons_succ]
                  refine wpAnyT_takeL [] (i := 20) (v := undef) rfl (by kernel_rfl) (by kernel_rfl) (by kernel_rfl) (by kernel_rfl) (fun _ _ _ h => h) (Or.inr ⟨by kernel_rfl, rfl⟩) (by with_reducible assumption) ?_
                  try simp only [Act.put, List.setIfInBounds_toArray, List.set_cons_zero, List.set_cons_succ]
                  refine wpAnyT_takeL [] (i := 21) (v := undef) rfl (by kernel_rfl) (by kernel_rfl) (by kernel_rfl) (by kernel_rfl) (fun _ _ _ h => h) (Or.inr ⟨by kernel_rfl, rfl⟩) (by with_reducible assumption) ?_
                  try simp only [Act.put, List.setIfInBounds_toArray, List.set_cons_zero, List.set_cons_succ]
                  refine wpAnyT_takeL [] (i := 22) (v := ?_) rfl (by kernel_rfl) (by kernel_rfl) (by kernel_rfl) (by kernel_rfl) (fun _ _ _ h => h) (Or.inl ⟨by kernel_rfl, ?_⟩) (by with_reducible assumption) ?_
                  rotate_left
                  · intro w hSw
                    have z3 := hSw.1.cell 3
                    have y0 := hSw.2.1.cell 0
                    have y1 := hSw.2.1.cell 1
                    have x0 := hSw.2.2.cell 0
                    have x1 := hSw.2.2.cell 1
                    have x2 := hSw.2.2.cell 2
                    simp at z3 y0 y1 x0 x1 x2
                    clear hSw
                    go_simp
                    try with_reducible rfl
                  try simp only [Act.put, List.setIfInBounds_toArray, List.set_cons_zero, List.set_cons_succ]
                  refine wpAnyT_done (by kernel_rfl) ?_ _
                  refine NoPanic.normal ?_
                  clear hHeld
                  have HI3 := Lib.hid (HI2.out.call (Below.refl _ _).drew)
                  have HXF : Hid (exB ap (thB seed sh) (rkI seed) (plI seed c) q (i + n, j + m) = false) := by rw [← HD.out]; exact HX2.out
                  go_wp2_with fail
                  go_roundw
                  case rel =>
                    exact ⟨n + 1, by omega, by omega, by go_num, fun x a b => by
                      by_cases hx : x = n
                      · subst hx; exact HXF.out
                      · exact HE2.out x a (by omega), HI3.out⟩
                  case measure => simp [intOf]; omega
                | true =>
                  have HX2 : Hid (exB ap (thB seed sh) (rkI seed) (plI seed c) q d = false) := by
                    rw [HX.out, hf.out]; unfold Hid; simp
                  refine wp_region_noPanic ?_
                  refine wp_region_heldT (fun w' => Blk w' w.heap.size #[.int .u32 seed, .int .i64 c, .float .f32 sh, .int .i64 ap] 93 ∧ Blk w' (w.heap.size + 1) #[.int .i64 qx, .int .i64 qy, .bool tq, .int .u32 rq] 182 ∧ Blk w' kd #[.int .i64 dx, .int .i64 dy, .bool true, .int .u32 rd] 182) 23 (by kernel_rfl) ⟨HB2.out.1.drew, HB2.out.2.1.drew, HB2.out.2.2.drew⟩ (fun hHeld => ?_)
                  refine wpAnyT_takeL [] (i := 0) (v := ?_) rfl (by kernel_rfl) (by kernel_rfl) (by kernel_rfl) (by kernel_rfl) (fun _ _ _ h => h) (Or.inl ⟨by kernel_rfl, ?_⟩) (by with_reducible assumption) ?_
                  rotate_left
                  · intro w hSw
                    have z3 := hSw.1.cell 3
                    have y0 := hSw.2.1.cell 0
                    have y1 := hSw.2.1.cell 1
                    have x0 := hSw.2.2.cell 0
                    have x1 := hSw.2.2.cell 1
                    have x2 := hSw.2.2.cell 2
                    simp at z3 y0 y1 x0 x1 x2
                    clear hSw
                    go_simp
                    try with_reducible rfl
                  try simp only [Act.put, List.setIfInBounds_toArray, List.set_cons_zero, List.set_cons_succ]
                  refine wpAnyT_takeL [] (i := 1) (v := ?_) rfl (by kernel_rfl) (by kernel_rfl) (by kernel_rfl) (by kernel_rfl) (fun _ _ _ h => h) (Or.inl ⟨by kernel_rfl, ?_⟩) (by with_reducible assumption) ?_
                  rotate_left
                  · intro w hSw
                    have z3 := hSw.1.cell 3
                    have y0 := hSw.2.1.cell 0
                    have y1 := hSw.2.1.cell 1
                    have x0 := hSw.2.2.cell 0
                    have x1 := hSw.2.2.cell 1
                    have x2 := hSw.2.2.cell 2
                    simp at z3 y0 y1 x0 x1 x2
                    clear hSw
                    go_simp
                    try with_reducible rfl
                  try simp only [Act.put, List.setIfInBounds_toArray, List.set_cons_zero, List.set_cons_succ]
                  refine wpAnyT_takeL [] (i := 2) (v := ?_) rfl (by kernel_rfl) (by kernel_rfl) (by kernel_rfl) (by kernel_rfl) (fun _ _ _ h => h) (Or.inl ⟨by kernel_rfl, ?_⟩) (by with_reducible assumption) ?_
                  rotate_left
                  · intro w hSw
                    have z3 := hSw.1.cell 3
                    have y0 := hSw.2.1.cell 0
                    have y1 := hSw.2.1.cell 1
                    have x0 := hSw.2.2.cell 0
                    have x1 := hSw.2.2.cell 1
                    have x2 := hSw.2.2.cell 2
                    simp at z3 y0 y1 x0 x1 x2
                    clear hSw
                    go_simp
                    try with_reducible rfl
                  try simp only [Act.put, List.setIfInBounds_toArray, List.set_cons_zero, List.set_cons_succ]
                  try simp only [hbn]
                  refine wpAnyT_takeL [] (i := 3) (v := ?_) rfl (by kernel_rfl) (by kernel_rfl) (by kernel_rfl) (by kernel_rfl) (fun _ _ _ h => h) (Or.inl ⟨by kernel_rfl, ?_⟩) (by with_reducible assumption) ?_
                  rotate_left
                  · intro w hSw
                    have z3 := hSw.1.cell 3
                    have y0 := hSw.2.1.cell 0
                    have y1 := hSw.2.1.cell 1
                    have x0 := hSw.2.2.cell 0
                    have x1 := hSw.2.2.cell 1
                    have x2 := hSw.2.2.cell 2
                    simp at z3 y0 y1 x0 x1 x2
                    clear hSw
                    go_simp
                    try with_reducible rfl
                  try simp only [Act.put, List.setIfInBounds_toArray, List.set_cons_zero, List.set_cons_succ]
                  refine wpAnyT_takeL [] (i := 4) (v := ?_) rfl (by kernel_rfl) (by kernel_rfl) (by kernel_rfl) (by kernel_rfl) (fun _ _ _ h => h) (Or.inl ⟨by kernel_rfl, ?_⟩) (by with_reducible assumption) ?_
                  rotate_left
                  · intro w hSw
                    have z3 := hSw.1.cell 3
                    have y0 := hSw.2.1.cell 0
                    have y1 := hSw.2.1.cell 1
                    have x0 := hSw.2.2.cell 0
                    have x1 := hSw.2.2.cell 1
                    have x2 := hSw.2.2.cell 2
                    simp at z3 y0 y1 x0 x1 x2
                    clear hSw
                    go_simp
                    try with_reducible rfl
                  try simp only [Act.put, List.setIfInBounds_toArray, List.set_cons_zero, List.set_cons_succ]
                  refine wpAnyT_takeL [] (i := 5) (v := ?_) rfl (by kernel_rfl) (by kernel_rfl) (by kernel_rfl) (by kernel_rfl) (fun _ _ _ h => h) (Or.inl ⟨by kernel_rfl, ?_⟩) (by with_reducible assumption) ?_
                  rotate_left
                  · intro w hSw
                    have z3 := hSw.1.cell 3
                    have y0 := hSw.2.1.cell 0
                    have y1 := hSw.2.1.cell 1
                    have x0 := hSw.2.2.cell 0
                    have x1 := hSw.2.2.cell 1
                    have x2 := hSw.2.2.cell 2
                    simp at z3 y0 y1 x0 x1 x2
                    clear hSw
                    go_simp
                    try with_reducible rfl
                  try simp only [Act.put, List.setIfInBounds_toArray, List.set_cons_zero, List.set_cons_succ]
                  refine wpAnyT_takeL [] (i := 6) (v := ?_) rfl (by kernel_rfl) (by kernel_rfl) (by kernel_rfl) (by kernel_rfl) (fun _ _ _ h => h) (Or.inl ⟨by kernel_rfl, ?_⟩) (by with_reducible assumption) ?_
                  rotate_left
                  · intro w hSw
                    have z3 := hSw.1.cell 3
                    have y0 := hSw.2.1.cell 0
                    have y1 := hSw.2.1.cell 1
                    have x0 := hSw.2.2.cell 0
                    have x1 := hSw.2.2.cell 1
                    have x2 := hSw.2.2.cell 2
                    simp at z3 y0 y1 x0 x1 x2
                    clear hSw
                    go_simp
                    try with_reducible rfl
                  try simp only [Act.put, List.setIfInBounds_toArray, List.set_cons_zero, List.set_cons_succ]
                  refine wpAnyT_takeL [] (i := 7) (v := ?_) rfl (by kernel_rfl) (by kernel_rfl) (by kernel_rfl) (by kernel_rfl) (fun _ _ _ h => h) (Or.inl ⟨by kernel_rfl, ?_⟩) (by with_reducible assumption) ?_
                  rotate_left
                  · intro w hSw
                    have z3 := hSw.1.cell 3
                    have y0 := hSw.2.1.cell 0
                    have y1 := hSw.2.1.cell 1
                    have x0 := hSw.2.2.cell 0
                    have x1 := hSw.2.2.cell 1
                    have x2 := hSw.2.2.cell 2
                    simp at z3 y0 y1 x0 x1 x2
                    clear hSw
                    go_simp
                    try with_reducible rfl
                  try simp only [Act.put, List.setIfInBounds_toArray, List.set_cons_zero, List.set_cons_succ]
                  refine wpAnyT_takeL [] (i := 8) (v := ?_) rfl (by kernel_rfl) (by kernel_rfl) (by kernel_rfl) (by kernel_rfl) (fun _ _ _ h => h) (Or.inl ⟨by kernel_rfl, ?_⟩) (by with_reducible assumption) ?_
                  rotate_left
                  · intro w hSw
                    have z3 := hSw.1.cell 3
                    have y0 := hSw.2.1.cell 0
                    have y1 := hSw.2.1.cell 1
                    have x0 := hSw.2.2.cell 0
                    have x1 := hSw.2.2.cell 1
                    have x2 := hSw.2.2.cell 2
                    simp at z3 y0 y1 x0 x1 x2
                    clear hSw
                    go_simp
                    try with_reducible rfl
                  try simp only [Act.put, List.setIfInBounds_toArray, List.set_cons_zero, List.set_cons_succ]
                  refine wpAnyT_takeL [] (i := 9) (v := ?_) rfl (by kernel_rfl) (by kernel_rfl) (by kernel_rfl) (by kernel_rfl) (fun _ _ _ h => h) (Or.inl ⟨by kernel_rfl, ?_⟩) (by with_reducible assumption) ?_
                  rotate_left
                  · intro w hSw
                    have z3 := hSw.1.cell 3
                    have y0 := hSw.2.1.cell 0
                    have y1 := hSw.2.1.cell 1
                    have x0 := hSw.2.2.cell 0
                    have x1 := hSw.2.2.cell 1
                    have x2 := hSw.2.2.cell 2
                    simp at z3 y0 y1 x0 x1 x2
                    clear hSw
                    go_simp
                    try with_reducible rfl
                  try simp only [Act.put, List.setIfInBounds_toArray, List.set_cons_zero, List.set_cons_succ]
                  refine wpAnyT_takeL [] (i := 10) (v := ?_) rfl (by kernel_rfl) (by kernel_rfl) (by kernel_rfl) (by kernel_rfl) (fun _ _ _ h => h) (Or.inl ⟨by kernel_rfl, ?_⟩) (by with_reducible assumption) ?_
                  rotate_left
                  · intro w hSw
                    have z3 := hSw.1.cell 3
                    have y0 := hSw.2.1.cell 0
                    have y1 := hSw.2.1.cell 1
                    have x0 := hSw.2.2.cell 0
                    have x1 := hSw.2.2.cell 1
                    have x2 := hSw.2.2.cell 2
                    simp at z3 y0 y1 x0 x1 x2
                    clear hSw
                    go_simp
                    try with_reducible rfl
                  try simp only [Act.put, List.setIfInBounds_toArray, List.set_cons_zero, List.set_cons_succ]
                  refine wpAnyT_takeL [] (i := 11) (v := undef) rfl (by kernel_rfl) (by kernel_rfl) (by kernel_rfl) (by kernel_rfl) (fun _ _ _ h => h) (Or.inr ⟨by kernel_rfl, rfl⟩) (by with_reducible assumption) ?_
                  try simp only [Act.put, List.setIfInBounds_toArray, List.set_cons_zero, List.set_cons_succ]
                  refine wpAnyT_takeL [] (i := 12) (v := undef) rfl (by kernel_rfl) (by kernel_rfl) (by kernel_rfl) (by kernel_rfl) (fun _ _ _ h => h) (Or.inr ⟨by kernel_rfl, rfl⟩) (by with_reducible assumption) ?_
                  try simp only [Act.put, List.setIfInBounds_toArray, List.set_cons_zero, List.set_cons_succ]
                  refine wpAnyT_takeL [] (i := 13) (v := undef) rfl (by kernel_rfl) (by kernel_rfl) (by kernel_rfl) (by kernel_rfl) (fun _ _ _ h => h) (Or.inr ⟨by kernel_rfl, rfl⟩) (by with_reducible assumption) ?_
                  try simp only [Act.put, List.setIfInBounds_toArray, List.set_cons_zero, List.set_cons_succ]
                  refine wpAnyT_takeL [] (i := 14) (v := undef) rfl (by kernel_rfl) (by kernel_rfl) (by kernel_rfl) (by kernel_rfl) (fun _ _ _ h => h) (Or.inr ⟨by kernel_rfl, rfl⟩) (by with_reducible assumption) ?_
                  try simp only [Act.put, List.setIfInBounds_toArray, List.set_cons_zero, List.set_cons_succ]
                  refine wpAnyT_takeL [] (i := 15) (v := undef) rfl (by kernel_rfl) (by kernel_rfl) (by kernel_rfl) (by kernel_rfl) (fun _ _ _ h => h) (Or.inr ⟨by kernel_rfl, rfl⟩) (by with_reducible assumption) ?_
                  try simp only [Act.put, List.setIfInBounds_toArray, List.set_cons_zero, List.set_cons_succ]
                  refine wpAnyT_takeL [] (i := 16) (v := undef) rfl (by kernel_rfl) (by kernel_rfl) (by kernel_rfl) (by kernel_rfl) (fun _ _ _ h => h) (Or.inr ⟨by kernel_rfl, rfl⟩) (by with_reducible assumption) ?_
                  try simp only [Act.put, List.setIfInBounds_toArray, List.set_cons_zero, List.set_cons_succ]
                  refine wpAnyT_takeL [] (i := 17) (v := undef) rfl (by kernel_rfl) (by kernel_rfl) (by kernel_rfl) (by kernel_rfl) (fun _ _ _ h => h) (Or.inr ⟨by kernel_rfl, rfl⟩) (by with_reducible assumption) ?_
                  try simp only [Act.put, List.setIfInBounds_toArray, List.set_cons_zero, List.set_cons_succ]
                  refine wpAnyT_takeL [] (i := 18) (v := undef) rfl (by kernel_rfl) (by kernel_rfl) (by kernel_rfl) (by kernel_rfl) (fun _ _ _ h => h) (Or.inr ⟨by kernel_rfl, rfl⟩) (by with_reducible assumption) ?_
                  try simp only [Act.put, List.setIfInBounds_toArray, List.set_cons_zero, List.set_cons_succ]
                  refine wpAnyT_takeL [] (i := 19) (v := undef) rfl (by kernel_rfl) (by kernel_rfl) (by kernel_rfl) (by kernel_rfl) (fun _ _ _ h => h) (Or.inr ⟨by kernel_rfl, rfl⟩) (by with_reducible assumption) ?_
                  try simp only [Act.put, List.setIfInBounds_toArray, List.set_cons_zero, List.set_cons_succ]
                  refine wpAnyT_takeL [] (i := 20) (v := undef) rfl (by kernel_rfl) (by kernel_rfl) (by kernel_rfl) (by kernel_rfl) (fun _ _ _ h => h) (Or.inr ⟨by kernel_rfl, rfl⟩) (by with_reducible assumption) ?_
                  try simp only [Act.put, List.setIfInBounds_toArray, List.set_cons_zero, List.set_cons_succ]
                  refine wpAnyT_takeL [] (i := 21) (v := undef) rfl (by kernel_rfl) (by kernel_rfl) (by kernel_rfl) (by kernel_rfl) (fun _ _ _ h => h) (Or.inr ⟨by kernel_rfl, rfl⟩) (by with_reducible assumption) ?_
                  try simp only [Act.put, List.setIfInBounds_toArray, List.set_cons_zero, List.set_cons_succ]
                  refine wpAnyT_takeL [] (i := 22) (v := ?_) rfl (by kernel_rfl) (by kernel_rfl) (by kernel_rfl) (by kernel_rfl) (fun _ _ _ h => h) (Or.inl ⟨by kernel_rfl, ?_⟩) (by with_reducible assumption) ?_
                  rotate_left
                  · intro w hSw
                    have z3 := hSw.1.cell 3
                    have y0 := hSw.2.1.cell 0
                    have y1 := hSw.2.1.cell 1
                    have x0 := hSw.2.2.cell 0
                    have x1 := hSw.2.2.cell 1
                    have x2 := hSw.2.2.cell 2
                    simp at z3 y0 y1 x0 x1 x2
                    clear hSw
                    go_simp
                    try with_reducible rfl
                  try simp only [Act.put, List.setIfInBounds_toArray, List.set_cons_zero, List.set_cons_succ]
                  refine wpAnyT_done (by kernel_rfl) ?_ _
                  refine NoPanic.normal ?_
                  clear hHeld
                  have HI3 := Lib.hid (HI2.out.call (Below.refl _ _).drew)
                  have HXF : Hid (exB ap (thB seed sh) (rkI seed) (plI seed c) q (i + n, j + m) = false) := by rw [← HD.out]; exact HX2.out
                  go_wp2_with fail
                  go_roundw
                  case rel =>
                    exact ⟨n + 1, by omega, by omega, by go_num, fun x a b => by
                      by_cases hx : x = n
                      · subst hx; exact HXF.out
                      · exact HE2.out x a (by omega), HI3.out⟩
                  case measure => simp [intOf]; omega
          · have hf : Hid (fb = false) := HBF.out.trans (decide_eq_false (by omega))
            have hb1 : ¬ rd < rq := by omega
            have hb2 : (rd == rq) = false := by simp; omega
            have heq5 : ¬ mw + n = lw + k := fun e => by have := HRQ.out e; omega
            go_upto_region 12 with fail
            clear x3 y3
            have hbn : (mw + n != lw + k) = true := by simpa using heq5
            cases td with
            | false =>
              have HX2 : Hid (exB ap (thB seed sh) (rkI seed) (plI seed c) q d = false) := by
                rw [HX.out]; unfold Hid; simp
              refine wp_region_noPanic ?_
              refine wp_region_heldT (fun w' => Blk w' w.heap.size #[.int .u32 seed, .int .i64 c, .float .f32 sh, .int .i64 ap] 93 ∧ Blk w' (w.heap.size + 1) #[.int .i64 qx, .int .i64 qy, .bool tq, .int .u32 rq] 182 ∧ Blk w' kd #[.int .i64 dx, .int .i64 dy, .bool false, .int .u32 rd] 182) 23 (by kernel_rfl) ⟨HB2.out.1.drew, HB2.out.2.1.drew, HB2.out.2.2.drew⟩ (fun hHeld => ?_)
              refine wpAnyT_takeL [] (i := 0) (v := ?_) rfl (by kernel_rfl) (by kernel_rfl) (by kernel_rfl) (by kernel_rfl) (fun _ _ _ h => h) (Or.inl ⟨by kernel_rfl, ?_⟩) (by with_reducible assumption) ?_
              rotate_left
              · intro w hSw
                have z3 := hSw.1.cell 3
                have y0 := hSw.2.1.cell 0
                have y1 := hSw.2.1.cell 1
                have x0 := hSw.2.2.cell 0
                have x1 := hSw.2.2.cell 1
                have x2 := hSw.2.2.cell 2
                simp at z3 y0 y1 x0 x1 x2
                clear hSw
                go_simp
                try with_reducible rfl
              try simp only [Act.put, List.setIfInBounds_toArray, List.set_cons_zero, List.set_cons_succ]
              refine wpAnyT_takeL [] (i := 1) (v := ?_) rfl (by kernel_rfl) (by kernel_rfl) (by kernel_rfl) (by kernel_rfl) (fun _ _ _ h => h) (Or.inl ⟨by kernel_rfl, ?_⟩) (by with_reducible assumption) ?_
              rotate_left
              · intro w hSw
                have z3 := hSw.1.cell 3
                have y0 := hSw.2.1.cell 0
                have y1 := hSw.2.1.cell 1
                have x0 := hSw.2.2.cell 0
                have x1 := hSw.2.2.cell 1
                have x2 := hSw.2.2.cell 2
                simp at z3 y0 y1 x0 x1 x2
                clear hSw
                go_simp
                try with_reducible rfl
              try simp only [Act.put, List.setIfInBounds_toArray, List.set_cons_zero, List.set_cons_succ]
              refine wpAnyT_takeL [] (i := 2) (v := ?_) rfl (by kernel_rfl) (by kernel_rfl) (by kernel_rfl) (by kernel_rfl) (fun _ _ _ h => h) (Or.inl ⟨by kernel_rfl, ?_⟩) (by with_reducible assumption) ?_
              rotate_left
              · intro w hSw
                have z3 := hSw.1.cell 3
                have y0 := hSw.2.1.cell 0
                have y1 := hSw.2.1.cell 1
                have x0 := hSw.2.2.cell 0
                have x1 := hSw.2.2.cell 1
                have x2 := hSw.2.2.cell 2
                simp at z3 y0 y1 x0 x1 x2
                clear hSw
                go_simp
                try with_reducible rfl
              try simp only [Act.put, List.setIfInBounds_toArray, List.set_cons_zero, List.set_cons_succ]
              try simp only [hbn]
              refine wpAnyT_takeL [] (i := 3) (v := ?_) rfl (by kernel_rfl) (by kernel_rfl) (by kernel_rfl) (by kernel_rfl) (fun _ _ _ h => h) (Or.inl ⟨by kernel_rfl, ?_⟩) (by with_reducible assumption) ?_
              rotate_left
              · intro w hSw
                have z3 := hSw.1.cell 3
                have y0 := hSw.2.1.cell 0
                have y1 := hSw.2.1.cell 1
                have x0 := hSw.2.2.cell 0
                have x1 := hSw.2.2.cell 1
                have x2 := hSw.2.2.cell 2
                simp at z3 y0 y1 x0 x1 x2
                clear hSw
                go_simp
                try with_reducible rfl
              try simp only [Act.put, List.setIfInBounds_toArray, List.set_cons_zero, List.set_cons_succ]
              refine wpAnyT_takeL [] (i := 4) (v := ?_) rfl (by kernel_rfl) (by kernel_rfl) (by kernel_rfl) (by kernel_rfl) (fun _ _ _ h => h) (Or.inl ⟨by kernel_rfl, ?_⟩) (by with_reducible assumption) ?_
              rotate_left
              · intro w hSw
                have z3 := hSw.1.cell 3
                have y0 := hSw.2.1.cell 0
                have y1 := hSw.2.1.cell 1
                have x0 := hSw.2.2.cell 0
                have x1 := hSw.2.2.cell 1
                have x2 := hSw.2.2.cell 2
                simp at z3 y0 y1 x0 x1 x2
                clear hSw
                go_simp
                try with_reducible rfl
              try simp only [Act.put, List.setIfInBounds_toArray, List.set_cons_zero, List.set_cons_succ]
              refine wpAnyT_takeL [] (i := 5) (v := ?_) rfl (by kernel_rfl) (by kernel_rfl) (by kernel_rfl) (by kernel_rfl) (fun _ _ _ h => h) (Or.inl ⟨by kernel_rfl, ?_⟩) (by with_reducible assumption) ?_
              rotate_left
              · intro w hSw
                have z3 := hSw.1.cell 3
                have y0 := hSw.2.1.cell 0
                have y1 := hSw.2.1.cell 1
                have x0 := hSw.2.2.cell 0
                have x1 := hSw.2.2.cell 1
                have x2 := hSw.2.2.cell 2
                simp at z3 y0 y1 x0 x1 x2
                clear hSw
                go_simp
                try with_reducible rfl
              try simp only [Act.put, List.setIfInBounds_toArray, List.set_cons_zero, List.set_cons_succ]
              refine wpAnyT_takeL [] (i := 6) (v := ?_) rfl (by kernel_rfl) (by kernel_rfl) (by kernel_rfl) (by kernel_rfl) (fun _ _ _ h => h) (Or.inl ⟨by kernel_rfl, ?_⟩) (by with_reducible assumption) ?_
              rotate_left
              · intro w hSw
                have z3 := hSw.1.cell 3
                have y0 := hSw.2.1.cell 0
                have y1 := hSw.2.1.cell 1
                have x0 := hSw.2.2.cell 0
                have x1 := hSw.2.2.cell 1
                have x2 := hSw.2.2.cell 2
                simp at z3 y0 y1 x0 x1 x2
                clear hSw
                go_simp
                try with_reducible rfl
              try simp only [Act.put, List.setIfInBounds_toArray, List.set_cons_zero, List.set_cons_succ]
              refine wpAnyT_takeL [] (i := 7) (v := ?_) rfl (by kernel_rfl) (by kernel_rfl) (by kernel_rfl) (by kernel_rfl) (fun _ _ _ h => h) (Or.inl ⟨by kernel_rfl, ?_⟩) (by with_reducible assumption) ?_
              rotate_left
              · intro w hSw
                have z3 := hSw.1.cell 3
                have y0 := hSw.2.1.cell 0
                have y1 := hSw.2.1.cell 1
                have x0 := hSw.2.2.cell 0
                have x1 := hSw.2.2.cell 1
                have x2 := hSw.2.2.cell 2
                simp at z3 y0 y1 x0 x1 x2
                clear hSw
                go_simp
                try with_reducible rfl
              try simp only [Act.put, List.setIfInBounds_toArray, List.set_cons_zero, List.set_cons_succ]
              refine wpAnyT_takeL [] (i := 8) (v := undef) rfl (by kernel_rfl) (by kernel_rfl) (by kernel_rfl) (by kernel_rfl) (fun _ _ _ h => h) (Or.inr ⟨by kernel_rfl, rfl⟩) (by with_reducible assumption) ?_
              try simp only [Act.put, List.setIfInBounds_toArray, List.set_cons_zero, List.set_cons_succ]
              refine wpAnyT_takeL [] (i := 9) (v := ?_) rfl (by kernel_rfl) (by kernel_rfl) (by kernel_rfl) (by kernel_rfl) (fun _ _ _ h => h) (Or.inl ⟨by kernel_rfl, ?_⟩) (by with_reducible assumption) ?_
              rotate_left
              · intro w hSw
                have z3 := hSw.1.cell 3
                have y0 := hSw.2.1.cell 0
                have y1 := hSw.2.1.cell 1
                have x0 := hSw.2.2.cell 0
                have x1 := hSw.2.2.cell 1
                have x2 := hSw.2.2.cell 2
                simp at z3 y0 y1 x0 x1 x2
                clear hSw
                go_simp
                try with_reducible rfl
              try simp only [Act.put, List.setIfInBounds_toArray, List.set_cons_zero, List.set_cons_succ]
              refine wpAnyT_takeL [] (i := 10) (v := ?_) rfl (by kernel_rfl) (by kernel_rfl) (by kernel_rfl) (by kernel_rfl) (fun _ _ _ h => h) (Or.inl ⟨by kernel_rfl, ?_⟩) (by with_reducible assumption) ?_
              rotate_left
              · intro w hSw
                have z3 := hSw.1.cell 3
                have y0 := hSw.2.1.cell 0
                have y1 := hSw.2.1.cell 1
                have x0 := hSw.2.2.cell 0
                have x1 := hSw.2.2.cell 1
                have x2 := hSw.2.2.cell 2
                simp at z3 y0 y1 x0 x1 x2
                clear hSw
                go_simp
                try with_reducible rfl
              try simp only [Act.put, List.setIfInBounds_toArray, List.set_cons_zero, List.set_cons_succ]
              refine wpAnyT_takeL [] (i := 11) (v := undef) rfl (by kernel_rfl) (by kernel_rfl) (by kernel_rfl) (by kernel_rfl) (fun _ _ _ h => h) (Or.inr ⟨by kernel_rfl, rfl⟩) (by with_reducible assumption) ?_
              try simp only [Act.put, List.setIfInBounds_toArray, List.set_cons_zero, List.set_cons_succ]
              refine wpAnyT_takeL [] (i := 12) (v := undef) rfl (by kernel_rfl) (by kernel_rfl) (by kernel_rfl) (by kernel_rfl) (fun _ _ _ h => h) (Or.inr ⟨by kernel_rfl, rfl⟩) (by with_reducible assumption) ?_
              try simp only [Act.put, List.setIfInBounds_toArray, List.set_cons_zero, List.set_cons_succ]
              refine wpAnyT_takeL [] (i := 13) (v := undef) rfl (by kernel_rfl) (by kernel_rfl) (by kernel_rfl) (by kernel_rfl) (fun _ _ _ h => h) (Or.inr ⟨by kernel_rfl, rfl⟩) (by with_reducible assumption) ?_
              try simp only [Act.put, List.setIfInBounds_toArray, List.set_cons_zero, List.set_cons_succ]
              refine wpAnyT_takeL [] (i := 14) (v := undef) rfl (by kernel_rfl) (by kernel_rfl) (by kernel_rfl) (by kernel_rfl) (fun _ _ _ h => h) (Or.inr ⟨by kernel_rfl, rfl⟩) (by with_reducible assumption) ?_
              try simp only [Act.put, List.setIfInBounds_toArray, List.set_cons_zero, List.set_cons_succ]
              refine wpAnyT_takeL [] (i := 15) (v := undef) rfl (by kernel_rfl) (by kernel_rfl) (by kernel_rfl) (by kernel_rfl) (fun _ _ _ h => h) (Or.inr ⟨by kernel_rfl, rfl⟩) (by with_reducible assumption) ?_
              try simp only [Act.put, List.setIfInBounds_toArray, List.set_cons_zero, List.set_cons_succ]
              refine wpAnyT_takeL [] (i := 16) (v := undef) rfl (by kernel_rfl) (by kernel_rfl) (by kernel_rfl) (by kernel_rfl) (fun _ _ _ h => h) (Or.inr ⟨by kernel_rfl, rfl⟩) (by with_reducible assumption) ?_
              try simp only [Act.put, List.setIfInBounds_toArray, List.set_cons_zero, List.set_cons_succ]
              refine wpAnyT_takeL [] (i := 17) (v := undef) rfl (by kernel_rfl) (by kernel_rfl) (by kernel_rfl) (by kernel_rfl) (fun _ _ _ h => h) (Or.inr ⟨by kernel_rfl, rfl⟩) (by with_reducible assumption) ?_
              try simp only [Act.put, List.setIfInBounds_toArray, List.set_cons_zero, List.set_cons_succ]
              refine wpAnyT_takeL [] (i := 18) (v := undef) rfl (by kernel_rfl) (by kernel_rfl) (by kernel_rfl) (by kernel_rfl) (fun _ _ _ h => h) (Or.inr ⟨by kernel_rfl, rfl⟩) (by with_reducible assumption) ?_
              try simp only [Act.put, List.setIfInBounds_toArray, List.set_cons_zero, List.set_cons_succ]
              refine wpAnyT_takeL [] (i := 19) (v := undef) rfl (by kernel_rfl) (by kernel_rfl) (by kernel_rfl) (by kernel_rfl) (fun _ _ _ h => h) (Or.inr ⟨by kernel_rfl, rfl⟩) (by with_reducible assumption) ?_
              try simp only [Act.put, List.setIfInBounds_toArray, List.set_cons_zero, List.set_cons_succ]
              refine wpAnyT_takeL [] (i := 20) (v := undef) rfl (by kernel_rfl) (by kernel_rfl) (by kernel_rfl) (by kernel_rfl) (fun _ _ _ h => h) (Or.inr ⟨by kernel_rfl, rfl⟩) (by with_reducible assumption) ?_
              try simp only [Act.put, List.setIfInBounds_toArray, List.set_cons_zero, List.set_cons_succ]
              refine wpAnyT_takeL [] (i := 21) (v := undef) rfl (by kernel_rfl) (by kernel_rfl) (by kernel_rfl) (by kernel_rfl) (fun _ _ _ h => h) (Or.inr ⟨by kernel_rfl, rfl⟩) (by with_reducible assumption) ?_
              try simp only [Act.put, List.setIfInBounds_toArray, List.set_cons_zero, List.set_cons_succ]
              refine wpAnyT_takeL [] (i := 22) (v := ?_) rfl (by kernel_rfl) (by kernel_rfl) (by kernel_rfl) (by kernel_rfl) (fun _ _ _ h => h) (Or.inl ⟨by kernel_rfl, ?_⟩) (by with_reducible assumption) ?_
              rotate_left
              · intro w hSw
                have z3 := hSw.1.cell 3
                have y0 := hSw.2.1.cell 0
                have y1 := hSw.2.1.cell 1
                have x0 := hSw.2.2.cell 0
                have x1 := hSw.2.2.cell 1
                have x2 := hSw.2.2.cell 2
                simp at z3 y0 y1 x0 x1 x2
                clear hSw
                go_simp
                try with_reducible rfl
              try simp only [Act.put, List.setIfInBounds_toArray, List.set_cons_zero, List.set_cons_succ]
              refine wpAnyT_done (by kernel_rfl) ?_ _
              refine NoPanic.normal ?_
              clear hHeld
              have HI3 := Lib.hid (HI2.out.call (Below.refl _ _).drew)
              have HXF : Hid (exB ap (thB seed sh) (rkI seed) (plI seed c) q (i + n, j + m) = false) := by rw [← HD.out]; exact HX2.out
              go_wp2_with fail
              go_roundw
              case rel =>
                exact ⟨n + 1, by omega, by omega, by go_num, fun x a b => by
                  by_cases hx : x = n
                  · subst hx; exact HXF.out
                  · exact HE2.out x a (by omega), HI3.out⟩
              case measure => simp [intOf]; omega
            | true =>
              have HX2 : Hid (exB ap (thB seed sh) (rkI seed) (plI seed c) q d = false) := by
                rw [HX.out, hf.out]; unfold Hid; simp
              refine wp_region_noPanic ?_
              refine wp_region_heldT (fun w' => Blk w' w.heap.size #[.int .u32 seed, .int .i64 c, .float .f32 sh, .int .i64 ap] 93 ∧ Blk w' (w.heap.size + 1) #[.int .i64 qx, .int .i64 qy, .bool tq, .int .u32 rq] 182 ∧ Blk w' kd #[.int .i64 dx, .int .i64 dy, .bool true, .int .u32 rd] 182) 23 (by kernel_rfl) ⟨HB2.out.1.drew, HB2.out.2.1.drew, HB2.out.2.2.drew⟩ (fun hHeld => ?_)
              refine wpAnyT_takeL [] (i := 0) (v := ?_) rfl (by kernel_rfl) (by kernel_rfl) (by kernel_rfl) (by kernel_rfl) (fun _ _ _ h => h) (Or.inl ⟨by kernel_rfl, ?_⟩) (by with_reducible assumption) ?_
              rotate_left
              · intro w hSw
                have z3 := hSw.1.cell 3
                have y0 := hSw.2.1.cell 0
                have y1 := hSw.2.1.cell 1
                have x0 := hSw.2.2.cell 0
                have x1 := hSw.2.2.cell 1
                have x2 := hSw.2.2.cell 2
                simp at z3 y0 y1 x0 x1 x2
                clear hSw
                go_simp
                try with_reducible rfl
              try simp only [Act.put, List.setIfInBounds_toArray, List.set_cons_zero, List.set_cons_succ]
              refine wpAnyT_takeL [] (i := 1) (v := ?_) rfl (by kernel_rfl) (by kernel_rfl) (by kernel_rfl) (by kernel_rfl) (fun _ _ _ h => h) (Or.inl ⟨by kernel_rfl, ?_⟩) (by with_reducible assumption) ?_
              rotate_left
              · intro w hSw
                have z3 := hSw.1.cell 3
                have y0 := hSw.2.1.cell 0
                have y1 := hSw.2.1.cell 1
                have x0 := hSw.2.2.cell 0
                have x1 := hSw.2.2.cell 1
                have x2 := hSw.2.2.cell 2
                simp at z3 y0 y1 x0 x1 x2
                clear hSw
                go_simp
                try with_reducible rfl
              try simp only [Act.put, List.setIfInBounds_toArray, List.set_cons_zero, List.set_cons_succ]
              refine wpAnyT_takeL [] (i := 2) (v := ?_) rfl (by kernel_rfl) (by kernel_rfl) (by kernel_rfl) (by kernel_rfl) (fun _ _ _ h => h) (Or.inl ⟨by kernel_rfl, ?_⟩) (by with_reducible assumption) ?_
              rotate_left
              · intro w hSw
                have z3 := hSw.1.cell 3
                have y0 := hSw.2.1.cell 0
                have y1 := hSw.2.1.cell 1
                have x0 := hSw.2.2.cell 0
                have x1 := hSw.2.2.cell 1
                have x2 := hSw.2.2.cell 2
                simp at z3 y0 y1 x0 x1 x2
                clear hSw
                go_simp
                try with_reducible rfl
              try simp only [Act.put, List.setIfInBounds_toArray, List.set_cons_zero, List.set_cons_succ]
              try simp only [hbn]
              refine wpAnyT_takeL [] (i := 3) (v := ?_) rfl (by kernel_rfl) (by kernel_rfl) (by kernel_rfl) (by kernel_rfl) (fun _ _ _ h => h) (Or.inl ⟨by kernel_rfl, ?_⟩) (by with_reducible assumption) ?_
              rotate_left
              · intro w hSw
                have z3 := hSw.1.cell 3
                have y0 := hSw.2.1.cell 0
                have y1 := hSw.2.1.cell 1
                have x0 := hSw.2.2.cell 0
                have x1 := hSw.2.2.cell 1
                have x2 := hSw.2.2.cell 2
                simp at z3 y0 y1 x0 x1 x2
                clear hSw
                go_simp
                try with_reducible rfl
              try simp only [Act.put, List.setIfInBounds_toArray, List.set_cons_zero, List.set_cons_succ]
              refine wpAnyT_takeL [] (i := 4) (v := ?_) rfl (by kernel_rfl) (by kernel_rfl) (by kernel_rfl) (by kernel_rfl) (fun _ _ _ h => h) (Or.inl ⟨by kernel_rfl, ?_⟩) (by with_reducible assumption) ?_
              rotate_left
              · intro w hSw
                have z3 := hSw.1.cell 3
                have y0 := hSw.2.1.cell 0
                have y1 := hSw.2.1.cell 1
                have x0 := hSw.2.2.cell 0
                have x1 := hSw.2.2.cell 1
                have x2 := hSw.2.2.cell 2
                simp at z3 y0 y1 x0 x1 x2
                clear hSw
                go_simp
                try with_reducible rfl
              try simp only [Act.put, List.setIfInBounds_toArray, List.set_cons_zero, List.set_cons_succ]
              refine wpAnyT_takeL [] (i := 5) (v := ?_) rfl (by kernel_rfl) (by kernel_rfl) (by kernel_rfl) (by kernel_rfl) (fun _ _ _ h => h) (Or.inl ⟨by kernel_rfl, ?_⟩) (by with_reducible assumption) ?_
              rotate_left
              · intro w hSw
                have z3 := hSw.1.cell 3
                have y0 := hSw.2.1.cell 0
                have y1 := hSw.2.1.cell 1
                have x0 := hSw.2.2.cell 0
                have x1 := hSw.2.2.cell 1
                have x2 := hSw.2.2.cell 2
                simp at z3 y0 y1 x0 x1 x2
                clear hSw
                go_simp
                try with_reducible rfl
              try simp only [Act.put, List.setIfInBounds_toArray, List.set_cons_zero, List.set_cons_succ]
              refine wpAnyT_takeL [] (i := 6) (v := ?_) rfl (by kernel_rfl) (by kernel_rfl) (by kernel_rfl) (by kernel_rfl) (fun _ _ _ h => h) (Or.inl ⟨by kernel_rfl, ?_⟩) (by with_reducible assumption) ?_
              rotate_left
              · intro w hSw
                have z3 := hSw.1.cell 3
                have y0 := hSw.2.1.cell 0
                have y1 := hSw.2.1.cell 1
                have x0 := hSw.2.2.cell 0
                have x1 := hSw.2.2.cell 1
                have x2 := hSw.2.2.cell 2
                simp at z3 y0 y1 x0 x1 x2
                clear hSw
                go_simp
                try with_reducible rfl
              try simp only [Act.put, List.setIfInBounds_toArray, List.set_cons_zero, List.set_cons_succ]
              refine wpAnyT_takeL [] (i := 7) (v := ?_) rfl (by kernel_rfl) (by kernel_rfl) (by kernel_rfl) (by kernel_rfl) (fun _ _ _ h => h) (Or.inl ⟨by kernel_rfl, ?_⟩) (by with_reducible assumption) ?_
              rotate_left
              · intro w hSw
                have z3 := hSw.1.cell 3
                have y0 := hSw.2.1.cell 0
                have y1 := hSw.2.1.cell 1
                have x0 := hSw.2.2.cell 0
                have x1 := hSw.2.2.cell 1
                have x2 := hSw.2.2.cell 2
                simp at z3 y0 y1 x0 x1 x2
                clear hSw
                go_simp
                try with_reducible rfl
              try simp only [Act.put, List.setIfInBounds_toArray, List.set_cons_zero, List.set_cons_succ]
              refine wpAnyT_takeL [] (i := 8) (v := ?_) rfl (by kernel_rfl) (by kernel_rfl) (by kernel_rfl) (by kernel_rfl) (fun _ _ _ h => h) (Or.inl ⟨by kernel_rfl, ?_⟩) (by with_reducible assumption) ?_
              rotate_left
              · intro w hSw
                have z3 := hSw.1.cell 3
                have y0 := hSw.2.1.cell 0
                have y1 := hSw.2.1.cell 1
                have x0 := hSw.2.2.cell 0
                have x1 := hSw.2.2.cell 1
                have x2 := hSw.2.2.cell 2
                simp at z3 y0 y1 x0 x1 x2
                clear hSw
                go_simp
                try with_reducible rfl
              try simp only [Act.put, List.setIfInBounds_toArray, List.set_cons_zero, List.set_cons_succ]
              refine wpAnyT_takeL [] (i := 9) (v := ?_) rfl (by kernel_rfl) (by kernel_rfl) (by kernel_rfl) (by kernel_rfl) (fun _ _ _ h => h) (Or.inl ⟨by kernel_rfl, ?_⟩) (by with_reducible assumption) ?_
              rotate_left
              · intro w hSw
                have z3 := hSw.1.cell 3
                have y0 := hSw.2.1.cell 0
                have y1 := hSw.2.1.cell 1
                have x0 := hSw.2.2.cell 0
                have x1 := hSw.2.2.cell 1
                have x2 := hSw.2.2.cell 2
                simp at z3 y0 y1 x0 x1 x2
                clear hSw
                go_simp
                try with_reducible rfl
              try simp only [Act.put, List.setIfInBounds_toArray, List.set_cons_zero, List.set_cons_succ]
              refine wpAnyT_takeL [] (i := 10) (v := ?_) rfl (by kernel_rfl) (by kernel_rfl) (by kernel_rfl) (by kernel_rfl) (fun _ _ _ h => h) (Or.inl ⟨by kernel_rfl, ?_⟩) (by with_reducible assumption) ?_
              rotate_left
              · intro w hSw
                have z3 := hSw.1.cell 3
                have y0 := hSw.2.1.cell 0
                have y1 := hSw.2.1.cell 1
                have x0 := hSw.2.2.cell 0
                have x1 := hSw.2.2.cell 1
                have x2 := hSw.2.2.cell 2
                simp at z3 y0 y1 x0 x1 x2
                clear hSw
                go_simp
                try with_reducible rfl
              try simp only [Act.put, List.setIfInBounds_toArray, List.set_cons_zero, List.set_cons_succ]
              refine wpAnyT_takeL [] (i := 11) (v := undef) rfl (by kernel_rfl) (by kernel_rfl) (by kernel_rfl) (by kernel_rfl) (fun _ _ _ h => h) (Or.inr ⟨by kernel_rfl, rfl⟩) (by with_reducible assumption) ?_
              try simp only [Act.put, List.setIfInBounds_toArray, List.set_cons_zero, List.set_cons_succ]
              refine wpAnyT_takeL [] (i := 12) (v := undef) rfl (by kernel_rfl) (by kernel_rfl) (by kernel_rfl) (by kernel_rfl) (fun _ _ _ h => h) (Or.inr ⟨by kernel_rfl, rfl⟩) (by with_reducible assumption) ?_
              try simp only [Act.put, List.setIfInBounds_toArray, List.set_cons_zero, List.set_cons_succ]
              refine wpAnyT_takeL [] (i := 13) (v := undef) rfl (by kernel_rfl) (by kernel_rfl) (by kernel_rfl) (by kernel_rfl) (fun _ _ _ h => h) (Or.inr ⟨by kernel_rfl, rfl⟩) (by with_reducible assumption) ?_
              try simp only [Act.put, List.setIfInBounds_toArray, List.set_cons_zero, List.set_cons_succ]
              refine wpAnyT_takeL [] (i := 14) (v := undef) rfl (by kernel_rfl) (by kernel_rfl) (by kernel_rfl) (by kernel_rfl) (fun _ _ _ h => h) (Or.inr ⟨by kernel_rfl, rfl⟩) (by with_reducible assumption) ?_
              try simp only [Act.put, List.setIfInBounds_toArray, List.set_cons_zero, List.set_cons_succ]
              refine wpAnyT_takeL [] (i := 15) (v := undef) rfl (by kernel_rfl) (by kernel_rfl) (by kernel_rfl) (by kernel_rfl) (fun _ _ _ h => h) (Or.inr ⟨by kernel_rfl, rfl⟩) (by with_reducible assumption) ?_
              try simp only [Act.put, List.setIfInBounds_toArray, List.set_cons_zero, List.set_cons_succ]
              refine wpAnyT_takeL [] (i := 16) (v := undef) rfl (by kernel_rfl) (by kernel_rfl) (by kernel_rfl) (by kernel_rfl) (fun _ _ _ h => h) (Or.inr ⟨by kernel_rfl, rfl⟩) (by with_reducible assumption) ?_
              try simp only [Act.put, List.setIfInBounds_toArray, List.set_cons_zero, List.set_cons_succ]
              refine wpAnyT_takeL [] (i := 17) (v := undef) rfl (by kernel_rfl) (by kernel_rfl) (by kernel_rfl) (by kernel_rfl) (fun _ _ _ h => h) (Or.inr ⟨by kernel_rfl, rfl⟩) (by with_reducible assumption) ?_
              try simp only [Act.put, List.setIfInBounds_toArray, List.set_cons_zero, List.set_cons_succ]
              refine wpAnyT_takeL [] (i := 18) (v := undef) rfl (by kernel_rfl) (by kernel_rfl) (by kernel_rfl) (by kernel_rfl) (fun _ _ _ h => h) (Or.inr ⟨by kernel_rfl, rfl⟩) (by with_reducible assumption) ?_
              try simp only [Act.put, List.setIfInBounds_toArray, List.set_cons_zero, List.set_cons_succ]
              refine wpAnyT_takeL [] (i := 19) (v := undef) rfl (by kernel_rfl) (by kernel_rfl) (by kernel_rfl) (by kernel_rfl) (fun _ _ _ h => h) (Or.inr ⟨by kernel_rfl, rfl⟩) (by with_reducible assumption) ?_
              try simp only [Act.put, List.setIfInBounds_toArray, List.set_cons_zero, List.set_cons_succ]
              refine wpAnyT_takeL [] (i := 20) (v := undef) rfl (by kernel_rfl) (by kernel_rfl) (by kernel_rfl) (by kernel_rfl) (fun _ _ _ h => h) (Or.inr ⟨by kernel_rfl, rfl⟩) (by with_reducible assumption) ?_
              try simp only [Act.put, List.setIfInBounds_toArray, List.set_cons_zero, List.set_cons_succ]
              refine wpAnyT_takeL [] (i := 21) (v := undef) rfl (by kernel_rfl) (by kernel_rfl) (by kernel_rfl) (by kernel_rfl) (fun _ _ _ h => h) (Or.inr ⟨by kernel_rfl, rfl⟩) (by with_reducible assumption) ?_
              try simp only [Act.put, List.setIfInBounds_toArray, List.set_cons_zero, List.set_cons_succ]
              refine wpAnyT_takeL [] (i := 22) (v := ?_) rfl (by kernel_rfl) (by kernel_rfl) (by kernel_rfl) (by kernel_rfl) (fun _ _ _ h => h) (Or.inl ⟨by kernel_rfl, ?_⟩) (by with_reducible assumption) ?_
              rotate_left
              · intro w hSw
                have z3 := hSw.1.cell 3
                have y0 := hSw.2.1.cell 0
                have y1 := hSw.2.1.cell 1
                have x0 := hSw.2.2.cell 0
                have x1 := hSw.2.2.cell 1
                have x2 := hSw.2.2.cell 2
                simp at z3 y0 y1 x0 x1 x2
                clear hSw
                go_simp
                try with_reducible rfl
              try simp only [Act.put, List.setIfInBounds_toArray, List.set_cons_zero, List.set_cons_succ]
              refine wpAnyT_done (by kernel_rfl) ?_ _
              refine NoPanic.normal ?_
              clear hHeld
              have HI3 := Lib.hid (HI2.out.call (Below.refl _ _).drew)
              have HXF : Hid (exB ap (thB seed sh) (rkI seed) (plI seed c) q (i + n, j + m) = false) := by rw [← HD.out]; exact HX2.out
              go_wp2_with fail
              go_roundw
              case rel =>
                exact ⟨n + 1, by omega, by omega, by go_num, fun x a b => by
                  by_cases hx : x = n
                  · subst hx; exact HXF.out
                  · exact HE2.out x a (by omega), HI3.out⟩
              case measure => simp [intOf]; omega
        · have hn3 : n = k + 3 := by omega
          subst hn3
          have HE3 : Hid (∀ x y : Int, l - 2 ≤ y → y < m + 1 → k - 2 ≤ x → x ≤ k + 2 → exB ap (thB seed sh) (rkI seed) (plI seed c) q (i + x, j + y) = false) := fun x y a b c d => by
            by_cases hy : y = m
            · subst hy; exact HE2.out x c (by omega)
            · exact HE.out x y a (by omega) c d
          go_wp2_with fail
          go_roundw
          case rel => exact ⟨m + 1, by omega, by omega, by go_num, HE3.out, HI.out⟩
          case measure => simp [intOf]; omega
    · have hm3 : m = l + 3 := by omega
      subst hm3
      have HC : Hid (CB = true) := HCT.out (fun d a b c e => by
        have := HE.out (d.1 - i) (d.2 - j) (by rw [HQ.out] at c; simp only at c; omega) (by rw [HQ.out] at e; simp only at e; omega) (by rw [HQ.out] at a; simp only at a; omega) (by rw [HQ.out] at b; simp only at b; omega)
        rw [show i + (d.1 - i) = d.1 by omega, show j + (d.2 - j) = d.2 by omega] at this
        exact this)
      go_wp2_with fail
      go_ret
      exact ⟨by rw [HC.out]; rfl, HI.out.b⟩
end Go.Proofs.Ytfmbekdfigbfiaa
