import Derived.Test.YtfmbekdfigbfiaaKScatT
import Derived.Test.YtfmbekdfigbfiaaKScatH
import Derived.Test.YtfmbekdfigbfiaaKLatt
import Derived.Deep.DeepCutAuto
namespace Go.Proofs.Ytfmbekdfigbfiaa
open Go.ChangeShapes Go.WideShapes Go.ChangeAt Go.RowKit
open Ieee.Format (fin finE htE allFin allHt all_true all_false mulF subF addF Ht Bd divF rootF floorF easeF mixF)
set_option linter.unusedVariables false
open Wide

/-! ### the program's Scatter -/
def insR (X Y : Int) (P Q : Nat) (p : Int × Int) : Bool := decide (inR X Y P Q p.1 p.2)
/-- how many cells of the lattice -/
def latN (X c : Int) (P : Nat) : Nat := ((X + P - 1) / c - X / c + 1).toNat
def scL (seed c : Int) (sh : Nat) (ap X Y : Int) (P Q : Nat) : List (Int × Int) := outL ap (thB seed sh) (rkI seed) (plI seed c) (insR X Y P Q) (X / c) (Y / c) (latN X c P) (latN Y c Q)
theorem lat_facts {X c : Int} {P : Nat} (h1 : 1 ≤ c) (h2 : c ≤ 256) (hP : 1 ≤ P) (hP2 : P ≤ 32) (hX : -4194304 ≤ X) (hX2 : X ≤ 4194304) :
    (X + P - 1) / c - X / c + 1 = (latN X c P : Int) ∧ 1 ≤ latN X c P ∧ latN X c P ≤ 33 ∧ -4194305 ≤ X / c ∧ X / c ≤ 4194305 ∧ X / c * c ≤ X ∧ X < X / c * c + c ∧ X + P - 1 < (X / c + latN X c P) * c := by
  have a1 := Int.ediv_mul_le X (show c ≠ 0 by omega)
  have a2 := Int.lt_ediv_add_one_mul_self X (show 0 < c by omega)
  have b1 := Int.ediv_mul_le (X + P - 1) (show c ≠ 0 by omega)
  have b2 := Int.lt_ediv_add_one_mul_self (X + P - 1) (show 0 < c by omega)
  have m := Int.ediv_le_ediv (show 0 < c by omega) (show X ≤ X + P - 1 by omega)
  have s := ediv_small X c 4194304 (by omega) (by omega) (by omega) (by omega)
  unfold latN
  generalize X / c = i at *
  generalize (X + P - 1) / c = i1 at *
  rw [Int.add_mul, Int.one_mul] at a2 b2
  have hle : i1 - i ≤ 32 := by
    rcases (show 32 < i1 - i ∨ i1 - i ≤ 32 by omega) with h | h
    · have := Int.mul_le_mul_of_nonneg_right (show 33 ≤ i1 - i by omega) (show 0 ≤ c by omega)
      rw [Int.sub_mul] at this
      omega
    · exact h
  have e : ((i1 - i + 1).toNat : Int) = i1 - i + 1 := by omega
  refine ⟨by omega, by omega, by omega, by omega, by omega, by omega, by omega, ?_⟩
  rw [e, show i + (i1 - i + 1) = i1 + 1 by omega, Int.add_mul, Int.one_mul]
  omega
/-- a place inside lies in one of the cells -/
theorem lat_in {seed X c : Int} {P : Nat} (h1 : 1 ≤ c) (h2 : c ≤ 256) (hP : 1 ≤ P) (hP2 : P ≤ 32) (hX : -4194304 ≤ X) (hX2 : X ≤ 4194304) {n z : Int} (hz : n * c ≤ z) (hz2 : z < n * c + c) (ha : X ≤ z) (hb : z < X + P) : X / c ≤ n ∧ n < X / c + latN X c P := by
  obtain ⟨f1, f2, f3, f4, f5, f6, f7, f8⟩ := lat_facts (P := P) h1 h2 hP hP2 hX hX2
  generalize X / c = i at *
  generalize latN X c P = N at *
  constructor
  · rcases (show n < i ∨ i ≤ n by omega) with h | h
    · have := Int.mul_le_mul_of_nonneg_right (show n + 1 ≤ i by omega) (show 0 ≤ c by omega)
      rw [Int.add_mul, Int.one_mul] at this
      omega
    · exact h
  · rcases (show n < i + N ∨ i + N ≤ n by omega) with h | h
    · exact h
    · have := Int.mul_le_mul_of_nonneg_right h (show 0 ≤ c by omega)
      omega
theorem ins_in {seed c X Y : Int} {P Q : Nat} (h1 : 1 ≤ c) (h2 : c ≤ 256) (hP : 1 ≤ P) (hP2 : P ≤ 32) (hQ : 1 ≤ Q) (hQ2 : Q ≤ 32) (hX : -4194304 ≤ X) (hX2 : X ≤ 4194304) (hY : -4194304 ≤ Y) (hY2 : Y ≤ 4194304) (q : Int × Int) (h : insR X Y P Q (plI seed c q) = true) :
    X / c ≤ q.1 ∧ q.1 < X / c + latN X c P ∧ Y / c ≤ q.2 ∧ q.2 < Y / c + latN Y c Q := by
  have h := of_decide_eq_true h
  unfold inR at h
  obtain ⟨a1, a2, a3, a4⟩ := plI_cell (seed := seed) h1 q
  obtain ⟨b1, b2⟩ := lat_in (seed := seed) (P := P) h1 h2 hP hP2 hX hX2 a1 a2 h.1 h.2.1
  obtain ⟨b3, b4⟩ := lat_in (seed := seed) (P := Q) h1 h2 hQ hQ2 hY hY2 a3 a4 h.2.2.1 h.2.2.2
  exact ⟨b1, b2, b3, b4⟩
/-- the memory of Scatter's loops -/
structure ScI (seed c : Int) (sh : Nat) (ap X Y : Int) (P Q : Nat) (w wr : World) (B g : Nat) (L : List (Int × Int)) (v : Value) (m : List (Int × Int)) : Prop where
  s : Blk wr w.heap.size (scC seed c sh ap) 93
  r : Reg wr (w.heap.size + 1) X Y P Q
  a : CanR seed c sh wr g L
  lb : w.heap.size + 1 < B
  gb : g < B
  bz : B ≤ wr.heap.size
  own : wr.ownsRow B 36 2 v m.length (ptsV m)
  b : Below w.heap.size w wr
section
variable {seed c : Int} {sh : Nat} {ap X Y : Int} {P Q : Nat} {w wr w2 w3 : World} {B g : Nat} {L : List (Int × Int)} {v v' : Value} {m : List (Int × Int)}
theorem ScI.call (h : ScI seed c sh ap X Y P Q w wr B g L v m) (hb : Below wr.heap.size wr w2) : ScI seed c sh ap X Y P Q w w2 B g L v m :=
  ⟨h.s.below hb h.s.lt, h.r.below hb h.r.lt, h.a.below hb, h.lb, h.gb, Nat.le_trans h.bz hb.size, ownsRow_below h.own hb (fun k hk => (h.own.lt k hk).2), h.b.trans (hb.mono h.b.size)⟩
theorem ScI.alloc (h : ScI seed c sh ap X Y P Q w wr B g L v m) (o : Obj) : ScI seed c sh ap X Y P Q w (wr.alloc o) B g L v m := h.call ((Below.refl _ _).alloc (Nat.le_refl _) _)
theorem ScI.app {p : Int × Int} {o : Obj} (h : ScI seed c sh ap X Y P Q w w2 B g L v m)
    (hown : w3.ownsRow B 36 2 v' (m.length + 1) (ptsV m ++ [.int .i64 p.1, .int .i64 p.2])) (hg : (w2.alloc o).grownBy w3 v.ownBlock) : ScI seed c sh ap X Y P Q w w3 B g L v' (m ++ [p]) := by
  have hne : ∀ k, k < B → some k ≠ v.ownBlock := fun k hk e => by
    have := (h.own.lt k e.symm).1; omega
  have hA := h.alloc o
  have hb0 := h.lb
  have hbl : Below B (w2.alloc o) w3 := (Below.refl B (w2.alloc o)).grown hg hA.bz (fun k hk => (h.own.lt k hk).1)
  refine ⟨hA.s.grown hg (hne _ (by omega)), (hbl.block _ hb0).trans hA.r, ⟨Nat.lt_of_lt_of_le h.gb (Nat.le_trans hA.bz hg.size), fun n q hq t ht => (hbl.cell (p := ⟨g, n * 4 + t, none⟩) h.gb).trans (hA.a.2 n q hq t ht)⟩, h.lb, h.gb, Nat.le_trans hA.bz hg.size, ?_, ?_⟩
  · rw [ptsV_app, ptsV_one]; simpa using hown
  · exact hA.b.trans (hbl.mono (by omega))
end
/-- what is chosen of a list of cells -/
def fmL (seed c : Int) (sh : Nat) (ap X Y : Int) (P Q : Nat) (L : List (Int × Int)) : List (Int × Int) := (L.filter fun q => insR X Y P Q (plI seed c q) && thB seed sh q && chB ap (thB seed sh) (rkI seed) (plI seed c) q).map (plI seed c)
theorem fmL_next {seed c : Int} {sh : Nat} {ap X Y : Int} {P Q : Nat} {L : List (Int × Int)} {q : Int × Int} : fmL seed c sh ap X Y P Q (L ++ [q]) = fmL seed c sh ap X Y P Q L ++ (if (insR X Y P Q (plI seed c q) && thB seed sh q && chB ap (thB seed sh) (rkI seed) (plI seed c) q) = true then [plI seed c q] else []) := by
  unfold fmL
  rw [List.filter_append, List.map_append]
  congr 1
  by_cases h : (insR X Y P Q (plI seed c q) && thB seed sh q && chB ap (thB seed sh) (rkI seed) (plI seed c) q) = true
  · rw [if_pos h, List.filter_cons]; simp only [List.filter_nil]; rw [if_pos h]; rfl
  · rw [if_neg h, List.filter_cons]; simp only [List.filter_nil]; rw [if_neg h]; rfl
theorem fmL_len (seed c : Int) (sh : Nat) (ap X Y : Int) (P Q : Nat) (L : List (Int × Int)) : (fmL seed c sh ap X Y P Q L).length ≤ L.length := by
  unfold fmL; rw [List.length_map]; exact List.length_filter_le _ _
set_option maxRecDepth 100000 in
theorem scatter_bad1 (seed c : Int) (sh : Nat) (ap X Y A B : Int) (hs : sh < 4294967296) (h0 : scE c sh ap ≠ 0) (w : World) :
    Calls Try.prog 46 #[scV seed c sh ap, reg X Y A B] w fun e w' => e = .returned (.tuple #[.slice none 0 0, .int .i64 (scE c sh ap)]) ∧ Below w.heap.size w w' := by
  have K := Lib.hid (fun w => chksc_any seed c sh ap hs w)
  have hb : (scE c sh ap == 0) = false := by simpa using h0
  have BA : Hid (Below w.heap.size w ((w.alloc (.cells #[.int .u32 seed, .int .i64 c, .float .f32 sh, .int .i64 ap] 93)).alloc (.cells #[.int .i64 X, .int .i64 Y, .int .i64 A, .int .i64 B] 23))) := Lib.hid (by repeat (first | with_reducible exact Below.refl _ _ | with_reducible apply Below.drew | with_reducible refine below_drewN ?_ _ | (with_reducible refine Below.setCell ?_ ?_ _; rotate_left; focus (first | omega | (simp <;> omega))) | (with_reducible refine Below.alloc ?_ ?_ _; rotate_left; focus (first | omega | (simp <;> omega)))))
  generalize scE c sh ap = E at *
  unfold scV scC at *
  go_enter Try.func46, Try.ntmps46
  go_wp2_with fail
  refine (K.out _).mono ?_
  rintro e w1 ⟨rfl, b1⟩
  have HB := Lib.hid (BA.out.trans (b1.mono BA.out.size))
  clear b1 BA
  go_wp2_with fail
  go_ret2
  exact ⟨rfl, HB.out⟩
set_option maxRecDepth 100000 in
theorem scatter_bad2 (seed c : Int) (sh : Nat) (ap X Y A B : Int) (hs : sh < 4294967296) (h0 : scE c sh ap = 0) (hc : chk X Y A B ≠ 0) (w : World) :
    Calls Try.prog 46 #[scV seed c sh ap, reg X Y A B] w fun e w' => e = .returned (.tuple #[.slice none 0 0, .int .i64 (chk X Y A B)]) ∧ Below w.heap.size w w' := by
  have K := Lib.hid (fun w => chksc_any seed c sh ap hs w)
  have KR := Lib.hid (fun w => check1 X Y A B w)
  rw [h0] at K
  have hb : (chk X Y A B == 0) = false := by simpa using hc
  have BA : Hid (Below w.heap.size w ((w.alloc (.cells #[.int .u32 seed, .int .i64 c, .float .f32 sh, .int .i64 ap] 93)).alloc (.cells #[.int .i64 X, .int .i64 Y, .int .i64 A, .int .i64 B] 23))) := Lib.hid (by repeat (first | with_reducible exact Below.refl _ _ | with_reducible apply Below.drew | with_reducible refine below_drewN ?_ _ | (with_reducible refine Below.setCell ?_ ?_ _; rotate_left; focus (first | omega | (simp <;> omega))) | (with_reducible refine Below.alloc ?_ ?_ _; rotate_left; focus (first | omega | (simp <;> omega)))))
  have HR : Hid (Reg ((w.alloc (.cells #[.int .u32 seed, .int .i64 c, .float .f32 sh, .int .i64 ap] 93)).alloc (.cells #[.int .i64 X, .int .i64 Y, .int .i64 A, .int .i64 B] 23)) (w.heap.size + 1) X Y A B) := by
    have := Reg.new (w.alloc (.cells #[.int .u32 seed, .int .i64 c, .float .f32 sh, .int .i64 ap] 93)) X Y A B
    exact Lib.hid (by simpa using this)
  generalize chk X Y A B = E at *
  unfold scV scC at *
  go_enter Try.func46, Try.ntmps46
  go_wp2_with fail
  refine (K.out _).mono ?_
  rintro e w1 ⟨rfl, b1⟩
  have HB := Lib.hid (BA.out.trans (b1.mono BA.out.size))
  obtain ⟨r0, r1, r2, r3⟩ := (HR.out.below b1 HR.out.lt).cells
  have lr := (HR.out.below b1 HR.out.lt).lt
  clear b1 BA
  go_wp2_with fail
  refine (KR.out _).mono ?_
  rintro e w2 ⟨rfl, b2⟩
  have HB2 := Lib.hid (HB.out.trans (b2.mono HB.out.size))
  clear b2 r0 r1 r2 r3 lr
  go_wp2_with fail
  go_ret2
  exact ⟨rfl, HB2.out⟩
end Go.Proofs.Ytfmbekdfigbfiaa
