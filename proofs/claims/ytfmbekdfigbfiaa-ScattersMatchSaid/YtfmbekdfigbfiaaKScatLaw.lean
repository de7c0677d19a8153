import Derived.Test.YtfmbekdfigbfiaaKScatZ
import Derived.BigQuiet
import Derived.Deep.DeepCutAuto
import Derived.Deep.CutBlock
namespace Go.Proofs.Ytfmbekdfigbfiaa
open Go.ChangeShapes Go.WideShapes Go.ChangeAt Go.RowKit
open Ieee.Format (fin finE htE allFin allHt all_true all_false mulF subF addF Ht Bd divF rootF floorF easeF mixF)
set_option linter.unusedVariables false
open Wide

/-! ### the law of scatters: plain facts -/
theorem and31 (n : Int) : ∃ k : Nat, k ≤ 31 ∧ bits .and .i64 n 31 = (k : Int) := by
  refine ⟨(BitVec.ofInt 64 n).toNat &&& 31, Nat.and_le_right, ?_⟩
  have hx : (BitVec.ofInt 64 n).toNat &&& 31 ≤ 31 := Nat.and_le_right
  show IntKind.i64.wrap ((BitVec.ofInt 64 n &&& BitVec.ofInt 64 31).toNat : Int) = _
  rw [BitVec.toNat_and, show (BitVec.ofInt 64 31).toNat = 31 from by decide, IntKind.wrap_i64]
  omega
theorem and15s (n : Int) : ∃ k : Nat, k ≤ 15 ∧ bits .and .i64 n 15 = (k : Int) := by
  refine ⟨(BitVec.ofInt 64 n).toNat &&& 15, Nat.and_le_right, ?_⟩
  have hx : (BitVec.ofInt 64 n).toNat &&& 15 ≤ 15 := Nat.and_le_right
  show IntKind.i64.wrap ((BitVec.ofInt 64 n &&& BitVec.ofInt 64 15).toNat : Int) = _
  rw [BitVec.toNat_and, show (BitVec.ofInt 64 15).toNat = 15 from by decide, IntKind.wrap_i64]
  omega
section
variable {seed c : Int} {sh : Nat} {ap X Y : Int} {P Q : Nat}
theorem scL_len (c1 : 1 ≤ c) (c2 : c ≤ 256) (hc : chk X Y P Q = 0) (hP : P ≤ 32) (hQ : Q ≤ 32) : (srt (scL seed c sh ap X Y P Q)).length ≤ 1089 := by
  obtain ⟨z1, z2, z3, z4, z5, z6, z7, z8, _⟩ := chk_zero hc
  obtain ⟨x1, x2, x3, _⟩ := lat_facts (X := X) (P := P) c1 c2 (by omega) hP (by omega) (by omega)
  obtain ⟨y1, y2, y3, _⟩ := lat_facts (X := Y) (P := Q) c1 c2 (by omega) hQ (by omega) (by omega)
  rw [srt_len]
  have e : scL seed c sh ap X Y P Q = fmL seed c sh ap X Y P Q (boxL (X / c) (Y / c) (latN X c P) (latN Y c Q)) := rfl
  rw [e]
  refine Nat.le_trans (fmL_len _ _ _ _ _ _ _ _ _) ?_
  rw [box_len]
  exact Nat.mul_le_mul y3 x3
theorem scL_in {d : Int × Int} (hd : d ∈ srt (scL seed c sh ap X Y P Q)) : X ≤ d.1 ∧ d.1 < X + P ∧ Y ≤ d.2 ∧ d.2 < Y + Q := by
  have hd := (srt_perm _).mem_iff.1 hd
  unfold scL outL at hd
  obtain ⟨q, hq, rfl⟩ := List.mem_map.1 hd
  have := (List.mem_filter.1 hq).2
  simp only [Bool.and_eq_true] at this
  exact of_decide_eq_true this.1.1
theorem scL_apart (h0 : scE c sh ap = 0) : (srt (scL seed c sh ap X Y P Q)).Pairwise fun p q => ap * ap < sqI p q := by
  obtain ⟨c1, c2, a0, a2, _⟩ := scE_zero h0
  exact out_apart c1 a0 a2 (plI_cell c1) _ _ _ _
theorem scL_sub {x y : Int} {p q : Nat} (h0 : scE c sh ap = 0) (hc : chk X Y P Q = 0) (hc2 : chk x y p q = 0) (hP : P ≤ 32) (hQ : Q ≤ 32) (hp : p ≤ 32) (hq : q ≤ 32) (hx : X ≤ x) (hx2 : x + p ≤ X + P) (hy : Y ≤ y) (hy2 : y + q ≤ Y + Q) :
    (srt (scL seed c sh ap X Y P Q)).filter (insR x y p q) = srt (scL seed c sh ap x y p q) := by
  obtain ⟨c1, c2, a0, a2, _⟩ := scE_zero h0
  obtain ⟨z1, z2, z3, z4, z5, z6, z7, z8, _⟩ := chk_zero hc
  obtain ⟨u1, u2, u3, u4, u5, u6, u7, u8, _⟩ := chk_zero hc2
  refine out_sub (fun d hd => ins_in c1 c2 (by omega) hP (by omega) hQ (by omega) (by omega) (by omega) (by omega) d hd) (fun d hd => ins_in c1 c2 (by omega) hp (by omega) hq (by omega) (by omega) (by omega) (by omega) d hd) (fun d hd => ?_)
  have := of_decide_eq_true hd
  unfold inR at this
  exact decide_eq_true (by unfold inR; omega)
end
/-- what two regions have in common -/
theorem cm_sub {X Y T0 T1 : Int} {P Q u v : Nat} (hc : chk X Y P Q = 0) (hP : P ≤ 32) (hQ : Q ≤ 32) (hok : cmOk X Y P Q T0 T1 u v = true) :
    ∃ (x y : Int) (p q : Nat), cmR X Y P Q T0 T1 u v = reg x y p q ∧ chk x y p q = 0 ∧ p ≤ 32 ∧ q ≤ 32 ∧ X ≤ x ∧ x + p ≤ X + P ∧ Y ≤ y ∧ y + q ≤ Y + Q := by
  obtain ⟨z1, z2, z3, z4, z5, z6, z7, z8, _⟩ := chk_zero hc
  have hk := hok
  unfold cmOk at hk
  have hk := of_decide_eq_true hk
  have m1 : X ≤ mx X T0 := by unfold mx; split <;> omega
  have m2 : Y ≤ mx Y T1 := by unfold mx; split <;> omega
  have n1 : mn (X + P) (T0 + u) ≤ X + P := by unfold mn; split <;> omega
  have n2 : mn (Y + Q) (T1 + v) ≤ Y + Q := by unfold mn; split <;> omega
  have e : cmR X Y P Q T0 T1 u v = reg (mx X T0) (mx Y T1) (mn (X + P) (T0 + u) - mx X T0) (mn (Y + Q) (T1 + v) - mx Y T1) := by unfold cmR; rw [if_pos hok]
  rw [e]
  generalize mx X T0 = x at *
  generalize mx Y T1 = y at *
  generalize mn (X + P) (T0 + u) = x2 at *
  generalize mn (Y + Q) (T1 + v) = y2 at *
  have e1 : ((x2 - x).toNat : Int) = x2 - x := by omega
  have e2 : ((y2 - y).toNat : Int) = y2 - y := by omega
  refine ⟨x, y, (x2 - x).toNat, (y2 - y).toNat, by rw [e1, e2], ?_, by omega, by omega, m1, by omega, m2, by omega⟩
  have hm := Nat.mul_le_mul (show (x2 - x).toNat ≤ 32 by omega) (show (y2 - y).toNat ≤ 32 by omega)
  have hm2 : ((x2 - x).toNat : Int) * ((y2 - y).toNat : Int) ≤ 1024 := by rw [← Int.natCast_mul]; omega
  unfold chk
  rw [if_neg (by omega), if_neg (by omega), if_neg (by omega)]
theorem reg_store5 {w : World} {k : Nat} {X Y A B : Int} (h : Reg w k X Y A B) (p q : Int) : Reg ((w.setCell ⟨k, 2, none⟩ (.int .i64 p)).setCell ⟨k, 3, none⟩ (.int .i64 q)) k X Y p q ∧ Below k w ((w.setCell ⟨k, 2, none⟩ (.int .i64 p)).setCell ⟨k, 3, none⟩ (.int .i64 q)) := by
  refine ⟨?_, (by repeat (first | with_reducible exact Below.refl _ _ | with_reducible apply Below.drew | with_reducible refine below_drewN ?_ _ | (with_reducible refine Below.setCell ?_ ?_ _; rotate_left; focus (first | omega | (simp <;> omega))) | (with_reducible refine Below.alloc ?_ ?_ _; rotate_left; focus (first | omega | (simp <;> omega)))))⟩
  have h1 : Reg (w.setCell ⟨k, 2, none⟩ (.int .i64 p)) k X Y p B := by
    unfold Reg at *; exact heap_setCell_same w k 2 _ _ _ h
  unfold Reg at *; exact heap_setCell_same _ k 3 _ _ _ h1
/-- what the law keeps -/
structure ScSt (w wx : World) (seed c : Int) (sh : Nat) (ap X Y A B T0 T1 T2 T3 : Int) : Prop where
  s : Blk wx w.heap.size (scC seed c sh ap) 93
  r : Reg wx (w.heap.size + 1) X Y A B
  t : Reg wx (w.heap.size + 2) T0 T1 T2 T3
  b : Below w.heap.size w wx
section
variable {w wx w2 : World} {seed c : Int} {sh : Nat} {ap X Y A B T0 T1 T2 T3 : Int}
theorem ScSt.below (s : ScSt w wx seed c sh ap X Y A B T0 T1 T2 T3) (hb : Below wx.heap.size wx w2) : ScSt w w2 seed c sh ap X Y A B T0 T1 T2 T3 :=
  ⟨s.s.below hb s.s.lt, s.r.below hb s.r.lt, s.t.below hb s.t.lt, s.b.trans (hb.mono s.b.size)⟩
theorem ScSt.alloc (s : ScSt w wx seed c sh ap X Y A B T0 T1 T2 T3) (o : Obj) : ScSt w (wx.alloc o) seed c sh ap X Y A B T0 T1 T2 T3 := s.below ((Below.refl _ _).alloc (Nat.le_refl _) o)
theorem ScSt.store (h : ScSt w wx seed c sh ap X Y A B T0 T1 T2 T3) (A' B' : Int) : ScSt w ((wx.setCell ⟨w.heap.size + 1, 2, none⟩ (.int .i64 A')).setCell ⟨w.heap.size + 1, 3, none⟩ (.int .i64 B')) seed c sh ap X Y A' B' T0 T1 T2 T3 := by
  have hb : Below (w.heap.size + 1) wx ((wx.setCell ⟨w.heap.size + 1, 2, none⟩ (.int .i64 A')).setCell ⟨w.heap.size + 1, 3, none⟩ (.int .i64 B')) := (by repeat (first | with_reducible exact Below.refl _ _ | with_reducible apply Below.drew | with_reducible refine below_drewN ?_ _ | (with_reducible refine Below.setCell ?_ ?_ _; rotate_left; focus (first | omega | (simp <;> omega))) | (with_reducible refine Below.alloc ?_ ?_ _; rotate_left; focus (first | omega | (simp <;> omega)))))
  refine ⟨(hb.block _ (by omega)).trans h.s, (reg_store5 h.r A' B').1, ((h.t.setCell (by simp) _).setCell (by simp) _), h.b.trans (hb.mono (by omega))⟩
end
theorem sc_start (w : World) (seed c : Int) (sh : Nat) (ap X Y A B T0 T1 T2 T3 : Int) : ∀ W0, W0 = ((w.alloc (.cells #[.int .u32 seed, .int .i64 c, .float .f32 sh, .int .i64 ap] 93)).alloc (.cells #[.int .i64 X, .int .i64 Y, .int .i64 A, .int .i64 B] 23)).alloc (.cells #[.int .i64 T0, .int .i64 T1, .int .i64 T2, .int .i64 T3] 23) → ScSt w W0 seed c sh ap X Y A B T0 T1 T2 T3 := by
  rintro _ rfl
  refine ⟨((Blk.new _ _ _).alloc _).alloc _, ?_, ?_, (by repeat (first | with_reducible exact Below.refl _ _ | with_reducible apply Below.drew | with_reducible refine below_drewN ?_ _ | (with_reducible refine Below.setCell ?_ ?_ _; rotate_left; focus (first | omega | (simp <;> omega))) | (with_reducible refine Below.alloc ?_ ?_ _; rotate_left; focus (first | omega | (simp <;> omega)))))⟩
  · have := (Reg.new (w.alloc (.cells #[.int .u32 seed, .int .i64 c, .float .f32 sh, .int .i64 ap] 93)) X Y A B).alloc (.cells #[.int .i64 T0, .int .i64 T1, .int .i64 T2, .int .i64 T3] 23)
    simpa using this
  · have := Reg.new ((w.alloc (.cells #[.int .u32 seed, .int .i64 c, .float .f32 sh, .int .i64 ap] 93)).alloc (.cells #[.int .i64 X, .int .i64 Y, .int .i64 A, .int .i64 B] 23)) T0 T1 T2 T3
    simpa using this
end Go.Proofs.Ytfmbekdfigbfiaa
