import Derived.Test.YtkmcinibaffpmaaGreatJB
import Derived.Deep.DeepCutAuto
import Derived.Test.YtkmcinibaffpmaaGreatInner
import Derived.Test.YtkmcinibaffpmaaGreatJA
import Derived.BigQuiet
import Derived.Deep.QuietTactic
namespace Go.Proofs.YtkmcinibaffpmaaGreat
open Go.ChangeShapes Go.WideShapes Go.ChangeAt Go.RowKit
open Ieee.Format (fin finE htE allFin allHt all_true all_false mulF subF addF Ht Bd divF rootF floorF easeF mixF)
set_option linter.unusedVariables false
open Wide Go.Sort Go.Proofs

theorem Tryz.infoPt : (Tryz.prog.info? 37).map (fun i => (i.zero, i.size, i.bytes)) = some (some (.agg #[.int .i64 0, .int .i64 0]), 2, 16) := by kernel_rfl
def ptsV (l : List (Int × Int)) : List Value := l.flatMap fun p => [.int .i64 p.1, .int .i64 p.2]
theorem ptsV_app (a b : List (Int × Int)) : ptsV (a ++ b) = ptsV a ++ ptsV b := by simp [ptsV]
theorem ptsV_one (p : Int × Int) : ptsV [p] = [.int .i64 p.1, .int .i64 p.2] := rfl
/-- the memory of the reference's search -/
structure CelR (w wr : World) (B kp : Nat) (c x y : Int) (v : Value) (m : List (Int × Int)) : Prop where
  q : Blk wr w.heap.size #[.int .i64 c] 3
  a : Blk wr (w.heap.size + 1) #[.int .i64 0, .int .i64 0] 37
  p : Blk wr kp #[.int .i64 x, .int .i64 y] 37
  b0 : w.heap.size + 1 < B
  bp : kp < B
  bz : B ≤ wr.heap.size
  own : wr.ownsRow B 37 2 v m.length (ptsV m)
  below : Below w.heap.size w wr
section
variable {w wr w2 w3 : World} {B kp : Nat} {c x y : Int} {v v' : Value} {m : List (Int × Int)}
theorem CelR.call (h : CelR w wr B kp c x y v m) (hb : Below wr.heap.size wr w2) : CelR w w2 B kp c x y v m :=
  ⟨h.q.below hb h.q.lt, h.a.below hb h.a.lt, h.p.below hb h.p.lt, h.b0, h.bp, Nat.le_trans h.bz hb.size, ownsRow_below h.own hb (fun k hk => (h.own.lt k hk).2), h.below.trans (hb.mono h.below.size)⟩
theorem CelR.alloc (h : CelR w wr B kp c x y v m) (o : Obj) : CelR w (wr.alloc o) B kp c x y v m := h.call ((Below.refl _ _).alloc (Nat.le_refl _) _)
theorem Blk.grown {k : Nat} {cs : Array Value} {t : TypeId} {o : Option Nat} (h : Blk w k cs t) (hg : w.grownBy w3 o) (hk : some k ≠ o) : Blk w3 k cs t := (hg.block k h.lt hk).trans h
theorem CelR.app {r : Int × Int} {o : Obj} (h : CelR w w2 B kp c x y v m)
    (hown : w3.ownsRow B 37 2 v' (m.length + 1) (ptsV m ++ [.int .i64 r.1, .int .i64 r.2])) (hg : (w2.alloc o).grownBy w3 v.ownBlock) : CelR w w3 B kp c x y v' (m ++ [r]) := by
  have hne : ∀ k, k < B → some k ≠ v.ownBlock := fun k hk e => by
    have := (h.own.lt k e.symm).1; omega
  have hA := h.alloc o
  have hb0 := h.b0
  refine ⟨hA.q.grown hg (hne _ (by omega)), hA.a.grown hg (hne _ h.b0), hA.p.grown hg (hne _ h.bp), h.b0, h.bp, Nat.le_trans hA.bz hg.size, ?_, ?_⟩
  · rw [ptsV_app, ptsV_one]; simpa using hown
  · refine hA.below.grown hg (by have := hA.below.size; exact this) (fun k hk => ?_)
    have := (h.own.lt k hk).1
    omega
end
theorem celr_start (w : World) (c x y : Int) (w2 : World) (h : CelW w c (0, 0) w2) :
    CelR w (w2.alloc (.cells #[.int .i64 x, .int .i64 y] 37)) (w2.heap.size + 1) w2.heap.size c x y (.slice none 0 0) [] := by
  have hA := h.alloc (.cells #[.int .i64 x, .int .i64 y] 37)
  have := h.p.lt
  exact ⟨hA.q, hA.p, Blk.new _ _ _, by omega, by omega, by simp, World.ownsRow_nil _ _ _ _, hA.b⟩
end Go.Proofs.YtkmcinibaffpmaaGreat

namespace Go.Proofs.YtkmcinibaffpmaaGreat
open Go.ChangeShapes Go.WideShapes Go.ChangeAt Go.RowKit
open Ieee.Format (fin finE htE allFin allHt all_true all_false mulF subF addF Ht Bd divF rootF floorF easeF mixF)
set_option linter.unusedVariables false
open Wide Go.Sort Go.Proofs

theorem near_self (p : Int × Int) : Near p p := by unfold Near; omega
/-! a point near another one: an element of the subtype -/
instance nearPtInh (p : Int × Int) : Inhabited { a : Int × Int // Near p a } := ⟨⟨p, near_self p⟩⟩
def encN (p : Int × Int) (a : { a : Int × Int // Near p a }) : List Value := [.int .i64 a.1.1, .int .i64 a.1.2]
def fN (p : Int × Int) (a : { a : Int × Int // Near p a }) : Int := sqI a.1 p
def cfN (p : Int × Int) (a b : { a : Int × Int // Near p a }) : Int := cmpI (fN p a) (fN p b)
theorem ltOf_cfN (p : Int × Int) : ltOf (cfN p) = nearer (fN p) := by
  funext a b
  unfold ltOf cfN nearer cmpI
  by_cases h : fN p a < fN p b
  · simp [h]
  · by_cases h2 : fN p b < fN p a
    · simp [h, h2]
    · simp [h, h2]
/-- the nine centres, with the word that they are near -/
def lN (seed x y c : Int) (h : ∀ n, n < 9 → Near (x, y) (cenAt seed (x / c) (y / c) c n)) : List ({ a : Int × Int // Near (x, y) a }) := List.ofFn fun n : Fin 9 => ⟨cenAt seed (x / c) (y / c) c n.1, h n.1 n.2⟩
theorem lN_len (seed x y c : Int) (h : ∀ n, n < 9 → Near (x, y) (cenAt seed (x / c) (y / c) c n)) : (lN seed x y c h).length = 9 := by unfold lN; simp
theorem lN_val (seed x y c : Int) (h : ∀ n, n < 9 → Near (x, y) (cenAt seed (x / c) (y / c) c n)) : (lN seed x y c h).map (fun a => a.1) = cenL seed (x / c) (y / c) c := by
  refine List.ext_getElem? fun i => ?_
  unfold lN cenL
  rw [List.getElem?_map, List.getElem?_ofFn, List.getElem?_map]
  by_cases hi : i < 9
  · rw [dif_pos hi, List.getElem?_range hi]; rfl
  · rw [dif_neg hi, List.getElem?_eq_none (by simp; omega)]; rfl
theorem fold_val {p : Int × Int} : ∀ (L : List ({ a : Int × Int // Near p a })) (a b : Int) (z : { a : Int × Int // Near p a }),
    (L.map (fun a => a.1)).foldl (scanStep (fun q => sqI q p)) (a, b, z.1) = ((L.foldl (scanStep (fN p)) (a, b, z)).1, (L.foldl (scanStep (fN p)) (a, b, z)).2.1, (L.foldl (scanStep (fN p)) (a, b, z)).2.2.1)
  | [], _, _, _ => rfl
  | q :: t, a, b, z => by
    rw [List.map_cons, List.foldl_cons, List.foldl_cons]
    have e : fN p q = sqI q.1 p := rfl
    by_cases c1 : a < 0 ∨ sqI q.1 p < a
    · have e1 : scanStep (fun q => sqI q p) (a, b, z.1) q.1 = (sqI q.1 p, a, q.1) := by unfold scanStep; simp only; rw [if_pos c1]
      have e2 : scanStep (fN p) (a, b, z) q = (fN p q, a, q) := by unfold scanStep; simp only; rw [if_pos (by rw [e]; exact c1)]
      rw [e1, e2, ← e]
      exact fold_val t _ _ _
    · by_cases c2 : b < 0 ∨ sqI q.1 p < b
      · have e1 : scanStep (fun q => sqI q p) (a, b, z.1) q.1 = (a, sqI q.1 p, z.1) := by unfold scanStep; simp only; rw [if_neg c1, if_pos c2]
        have e2 : scanStep (fN p) (a, b, z) q = (a, fN p q, z) := by unfold scanStep; simp only; rw [if_neg (by rw [e]; exact c1), if_pos (by rw [e]; exact c2)]
        rw [e1, e2, ← e]
        exact fold_val t _ _ _
      · have e1 : scanStep (fun q => sqI q p) (a, b, z.1) q.1 = (a, b, z.1) := by unfold scanStep; simp only; rw [if_neg c1, if_neg c2]
        have e2 : scanStep (fN p) (a, b, z) q = (a, b, z) := by unfold scanStep; simp only; rw [if_neg (by rw [e]; exact c1), if_neg (by rw [e]; exact c2)]
        rw [e1, e2]
        exact fold_val t _ _ _
/-- what lies first and second behind the sort -/
theorem near3_sort (seed x y c : Int) (h : ∀ n, n < 9 → Near (x, y) (cenAt seed (x / c) (y / c) c n)) :
    near3 seed x y c = (sqI (Sort.insertionSort (ltOf (cfN (x, y))) (lN seed x y c h).toArray 0 9)[0]!.1 (x, y), sqI (Sort.insertionSort (ltOf (cfN (x, y))) (lN seed x y c h).toArray 0 9)[1]!.1 (x, y), (Sort.insertionSort (ltOf (cfN (x, y))) (lN seed x y c h).toArray 0 9)[0]!.1) := by
  have hs := scan_sort (fN (x, y)) (fun a => sqI_nonneg a.1 _) (⟨(x, y), near_self _⟩ : { a : Int × Int // Near (x, y) a }) (lN seed x y c h) (by rw [lN_len]; omega)
  rw [lN_len, ← ltOf_cfN] at hs
  have hv := fold_val (lN seed x y c h) (-1) (-1) (⟨(x, y), near_self _⟩ : { a : Int × Int // Near (x, y) a })
  rw [hs] at hv
  unfold near3
  rw [← lN_val seed x y c h]
  have hne : ∃ a t, lN seed x y c h = a :: t := by
    have := lN_len seed x y c h
    match hl : lN seed x y c h with
    | [] => rw [hl] at this; simp at this
    | a :: t => exact ⟨a, t, rfl⟩
  obtain ⟨a, t, ht⟩ := hne
  have hst : ∀ z : Int × Int, ((lN seed x y c h).map (fun a => a.1)).foldl (scanStep (fun q => sqI q (x, y))) (-1, -1, z) = (t.map (fun a => a.1)).foldl (scanStep (fun q => sqI q (x, y))) (sqI a.1 (x, y), -1, a.1) := by
    intro z
    rw [ht, List.map_cons, List.foldl_cons]
    simp [scanStep]
  rw [hst (0, 0), ← hst (⟨(x, y), near_self _⟩ : { a : Int × Int // Near (x, y) a }).1]
  exact hv
end Go.Proofs.YtkmcinibaffpmaaGreat

namespace Go.Proofs.YtkmcinibaffpmaaGreat
open Go.ChangeShapes Go.WideShapes Go.ChangeAt Go.RowKit
open Ieee.Format (fin finE htE allFin allHt all_true all_false mulF subF addF Ht Bd divF rootF floorF easeF mixF)
set_option linter.unusedVariables false
open Wide Go.Sort Go.Proofs
open Ieee.Format (farF far_ok)

structure FarS (w : World) (kp kc : Nat) (q p : Int × Int) (c : Int) (wr : World) : Prop where
  q : Blk wr w.heap.size #[.int .i64 q.1, .int .i64 q.2] 37
  p : Blk wr kp #[.int .i64 p.1, .int .i64 p.2] 37
  c : Blk wr kc #[.int .i64 c] 3
  b : Go.RowKit.Below w.heap.size w wr
section
variable {w wr w2 : World} {kp kc : Nat} {q p : Int × Int} {c : Int}
theorem FarS.call (h : FarS w kp kc q p c wr) (hb : Go.RowKit.Below wr.heap.size wr w2) : FarS w kp kc q p c w2 := ⟨h.q.below hb h.q.lt, h.p.below hb h.p.lt, h.c.below hb h.c.lt, h.b.trans (hb.mono h.b.size)⟩
theorem FarS.drew (h : FarS w kp kc q p c wr) : FarS w kp kc q p c wr.drew := ⟨h.q.drew, h.p.drew, h.c.drew, h.b.drew⟩
end
set_option maxRecDepth 100000 in
set_option maxHeartbeats 2000000 in
theorem far2_any (q p : Int × Int) (c : Int) (kp kc : Nat) (w : World) (hn : Near p q) (h3 : -1099511627776 ≤ p.1 ∧ p.1 ≤ 1099511627776) (h4 : -1099511627776 ≤ p.2 ∧ p.2 ≤ 1099511627776) (hd : sqI q p ≤ (4 * c) * (4 * c)) (h1 : 1 ≤ c) (h2 : c ≤ 4096)
    (hp : Blk w kp #[.int .i64 p.1, .int .i64 p.2] 37) (hc : Blk w kc #[.int .i64 c] 3) :
    Calls Tryz.prog 87 #[.agg #[.int .i64 q.1, .int .i64 q.2], .pointer (some ⟨kp, 0, none⟩), .pointer (some ⟨kc, 0, none⟩)] w fun e w' => e = .returned (.float .f32 (farF (sqI q p) c)) ∧ Go.RowKit.Below w.heap.size w w' := by
  obtain ⟨f1, f2, f3, f4, f5, f6, f7, _⟩ := far_ok 4 (.inr rfl) (sqI_nonneg q p) h1 h2 hd
  have hne : Ieee.single.V (floatOfInt .f32 c) ≠ 0 := by intro e; rw [e] at f5; exact absurd f5 (by grind)
  have KS := Lib.hid (fun w => square2_any q p w hn.1 hn.2 h3 h4)
  have KV := Lib.hid (fun w => ref_conv_ok (sqI q p) w)
  have KR := Lib.hid (fun w => refroot_any (floatOfInt .f32 (sqI q p)) f1 f2 w)
  have KV2 := Lib.hid (fun w => ref_conv_ok c w)
  have KD := Lib.hid (fun w => ref_div_ok _ _ w f3 f4 hne f6)
  have I0 : FarS w kp kc q p c (w.alloc (.cells #[.int .i64 q.1, .int .i64 q.2] 37)) := ⟨Blk.new _ _ _, hp.alloc _, hc.alloc _, (by repeat (first | with_reducible exact Below.refl _ _ | with_reducible apply Below.drew | with_reducible refine below_drewN ?_ _ | (with_reducible refine Below.setCell ?_ ?_ _; rotate_left; focus (first | omega | (simp <;> omega))) | (with_reducible refine Below.alloc ?_ ?_ _; rotate_left; focus (first | omega | (simp <;> omega)))))⟩
  have HI := Lib.hid I0
  unfold farF at *
  unfold ptV at KS
  clear I0 f1 f2 f3 f4 f5 f6 f7 hne hd hn h3 h4 hp hc h1 h2
  generalize divF (rootF (floatOfInt .f32 (sqI q p))) (floatOfInt .f32 c) = r at *
  generalize rootF (floatOfInt .f32 (sqI q p)) = s at *
  generalize floatOfInt .f32 (sqI q p) = fd at *
  generalize floatOfInt .f32 c = fc at *
  generalize sqI q p = d at *
  obtain ⟨qx, qy⟩ := q
  obtain ⟨px, py⟩ := p
  simp only at *
  go_enter Tryz.func87, Tryz.ntmps87
  go_wp2_with fail
  generalize w.alloc (.cells #[.int .i64 qx, .int .i64 qy] 37) = W1 at *
  refine wp_region_noPanic ?_
  refine wp_region_heldT (FarS w kp kc (qx, qy) (px, py) c) 9 (by kernel_rfl) HI.out.drew (fun hHeld => ?_)
  refine wpAnyT_takeL [] (i := 0) (v := ?_) rfl (by kernel_rfl) (by kernel_rfl) (by kernel_rfl) (by kernel_rfl) (fun _ _ _ h => h) (Or.inl ⟨by rfl, ?_⟩) (by with_reducible assumption) ?_
  rotate_left
  · intro w hSw
    have z0 := hSw.q.cell 0
    have z1 := hSw.q.cell 1
    have z2 := hSw.p.cell 0
    have z3 := hSw.p.cell 1
    have z4 := hSw.c.cell 0
    simp at z0 z1 z2 z3 z4
    go_simp
    try with_reducible rfl
  try simp only [Act.put, List.setIfInBounds_toArray, List.set_cons_zero, List.set_cons_succ]
  refine wpAnyT_takeL [] (i := 1) (v := ?_) rfl (by kernel_rfl) (by kernel_rfl) (by kernel_rfl) (by kernel_rfl) (fun _ _ _ h => h) (Or.inl ⟨by rfl, ?_⟩) (by with_reducible assumption) ?_
  rotate_left
  · intro w hSw
    have z0 := hSw.q.cell 0
    have z1 := hSw.q.cell 1
    have z2 := hSw.p.cell 0
    have z3 := hSw.p.cell 1
    have z4 := hSw.c.cell 0
    simp at z0 z1 z2 z3 z4
    go_simp
    try with_reducible rfl
  try simp only [Act.put, List.setIfInBounds_toArray, List.set_cons_zero, List.set_cons_succ]
  refine wpAnyT_takeL [] (i := 5) (v := ?_) rfl (by kernel_rfl) (by kernel_rfl) (by kernel_rfl) (by kernel_rfl) (fun _ _ _ h => h) (Or.inl ⟨by rfl, ?_⟩) (by with_reducible assumption) ?_
  rotate_left
  · intro w hSw
    have z0 := hSw.q.cell 0
    have z1 := hSw.q.cell 1
    have z2 := hSw.p.cell 0
    have z3 := hSw.p.cell 1
    have z4 := hSw.c.cell 0
    simp at z0 z1 z2 z3 z4
    go_simp
    try with_reducible rfl
  try simp only [Act.put, List.setIfInBounds_toArray, List.set_cons_zero, List.set_cons_succ]
  refine wpAnyT_ready (rs := [2]) (by kernel_rfl) (by simp) ?_
  refine AllReadyT.cons rfl (fun K hK => ?_) AllReadyT.nil
  go_simp
  (with_reducible refine (KS.out _).mono ?_)
  rintro e w2 ⟨rfl, hb⟩
  have hN := hHeld.call hb
  go_wp2_with fail
  refine hK.out _ _ (fun _ => hN) (fun hS_ => ?_)
  have hHeld := hS_ (by omega)
  clear hS_ hK K
  try simp only [Act.put, List.setIfInBounds_toArray, List.set_cons_zero, List.set_cons_succ]
  refine wpAnyT_ready (rs := [3]) (by kernel_rfl) (by simp) ?_
  refine AllReadyT.cons rfl (fun K hK => ?_) AllReadyT.nil
  go_simp
  (with_reducible refine (KV.out _).mono ?_)
  rintro e w2 ⟨rfl, rfl⟩
  go_wp2_with fail
  refine hK.out _ _ (fun _ => hHeld) (fun hS_ => ?_)
  have hHeld := hS_ (by omega)
  clear hS_ hK K
  try simp only [Act.put, List.setIfInBounds_toArray, List.set_cons_zero, List.set_cons_succ]
  refine wpAnyT_ready (rs := [4]) (by kernel_rfl) (by simp) ?_
  refine AllReadyT.cons rfl (fun K hK => ?_) AllReadyT.nil
  go_simp
  (with_reducible refine (KR.out _).mono ?_)
  rintro e w2 ⟨rfl, rfl⟩
  go_wp2_with fail
  refine hK.out _ _ (fun _ => hHeld) (fun hS_ => ?_)
  have hHeld := hS_ (by omega)
  clear hS_ hK K
  try simp only [Act.put, List.setIfInBounds_toArray, List.set_cons_zero, List.set_cons_succ]
  refine wpAnyT_ready (rs := [6]) (by kernel_rfl) (by simp) ?_
  refine AllReadyT.cons rfl (fun K hK => ?_) AllReadyT.nil
  go_simp
  (with_reducible refine (KV2.out _).mono ?_)
  rintro e w2 ⟨rfl, rfl⟩
  go_wp2_with fail
  refine hK.out _ _ (fun _ => hHeld) (fun hS_ => ?_)
  have hHeld := hS_ (by omega)
  clear hS_ hK K
  try simp only [Act.put, List.setIfInBounds_toArray, List.set_cons_zero, List.set_cons_succ]
  refine wpAnyT_ready (rs := [7]) (by kernel_rfl) (by simp) ?_
  refine AllReadyT.cons rfl (fun K hK => ?_) AllReadyT.nil
  go_simp
  (with_reducible refine (KD.out _).mono ?_)
  rintro e w2 ⟨rfl, rfl⟩
  go_wp2_with fail
  refine hK.out _ _ (fun _ => hHeld) (fun hS_ => ?_)
  have hHeld := hS_ (by omega)
  clear hS_ hK K
  try simp only [Act.put, List.setIfInBounds_toArray, List.set_cons_zero, List.set_cons_succ]
  refine wpAnyT_takeL [] (i := 8) (v := ?_) rfl (by kernel_rfl) (by kernel_rfl) (by kernel_rfl) (by kernel_rfl) (fun _ _ _ h => h) (Or.inl ⟨by rfl, ?_⟩) (by with_reducible assumption) ?_
  rotate_left
  · intro w hSw
    have z0 := hSw.q.cell 0
    have z1 := hSw.q.cell 1
    have z2 := hSw.p.cell 0
    have z3 := hSw.p.cell 1
    have z4 := hSw.c.cell 0
    simp at z0 z1 z2 z3 z4
    go_simp
    try with_reducible rfl
  try simp only [Act.put, List.setIfInBounds_toArray, List.set_cons_zero, List.set_cons_succ]
  refine wpAnyT_done (by kernel_rfl) ?_ _
  refine NoPanic.normal ?_
  have HB := Lib.hid hHeld.b
  go_wp2_with fail
  go_ret
  exact ⟨rfl, HB.out⟩
end Go.Proofs.YtkmcinibaffpmaaGreat

namespace Go.Proofs.YtkmcinibaffpmaaGreat
open Go.ChangeShapes Go.WideShapes Go.ChangeAt Go.RowKit
open Ieee.Format (fin finE htE allFin allHt all_true all_false mulF subF addF Ht Bd divF rootF floorF easeF mixF)
set_option linter.unusedVariables false
open Wide Go.Sort Go.Proofs
open Ieee.Format (farF far_ok)

theorem below_sort {α : Type} [Inhabited α] (enc : α → List Value) (w : World) (g off n : Nat) (d : Array α) (os : Array Obj) (hg : g < w.heap.size) : Go.RowKit.Below g w (sortWorldK enc 2 w g off n d os) := by
  refine ⟨rfl, rfl, rfl, size_sortWorldK_c enc 2 w g off n d os, fun k hk => ?_⟩
  unfold sortWorldK putRowK putRow mapBlock grow
  show ((w.heap.modify g _) ++ os)[k]? = w.heap[k]?
  have h : k < w.heap.size := by omega
  rw [Array.getElem?_append_left (by simpa using h), Array.getElem?_modify]
  rw [if_neg (by omega)]
theorem pts_get (L : List (Int × Int)) (i : Nat) (hi : i < L.length) : (ptsV L)[i * 2]? = some (.int .i64 (L.getD i (0, 0)).1) ∧ (ptsV L)[i * 2 + 1]? = some (.int .i64 (L.getD i (0, 0)).2) := by
  induction L generalizing i with
  | nil => simp at hi
  | cons a L ih =>
    have e : ptsV (a :: L) = [.int .i64 a.1, .int .i64 a.2] ++ ptsV L := rfl
    rw [e]
    cases i with
    | zero => exact ⟨rfl, rfl⟩
    | succ i =>
      have h := ih i (by simpa using hi)
      have hl : ([.int .i64 a.1, .int .i64 a.2] : List Value).length = 2 := rfl
      have f : ∀ t, (([.int .i64 a.1, .int .i64 a.2] : List Value) ++ ptsV L)[(i + 1) * 2 + t]? = (ptsV L)[i * 2 + t]? := fun t => by
        rw [List.getElem?_append_right (by rw [hl]; omega), hl]
        congr 1; omega
      have f0 := f 0
      simp only [Nat.add_zero] at f0
      rw [f0, f 1]
      exact h
theorem holds_pts {p : Int × Int} {w : World} {B g cap : Nat} (l : List { a : Int × Int // Near p a }) (L : List (Int × Int)) (hL : l.map (fun a => a.1) = L)
    (h : w.ownsRow B 37 2 (.slice (some ⟨g, 0, none⟩) L.length cap) L.length (ptsV L)) : HoldsK (encN p) 2 w g 0 l.toArray := by
  subst hL
  intro j hj
  rw [size_flatK] at hj
  have hs : l.toArray.size = l.length := by simp
  rw [hs] at hj
  have hi : j / 2 < l.length := by omega
  have hm : j / 2 < (l.map (fun a => a.1)).length := by rw [List.length_map]; exact hi
  obtain ⟨g0, g1⟩ := pts_get (l.map fun a => a.1) (j / 2) hm
  have e0 : (l.map (fun a => a.1)).getD (j / 2) (0, 0) = (l[j / 2]).1 := by rw [List.getD_eq_getElem?_getD, List.getElem?_map, List.getElem?_eq_getElem hi]; rfl
  rw [e0] at g0 g1
  have e1 : l.toArray[j / 2]! = l[j / 2] := by simp [getElem!_def, hi]
  have hc := h.cellAt j (by rw [List.length_map]; omega)
  refine ⟨?_, ?_⟩
  · rw [Nat.zero_add, hc, get_flatK _ _ _ _ (by rw [hs]; exact hj), e1]
    rcases (show j % 2 = 0 ∨ j % 2 = 1 by omega) with hr | hr
    · rw [hr]
      have hj2 : j / 2 * 2 = j := by omega
      rw [hj2] at g0
      exact g0
    · rw [hr]
      have hj2 : j / 2 * 2 + 1 = j := by omega
      rw [hj2] at g1
      exact g1
  · rw [Nat.zero_add]; exact h.frozenAt j
theorem outer_size {α : Type} [Inhabited α] (lt : α → α → Bool) (n : Nat) : ∀ (m i : Nat) (d : Array α), n - i = m → (Sort.insOuter lt 0 n i d).size = d.size
  | 0, i, d, h => by rw [Sort.insOuter, if_neg (by omega)]
  | m + 1, i, d, h => by rw [Sort.insOuter, if_pos (by omega), outer_size lt n m (i + 1) _ (by omega), ins_size]
theorem sorted_size {α : Type} [Inhabited α] (lt : α → α → Bool) (d : Array α) (n : Nat) : (Sort.insertionSort lt d 0 n).size = d.size := by
  unfold Sort.insertionSort; exact outer_size lt n _ _ _ rfl
/-- what the sort of the nine leaves -/
def SortQ (seed x y c : Int) (g : Nat) (W : World) (e : Ending) (w' : World) : Prop :=
  ∃ p q : Int × Int, near3 seed x y c = (sqI p (x, y), sqI q (x, y), p) ∧ Near (x, y) p ∧ Near (x, y) q ∧ e = .returned (.tuple #[]) ∧ Go.RowKit.Below g W w' ∧
    (w'.cell? ⟨g, 0, none⟩ = some (.int .i64 p.1) ∧ w'.cell? ⟨g, 1, none⟩ = some (.int .i64 p.2) ∧ w'.cell? ⟨g, 2, none⟩ = some (.int .i64 q.1) ∧ w'.cell? ⟨g, 3, none⟩ = some (.int .i64 q.2))
theorem sortpts_any (seed x y c : Int) (hn : ∀ n, n < 9 → Near (x, y) (cenAt seed (x / c) (y / c) c n)) (h3 : -1099511627776 ≤ x ∧ x ≤ 1099511627776) (h4 : -1099511627776 ≤ y ∧ y ≤ 1099511627776) (B g cap kp : Nat) (W : World)
    (own : W.ownsRow B 37 2 (.slice (some ⟨g, 0, none⟩) (cenL seed (x / c) (y / c) c).length cap) (cenL seed (x / c) (y / c) c).length (ptsV (cenL seed (x / c) (y / c) c)))
    (hp : Blk W kp #[.int .i64 x, .int .i64 y] 37) (hkg : kp < g) :
    Calls Tryz.prog 83 #[.slice (some ⟨g, 0, none⟩) 9 cap, .func (.func 84) #[] #[.pointer (some ⟨kp, 0, none⟩)]] W (SortQ seed x y c g W) := by
  have hg := (own.lt g rfl).2
  have hH := holds_pts (p := (x, y)) (lN seed x y c hn) _ (lN_val seed x y c hn) own
  have hs : (lN seed x y c hn).toArray.size = 9 := by rw [List.size_toArray, lN_len]
  have hcmp : CmpLays Tryz.prog 84 #[.pointer (some ⟨kp, 0, none⟩)] (encN (x, y)) 2 (cfN (x, y)) g 0 (lN seed x y c hn).toArray.size W := fun m os dk hdk a b => by
    have hb := below_sort (encN (x, y)) W g 0 m dk os hg
    have hP := hp.below hb hkg
    exact cmpfn_any (x, y) a.1 b.1 kp _ a.2 b.2 h3 h4 (hP.cell 0) (hP.cell 1) hP.lt
  have K := sortstable_any (encN (x, y)) (fun _ => rfl) (fun a v hv => by simp [encN] at hv; rcases hv with rfl | rfl <;> rfl) (cfN (x, y)) 84 #[.pointer (some ⟨kp, 0, none⟩)] g 0 cap (lN seed x y c hn).toArray W
    (enters_of Tryz.func84 (by kernel_rfl) rfl) hcmp hH hg (by omega)
  have hn3 := near3_sort seed x y c hn
  rw [hs] at K
  refine K.mono ?_
  rintro e w' ⟨rfl, n, os, rfl⟩
  have hD : (Sort.insertionSort (ltOf (cfN (x, y))) (lN seed x y c hn).toArray 0 9).size = (lN seed x y c hn).toArray.size := sorted_size _ _ _
  generalize Sort.insertionSort (ltOf (cfN (x, y))) (lN seed x y c hn).toArray 0 9 = D at *
  have hHD := holdsK_sortWorldK_c (encN (x, y)) 2 W g 0 (lN seed x y c hn).toArray D n os hH hg hD
  have hsz : D.size = 9 := by rw [hD, hs]
  have cell : ∀ t, t < 18 → (sortWorldK (encN (x, y)) 2 W g 0 n D os).cell? ⟨g, t, none⟩ = some ((encN (x, y) D[t / 2]!)[t % 2]!) := fun t ht => by
    have := (hHD t (by rw [size_flatK, hsz]; omega)).1
    rw [Nat.zero_add] at this
    rw [this, get_flatK _ _ _ _ (by rw [hsz]; omega)]
    rfl
  exact ⟨D[0]!.1, D[1]!.1, hn3, D[0]!.2, D[1]!.2, rfl, below_sort _ _ _ _ _ _ _ hg, cell 0 (by omega), cell 1 (by omega), cell 2 (by omega), cell 3 (by omega)⟩
end Go.Proofs.YtkmcinibaffpmaaGreat

namespace Go.Proofs.YtkmcinibaffpmaaGreat
open Go.ChangeShapes Go.WideShapes Go.ChangeAt Go.RowKit
open Ieee.Format (fin finE htE allFin allHt all_true all_false mulF subF addF Ht Bd divF rootF floorF easeF mixF)
set_option linter.unusedVariables false
open Wide Go.Sort Go.Proofs
open Ieee.Format (farF far_ok)

/-- the memory behind the sort -/
structure CelE (w : World) (kp g : Nat) (c x y : Int) (p q : Int × Int) (wr : World) : Prop where
  bq : Blk wr w.heap.size #[.int .i64 c] 3
  ba : Blk wr (w.heap.size + 1) #[.int .i64 0, .int .i64 0] 37
  bp : Blk wr kp #[.int .i64 x, .int .i64 y] 37
  r0 : wr.cell? ⟨g, 0, none⟩ = some (.int .i64 p.1)
  r1 : wr.cell? ⟨g, 1, none⟩ = some (.int .i64 p.2)
  r2 : wr.cell? ⟨g, 2, none⟩ = some (.int .i64 q.1)
  r3 : wr.cell? ⟨g, 3, none⟩ = some (.int .i64 q.2)
  gl : g < wr.heap.size
  b : Go.RowKit.Below w.heap.size w wr
theorem CelE.call {w wr w2 : World} {kp g : Nat} {c x y : Int} {p q : Int × Int} (h : CelE w kp g c x y p q wr) (hb : Go.RowKit.Below wr.heap.size wr w2) : CelE w kp g c x y p q w2 := by
  have hg := h.gl
  exact ⟨h.bq.below hb h.bq.lt, h.ba.below hb h.ba.lt, h.bp.below hb h.bp.lt, (hb.cell (p := ⟨g, 0, none⟩) hg).trans h.r0, (hb.cell (p := ⟨g, 1, none⟩) hg).trans h.r1, (hb.cell (p := ⟨g, 2, none⟩) hg).trans h.r2, (hb.cell (p := ⟨g, 3, none⟩) hg).trans h.r3, Nat.lt_of_lt_of_le hg hb.size, h.b.trans (hb.mono h.b.size)⟩
theorem CelE.drew {w wr : World} {kp g : Nat} {c x y : Int} {p q : Int × Int} (h : CelE w kp g c x y p q wr) : CelE w kp g c x y p q wr.drew := ⟨h.bq.drew, h.ba.drew, h.bp.drew, h.r0, h.r1, h.r2, h.r3, h.gl, h.b.drew⟩
/-- the two cells written -/
structure CelG (w : World) (px py : Int) (wr : World) : Prop where
  ba : Blk wr (w.heap.size + 1) #[.int .i64 px, .int .i64 py] 37
  b : Go.RowKit.Below w.heap.size w wr
theorem CelE.set {w wr : World} {kp g : Nat} {c x y : Int} {p q : Int × Int} (h : CelE w kp g c x y p q wr) : CelG w p.1 p.2 ((wr.setCell ⟨w.heap.size + 1, 0, none⟩ (.int .i64 p.1)).setCell ⟨w.heap.size + 1, 1, none⟩ (.int .i64 p.2)) := by
  have hp := (pt_store h.ba p.1 p.2).1
  exact ⟨hp, (h.b.setCell (by simp) _).setCell (by simp) _⟩
set_option maxRecDepth 100000 in
set_option maxHeartbeats 4000000 in
theorem refcells_any (seed x y c : Int) (w : World) (hx : -8388608 ≤ x) (hx2 : x ≤ 8388608) (hy : -8388608 ≤ y) (hy2 : y ≤ 8388608) (h1 : 1 ≤ c) (h2 : c ≤ 4096) :
    Calls Tryz.prog 65 #[.int .u32 seed, .int .i64 x, .int .i64 y, .int .i64 c] w fun e w' => e = .returned (.tuple #[.float .f32 (nearF seed x y c), .float .f32 (nextF seed x y c), ptV (atP seed x y c)]) ∧ Below w.heap.size w w' := by
  have qx := ediv_small x c 8388608 (by omega) (by omega) (by omega) (by omega)
  have qy := ediv_small y c 8388608 (by omega) (by omega) (by omega) (by omega)
  have KL1 := Lib.hid (fun w => cellof_any x c w (by omega) (by omega) h1 h2)
  have KL2 := Lib.hid (fun w => cellof_any y c w (by omega) (by omega) h1 h2)
  have KC := Lib.hid (fun n (hn : n < 9) w => refcentre_any seed (x / c - 1 + (n % 3 : Nat)) (y / c - 1 + (n / 3 : Nat)) c w (by omega) (by omega) (by omega) (by omega) h1 h2)
  obtain ⟨n1, n2, n3, n4⟩ := near3_ok seed x y c h1
  have KN := Lib.hid (fun B g cap kp W own hp hkg => sortpts_any seed x y c (fun n hn => cen_off seed x y c h1 h2 n hn) (by omega) (by omega) B g cap kp W own hp hkg)
  have KF := Lib.hid (fun (q : Int × Int) (hn : Near (x, y) q) (hd : sqI q (x, y) ≤ (4 * c) * (4 * c)) kp kc w hp hc => far2_any q (x, y) c kp kc w hn (by simp only; omega) (by simp only; omega) hd h1 h2 hp hc)
  have HN1 := Lib.hid n2
  have HN2 := Lib.hid n4
  have HNF : Hid (nearF seed x y c = farF (near3 seed x y c).1 c ∧ nextF seed x y c = farF (near3 seed x y c).2.1 c ∧ atP seed x y c = (near3 seed x y c).2.2) := Lib.hid ⟨rfl, rfl, rfl⟩
  have hc4 : (2 * c) * (2 * c) ≤ (4 * c) * (4 * c) := Int.mul_le_mul (by omega) (by omega) (by omega) (by omega)
  have HC4 := Lib.hid hc4
  clear n1 n2 n3 n4 hc4
  have KT := Lib.hid (fun n (hn : n < 9) => cenL_take seed (x / c) (y / c) c n hn)
  obtain ⟨i0, hi, hz0, hz1, hz2⟩ := info_parts Tryz.infoPt
  have HC0 := Lib.hid (cel_start w c)
  unfold ptC at HC0
  generalize x / c = qi at *
  generalize y / c = qj at *
  go_enter Tryz.func65, Tryz.ntmps65
  go_wp2_with fail
  generalize (w.alloc (.cells #[.int .i64 c] 3)).alloc (.cells #[.int .i64 0, .int .i64 0] 37) = W0 at *
  refine (KL1.out _).mono ?_
  rintro e w1 ⟨rfl, b1⟩
  have I1 := Lib.hid (HC0.out.call b1)
  have p0 := I1.out.q.cell 0
  have l0 := I1.out.q.lt
  simp at p0
  clear b1 HC0
  go_wp2_with fail
  refine (KL2.out _).mono ?_
  rintro e w2 ⟨rfl, b2⟩
  have I2 := Lib.hid (I1.out.call b2)
  have I3 := Lib.hid (celr_start w c x y w2 I2.out)
  clear b2 p0 l0 I1 I2
  go_wp2_with fail
  generalize w2.alloc (.cells #[.int .i64 x, .int .i64 y] 37) = W3 at *
  generalize hB : w2.heap.size + 1 = B at *
  generalize w2.heap.size = kp at *
  clear hB
  go_loopw [16, 17, 34] (fun v _ iv wr => ∃ n : Nat, n ≤ 9 ∧ iv = .int .i64 (n : Int) ∧ CelR w wr B kp c x y v ((cenL seed qi qj c).take n)) (fun _ _ iv _ => 9 - (intOf iv).toNat)
  case atStart => exact ⟨0, by omega, rfl, I3.out⟩
  case round =>
    clear I3
    obtain ⟨n, hn, rfl, I⟩ := hrel
    have HI := Lib.hid I
    have p0 := I.q.cell 0
    have l0 := I.q.lt
    simp at p0
    clear I
    by_cases hlt : n < 9
    · have KC1 := Lib.hid (KC.out n hlt)
      have HT := Lib.hid (KT.out n hlt)
      have hcen : cenAt seed qi qj c n = cen seed (qi - 1 + ((n % 3 : Nat) : Int)) (qj - 1 + ((n / 3 : Nat) : Int)) c := rfl
      have e1 : (n : Int) % 3 = ((n % 3 : Nat) : Int) := by omega
      have e2 : (n : Int) / 3 = ((n / 3 : Nat) : Int) := by omega
      have b1 : ((n % 3 : Nat) : Int) ≤ 2 := by omega
      have b2 : ((n / 3 : Nat) : Int) ≤ 2 := by omega
      have hml : ((cenL seed qi qj c).take n).length = n := by rw [List.length_take, cenL_length]; omega
      have HML := Lib.hid hml
      generalize n % 3 = k1 at *
      generalize n / 3 = k2 at *
      rw [hcen] at HT
      clear hcen hml
      generalize cen seed (qi - 1 + (k1 : Int)) (qj - 1 + (k2 : Int)) c = cc at *
      obtain ⟨cx, cy⟩ := cc
      unfold ptV at KC1
      simp only at KC1
      generalize (cenL seed qi qj c).take n = L at *
      have G1 : Hid (L.length + 1 ≤ maxLen) := by have := HML.out; unfold maxLen Hid; omega
      have G2 : Hid ((L.length + 1) * 16 ≤ 140737488355328) := by have := HML.out; unfold Hid; omega
      go_wp2_with fail
      refine (KC1.out _).mono ?_
      rintro e w4 ⟨rfl, hb⟩
      have I4 := Lib.hid (HI.out.call hb)
      clear hb p0 l0 HI
      have G3 : Hid (B ≤ (w4.alloc (.cells #[.int .i64 cx, .int .i64 cy] 37)).heap.size) := by have := I4.out.bz; unfold Hid; simp; omega
      go_wp2_with (at_builtin; refine wpList_append_own _ rfl _ _ 97 rfl B 37 i0 (.agg #[.int .i64 0, .int .i64 0]) 2 16 Tryz.underlying97 hi hz0 hz1 hz2 rfl (by decide) _ L.length (ptsV L) rfl (I4.out.own.alloc _) ⟨w4.heap.size, 0, none⟩ 1 1 [.int .i64 cx, .int .i64 cy] rfl rfl (World.news_of_block (cs := #[.int .i64 cx, .int .i64 cy]) (t := 37) (fr := (0, 0)) (heap_alloc_new w4 _)) (by simp [Value.oneCell']) G1.out G2.out G3.out ?_; intro v' w5 hown' hgrow hnil)
      have M5 := Lib.hid (I4.out.app (r := (cx, cy)) hown' hgrow)
      clear hown' hgrow hnil
      go_wp2_with fail
      go_roundw
      case rel => exact ⟨n + 1, by omega, by go_num, HT.out ▸ M5.out⟩
      case measure => simp [intOf]; omega
    · obtain rfl : n = 9 := by omega
      have hall : (cenL seed qi qj c).take 9 = cenL seed qi qj c := by rw [show (9 : Nat) = (cenL seed qi qj c).length from (cenL_length _ _ _ _).symm, List.take_length]
      rw [hall] at HI
      have hlen := cenL_length seed qi qj c
      clear hall p0 l0
      obtain ⟨g, cap, rfl⟩ : ∃ g cap, u16 = .slice (some ⟨g, 0, none⟩) (cenL seed qi qj c).length cap := by
        rcases HI.out.own.2 with ⟨_, h0⟩ | ⟨g, cap, cur, he, _⟩
        · omega
        · exact ⟨g, cap, he⟩
      have HG : Hid (B ≤ g ∧ g < wr.heap.size) := Lib.hid (HI.out.own.lt g rfl)
      have hbp := HI.out.bp
      have HS := Lib.hid (KN.out B g cap kp wr HI.out.own HI.out.p (by have := HG.out.1; omega))
      rw [hlen]
      clear KN KC KT KL1 KL2
      go_wp2_with fail
      refine HS.out.mono ?_
      rintro e w5 ⟨p, q, hn3, np, nq, rfl, hb, e0, e1, e2, e3⟩
      have hI5 : CelE w kp g c x y p q w5 := by
        have I := HI.out
        have hg := HG.out
        have h0 := I.b0
        have h1' := I.bp
        exact ⟨I.q.below hb (by omega), I.a.below hb (by omega), I.p.below hb (by omega), e0, e1, e2, e3, Nat.lt_of_lt_of_le hg.2 hb.size, I.below.trans (hb.mono (by omega))⟩
      have HI5 := Lib.hid hI5
      have f1 := HN1.out
      have f2 := HN2.out
      have f3 := HNF.out
      rw [hn3] at f1 f2 f3
      simp only at f1 f2 f3
      have K1 := Lib.hid (fun W hp hc => KF.out p np (by have := HC4.out; omega) kp w.heap.size W hp hc)
      have K2 := Lib.hid (fun W hp hc => KF.out q nq f2 kp w.heap.size W hp hc)
      have HR1 := Lib.hid f3.1
      have HR2 := Lib.hid f3.2.1
      have HR3 := Lib.hid f3.2.2
      clear f1 f2 f3 hI5 hb e0 e1 e2 e3 hn3 np nq HI HN1 HN2 HNF KF HC4 HS hbp
      generalize Ieee.Format.farF (sqI p (x, y)) c = r1 at *
      generalize Ieee.Format.farF (sqI q (x, y)) c = r2 at *
      obtain ⟨px, py⟩ := p
      obtain ⟨qx1, qy1⟩ := q
      simp only at K1 K2
      go_wp2_with fail
      refine wp_region_noPanic ?_
      refine wp_region_heldT (CelE w kp g c x y (px, py) (qx1, qy1)) 15 (by kernel_rfl) HI5.out.drew (fun hHeld => ?_)
      refine wpAnyT_takeL [4, 9, 13, 14, 15] (i := 0) (v := ?_) rfl (by kernel_rfl) (by kernel_rfl) (by kernel_rfl) (by kernel_rfl) (fun _ _ _ h => h) (Or.inl ⟨by rfl, ?_⟩) (by with_reducible assumption) ?_
      rotate_left
      · intro w hSw
        have z0 := hSw.r0
        have z1 := hSw.r1
        have z2 := hSw.r2
        have z3 := hSw.r3
        simp only at z0 z1 z2 z3
        go_simp
        try with_reducible rfl
      try simp only [Act.put, List.setIfInBounds_toArray, List.set_cons_zero, List.set_cons_succ]
      refine wpAnyT_takeL [2, 3, 4, 9, 13, 14, 15] (i := 1) (v := ?_) rfl (by kernel_rfl) (by kernel_rfl) (by kernel_rfl) (by kernel_rfl) (fun _ _ _ h => h) (Or.inl ⟨by rfl, ?_⟩) (by with_reducible assumption) ?_
      rotate_left
      · intro w hSw
        have z0 := hSw.r0
        have z1 := hSw.r1
        have z2 := hSw.r2
        have z3 := hSw.r3
        simp only at z0 z1 z2 z3
        go_simp
        try with_reducible rfl
      try simp only [Act.put, List.setIfInBounds_toArray, List.set_cons_zero, List.set_cons_succ]
      refine wpAnyT_takeL [3, 4, 9, 13, 14, 15] (i := 2) (v := ?_) rfl (by kernel_rfl) (by kernel_rfl) (by kernel_rfl) (by kernel_rfl) (fun _ _ _ h => h) (Or.inl ⟨by rfl, ?_⟩) (by with_reducible assumption) ?_
      rotate_left
      · intro w hSw
        have z0 := hSw.r0
        have z1 := hSw.r1
        have z2 := hSw.r2
        have z3 := hSw.r3
        simp only at z0 z1 z2 z3
        go_simp
        try with_reducible rfl
      try simp only [Act.put, List.setIfInBounds_toArray, List.set_cons_zero, List.set_cons_succ]
      refine wpAnyT_takeL [4, 9, 13, 14, 15] (i := 3) (v := ?_) rfl (by kernel_rfl) (by kernel_rfl) (by kernel_rfl) (by kernel_rfl) (fun _ _ _ h => h) (Or.inl ⟨by rfl, ?_⟩) (by with_reducible assumption) ?_
      rotate_left
      · intro w hSw
        have z0 := hSw.r0
        have z1 := hSw.r1
        have z2 := hSw.r2
        have z3 := hSw.r3
        simp only at z0 z1 z2 z3
        go_simp
        try with_reducible rfl
      try simp only [Act.put, List.setIfInBounds_toArray, List.set_cons_zero, List.set_cons_succ]
      refine wpAnyT_takeL [9, 13, 14, 15] (i := 5) (v := ?_) rfl (by kernel_rfl) (by kernel_rfl) (by kernel_rfl) (by kernel_rfl) (fun _ _ _ h => h) (Or.inl ⟨by rfl, ?_⟩) (by with_reducible assumption) ?_
      rotate_left
      · intro w hSw
        have z0 := hSw.r0
        have z1 := hSw.r1
        have z2 := hSw.r2
        have z3 := hSw.r3
        simp only at z0 z1 z2 z3
        go_simp
        try with_reducible rfl
      try simp only [Act.put, List.setIfInBounds_toArray, List.set_cons_zero, List.set_cons_succ]
      refine wpAnyT_takeL [7, 8, 9, 13, 14, 15] (i := 6) (v := ?_) rfl (by kernel_rfl) (by kernel_rfl) (by kernel_rfl) (by kernel_rfl) (fun _ _ _ h => h) (Or.inl ⟨by rfl, ?_⟩) (by with_reducible assumption) ?_
      rotate_left
      · intro w hSw
        have z0 := hSw.r0
        have z1 := hSw.r1
        have z2 := hSw.r2
        have z3 := hSw.r3
        simp only at z0 z1 z2 z3
        go_simp
        try with_reducible rfl
      try simp only [Act.put, List.setIfInBounds_toArray, List.set_cons_zero, List.set_cons_succ]
      refine wpAnyT_takeL [8, 9, 13, 14, 15] (i := 7) (v := ?_) rfl (by kernel_rfl) (by kernel_rfl) (by kernel_rfl) (by kernel_rfl) (fun _ _ _ h => h) (Or.inl ⟨by rfl, ?_⟩) (by with_reducible assumption) ?_
      rotate_left
      · intro w hSw
        have z0 := hSw.r0
        have z1 := hSw.r1
        have z2 := hSw.r2
        have z3 := hSw.r3
        simp only at z0 z1 z2 z3
        go_simp
        try with_reducible rfl
      try simp only [Act.put, List.setIfInBounds_toArray, List.set_cons_zero, List.set_cons_succ]
      refine wpAnyT_takeL [9, 13, 14, 15] (i := 8) (v := ?_) rfl (by kernel_rfl) (by kernel_rfl) (by kernel_rfl) (by kernel_rfl) (fun _ _ _ h => h) (Or.inl ⟨by rfl, ?_⟩) (by with_reducible assumption) ?_
      rotate_left
      · intro w hSw
        have z0 := hSw.r0
        have z1 := hSw.r1
        have z2 := hSw.r2
        have z3 := hSw.r3
        simp only at z0 z1 z2 z3
        go_simp
        try with_reducible rfl
      try simp only [Act.put, List.setIfInBounds_toArray, List.set_cons_zero, List.set_cons_succ]
      refine wpAnyT_takeL [11, 12, 15] (i := 10) (v := ?_) rfl (by kernel_rfl) (by kernel_rfl) (by kernel_rfl) (by kernel_rfl) (fun _ _ _ h => h) (Or.inl ⟨by rfl, ?_⟩) (by with_reducible assumption) ?_
      rotate_left
      · intro w hSw
        have z0 := hSw.r0
        have z1 := hSw.r1
        have z2 := hSw.r2
        have z3 := hSw.r3
        simp only at z0 z1 z2 z3
        go_simp
        try with_reducible rfl
      try simp only [Act.put, List.setIfInBounds_toArray, List.set_cons_zero, List.set_cons_succ]
      refine wpAnyT_takeL [12, 15] (i := 11) (v := ?_) rfl (by kernel_rfl) (by kernel_rfl) (by kernel_rfl) (by kernel_rfl) (fun _ _ _ h => h) (Or.inl ⟨by rfl, ?_⟩) (by with_reducible assumption) ?_
      rotate_left
      · intro w hSw
        have z0 := hSw.r0
        have z1 := hSw.r1
        have z2 := hSw.r2
        have z3 := hSw.r3
        simp only at z0 z1 z2 z3
        go_simp
        try with_reducible rfl
      try simp only [Act.put, List.setIfInBounds_toArray, List.set_cons_zero, List.set_cons_succ]
      refine wpAnyT_takeL [15] (i := 12) (v := ?_) rfl (by kernel_rfl) (by kernel_rfl) (by kernel_rfl) (by kernel_rfl) (fun _ _ _ h => h) (Or.inl ⟨by rfl, ?_⟩) (by with_reducible assumption) ?_
      rotate_left
      · intro w hSw
        have z0 := hSw.r0
        have z1 := hSw.r1
        have z2 := hSw.r2
        have z3 := hSw.r3
        simp only at z0 z1 z2 z3
        go_simp
        try with_reducible rfl
      try simp only [Act.put, List.setIfInBounds_toArray, List.set_cons_zero, List.set_cons_succ]
      refine wpAnyT_ready (rs := [4]) (by kernel_rfl) (by simp) ?_
      refine AllReadyT.cons rfl (fun K hK => ?_) AllReadyT.nil
      go_simp
      (with_reducible refine (K1.out _ hHeld.bp hHeld.bq).mono ?_)
      rintro e w2 ⟨rfl, hb⟩
      have hN := hHeld.call hb
      go_wp2_with fail
      refine hK.out _ _ (fun _ => hN) (fun hS_ => ?_)
      have hHeld := hS_ (by omega)
      clear hS_ hK K
      try simp only [Act.put, List.setIfInBounds_toArray, List.set_cons_zero, List.set_cons_succ]
      refine wpAnyT_ready (rs := [9]) (by kernel_rfl) (by simp) ?_
      refine AllReadyT.cons rfl (fun K hK => ?_) AllReadyT.nil
      go_simp
      (with_reducible refine (K2.out _ hHeld.bp hHeld.bq).mono ?_)
      rintro e w2 ⟨rfl, hb⟩
      have hN := hHeld.call hb
      go_wp2_with fail
      refine hK.out _ _ (fun _ => hN) (fun hS_ => ?_)
      have hHeld := hS_ (by omega)
      clear hS_ hK K
      try simp only [Act.put, List.setIfInBounds_toArray, List.set_cons_zero, List.set_cons_succ]
      refine wpAnyT_takeL [14, 15] (i := 13) (v := ?_) rfl (by kernel_rfl) (by kernel_rfl) (by kernel_rfl) (by kernel_rfl) (fun _ _ _ h => h) (Or.inl ⟨by rfl, ?_⟩) (by with_reducible assumption) ?_
      rotate_left
      · intro w hSw
        have z0 := hSw.r0
        have z1 := hSw.r1
        have z2 := hSw.r2
        have z3 := hSw.r3
        simp only at z0 z1 z2 z3
        go_simp
        try with_reducible rfl
      try simp only [Act.put, List.setIfInBounds_toArray, List.set_cons_zero, List.set_cons_succ]
      refine wpAnyT_takeL [15] (i := 14) (v := ?_) rfl (by kernel_rfl) (by kernel_rfl) (by kernel_rfl) (by kernel_rfl) (fun _ _ _ h => h) (Or.inl ⟨by rfl, ?_⟩) (by with_reducible assumption) ?_
      rotate_left
      · intro w hSw
        have z0 := hSw.r0
        have z1 := hSw.r1
        have z2 := hSw.r2
        have z3 := hSw.r3
        simp only at z0 z1 z2 z3
        go_simp
        try with_reducible rfl
      try simp only [Act.put, List.setIfInBounds_toArray, List.set_cons_zero, List.set_cons_succ]
      refine wpAnyT_ready (rs := [15]) (by kernel_rfl) (by simp) ?_
      refine AllReadyT.cons rfl (fun K hK => ?_) AllReadyT.nil
      have hA := hHeld.ba
      have f0 := hA.frozen 0
      have g1 := hA.frozen 1
      have p0 := hA.cell 0
      have p1 := hA.cell 1
      simp at p0 p1
      have lt := hA.lt
      have z0 := hHeld.r0
      have z1 := hHeld.r1
      simp only at z0 z1
      have HQ := Lib.hid (hHeld.set)
      clear hA
      go_simp
      refine hK.out _ _ (fun h => absurd h (by omega)) (fun _ => ?_)
      clear hK K
      try simp only [Act.put, List.setIfInBounds_toArray, List.set_cons_zero, List.set_cons_succ]
      refine wpAnyT_done (by kernel_rfl) ?_ _
      refine NoPanic.normal ?_
      have B0 := HQ.out.b
      have q0 := HQ.out.ba.cell 0
      have q1 := HQ.out.ba.cell 1
      simp at q0 q1
      go_wp2_with fail
      refine bodyPost_ret (v := .tuple #[.float .f32 r1, .float .f32 r2, .agg #[.int .i64 px, .int .i64 py]]) (by simp [results, Tryz.results65, go_sem, *]) rfl ⟨by rw [HR1.out, HR2.out, HR3.out]; rfl, B0⟩
end Go.Proofs.YtkmcinibaffpmaaGreat

namespace Go.Proofs.YtkmcinibaffpmaaGreat
open Go.ChangeShapes Go.WideShapes Go.ChangeAt Go.RowKit
open Ieee.Format (fin finE htE allFin allHt all_true all_false mulF subF addF Ht Bd divF rootF floorF easeF mixF)
set_option linter.unusedVariables false
open Wide

/-- the error of a place and a spacing -/
def plE (x y c : Int) : Int := if x < -4194304 ∨ x > 4194304 ∨ y < -4194304 ∨ y > 4194304 then 5 else if c < 1 ∨ c > 4096 then 3 else 0
def plP (x y : Int) : Int := if x < -4194304 ∨ x > 4194304 ∨ y < -4194304 ∨ y > 4194304 then 5 else 0
theorem plE_out {x y c : Int} (h : plP x y ≠ 0) : plE x y c = plP x y := by
  unfold plE; unfold plP at *; split <;> simp_all
theorem plE_in {x y c : Int} (h : plP x y = 0) : plE x y c = if c < 1 ∨ c > 4096 then 3 else 0 := by
  unfold plE; unfold plP at *; split <;> simp_all
theorem plP_ne {x y : Int} (h : plP x y ≠ 0) : plP x y = 5 := by
  unfold plP at *; split <;> simp_all
theorem plE_zero {x y c : Int} (h : plE x y c = 0) : (-4194304 ≤ x ∧ x ≤ 4194304 ∧ -4194304 ≤ y ∧ y ≤ 4194304) ∧ 1 ≤ c ∧ c ≤ 4096 := by
  unfold plE at h; split at h
  · omega
  · split at h <;> omega
set_option maxRecDepth 100000 in
theorem place_any (x y : Int) (w : World) :
    Calls Tryz.prog 20 #[.int .i64 x, .int .i64 y] w fun e w' => e = .returned (.int .i64 (plP x y)) ∧ w' = w := by
  unfold plP
  by_cases a1 : x < -4194304
  · simp only [a1, true_or, if_true]
    go_enter Tryz.func20, Tryz.ntmps20
    go_wp2_with fail
    go_ret
    exact ⟨rfl, rfl⟩
  · by_cases a2 : x > 4194304
    · simp only [a1, a2, false_or, true_or, if_true]
      go_enter Tryz.func20, Tryz.ntmps20
      go_wp2_with fail
      go_ret
      exact ⟨rfl, rfl⟩
    · by_cases a3 : y < -4194304
      · simp only [a1, a2, a3, false_or, true_or, if_true]
        go_enter Tryz.func20, Tryz.ntmps20
        go_wp2_with fail
        go_ret
        exact ⟨rfl, rfl⟩
      · by_cases a4 : y > 4194304
        · simp only [a1, a2, a3, a4, false_or, if_true]
          go_enter Tryz.func20, Tryz.ntmps20
          go_wp2_with fail
          go_ret
          exact ⟨rfl, rfl⟩
        · simp only [a1, a2, a3, a4, or_self, if_false]
          go_enter Tryz.func20, Tryz.ntmps20
          go_wp2_with fail
          go_ret
          exact ⟨rfl, rfl⟩
set_option maxRecDepth 100000 in
theorem refplace_any (x y c : Int) (w : World) :
    Calls Tryz.prog 22 #[.int .i64 x, .int .i64 y, .int .i64 c] w fun e w' => e = .returned (.int .i64 (plE x y c)) ∧ w' = w := by
  unfold plE
  by_cases a1 : x < -4194304
  · simp only [a1, true_or, if_true]
    go_enter Tryz.func22, Tryz.ntmps22
    go_wp2_with fail
    go_ret
    exact ⟨rfl, rfl⟩
  · by_cases a2 : x > 4194304
    · simp only [a1, a2, false_or, true_or, if_true]
      go_enter Tryz.func22, Tryz.ntmps22
      go_wp2_with fail
      go_ret
      exact ⟨rfl, rfl⟩
    · by_cases a3 : y < -4194304
      · simp only [a1, a2, a3, false_or, true_or, if_true]
        go_enter Tryz.func22, Tryz.ntmps22
        go_wp2_with fail
        go_ret
        exact ⟨rfl, rfl⟩
      · by_cases a4 : y > 4194304
        · simp only [a1, a2, a3, a4, false_or, if_true]
          go_enter Tryz.func22, Tryz.ntmps22
          go_wp2_with fail
          go_ret
          exact ⟨rfl, rfl⟩
        · simp only [a1, a2, a3, a4, or_self, if_false]
          by_cases a5 : c < 1
          · simp only [a5, true_or, if_true]
            go_enter Tryz.func22, Tryz.ntmps22
            go_wp2_with fail
            go_ret
            exact ⟨rfl, rfl⟩
          · by_cases a6 : c > 4096
            · simp only [a5, a6, false_or, if_true]
              go_enter Tryz.func22, Tryz.ntmps22
              go_wp2_with fail
              go_ret
              exact ⟨rfl, rfl⟩
            · simp only [a5, a6, or_self, if_false]
              go_enter Tryz.func22, Tryz.ntmps22
              go_wp2_with fail
              go_ret
              exact ⟨rfl, rfl⟩
end Go.Proofs.YtkmcinibaffpmaaGreat

namespace Go.Proofs.YtkmcinibaffpmaaGreat
open Go.ChangeShapes Go.WideShapes Go.ChangeAt Go.RowKit
open Ieee.Format (fin finE htE allFin allHt all_true all_false mulF subF addF Ht Bd divF rootF floorF easeF mixF)
set_option linter.unusedVariables false
open Wide

end Go.Proofs.YtkmcinibaffpmaaGreat

namespace Go.Proofs.YtkmcinibaffpmaaGreat
open Go.ChangeShapes Go.WideShapes Go.ChangeAt Go.RowKit
open Ieee.Format (fin finE htE allFin allHt all_true all_false mulF subF addF Ht Bd divF rootF floorF easeF mixF)
set_option linter.unusedVariables false
open Wide

/-- what Cells answers -/
def celOut (seed x y c : Int) : Value := if plE x y c = 0 then .tuple #[.float .f32 (nearF seed x y c), .float .f32 (nextF seed x y c), ptV (atP seed x y c), .int .i64 0] else .tuple #[.float .f32 0, .float .f32 0, .agg #[.int .i64 0, .int .i64 0], .int .i64 (plE x y c)]
end Go.Proofs.YtkmcinibaffpmaaGreat
