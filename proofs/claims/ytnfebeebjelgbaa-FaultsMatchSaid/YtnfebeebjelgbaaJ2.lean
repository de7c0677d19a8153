import Derived.Test.YtnfebeebjelgbaaRefStamp
import Derived.Test.YtnfebeebjelgbaaFloatP
import Derived.Test.YtnfebeebjelgbaaJ1
import Derived.Deep.Slices
import Derived.Deep.Fields
import Derived.ChangeSame
import Derived.Deep.RegionHeld3
import Derived.Test.YtnfebeebjelgbaaThermLaw
namespace Go.Proofs.Ytnfebeebjelgbaa
open Go.ChangeShapes Go.WideShapes Go.ChangeAt Go.RowKit
open Ieee.Format (fin finE htE allFin allHt all_true all_false mulF subF addF Ht Bd divF rootF floorF easeF mixF)
set_option linter.unusedVariables false

theorem srow_lt {w : World} {a : Option Addr} {l : List Nat} (h : SRow w a l) (k : Nat) : l.getD k 0 < 4294967296 := by
  by_cases hk : k < l.length
  · rw [List.getD_eq_getElem?_getD, List.getElem?_eq_getElem hk]
    exact h.1.2 _ (List.getElem_mem hk)
  · rw [List.getD_eq_getElem?_getD, List.getElem?_eq_none (by omega)]
    decide

/-- the reference's made, each cell by its place and its value -/
theorem made_lt (gn : Nat) (caps : Array Value) (φ : Int → Int → Nat → Nat) (X Y : Int) (Wn Hn : Nat) (l : List Nat) (w : World) (hr : Right X Y Wn Hn l) (hlt : ∀ k, l.getD k 0 < 4294967296)
    (eg : ∀ args w, (callFunc gn args).run Try.prog w = .ok (.enter gn args) w) (hφ : ∀ x y v, v < 4294967296 → φ x y v < 4294967296)
    (hf : ∀ x y, X ≤ x → x < X + Wn → Y ≤ y → y < Y + Hn → ∀ W', Below w.heap.size w W' → Calls Try.prog gn (#[.int .i64 x, .int .i64 y] ++ caps) W' fun e w' => e = .returned (.float .f32 (φ x y (l.getD (cellNo X Y Wn x y).toNat 0))) ∧ Below W'.heap.size W' w') :
    Calls Try.prog 105 #[reg X Y Wn Hn, .func (.func gn) #[] caps] w fun e w' => OpP (resC (addL φ X Y Wn Hn l)) X Y Wn Hn (addL φ X Y Wn Hn l) w e w' := by
  have g1 := hr.w1; have g2 := hr.w2; have g3 := hr.h1; have g4 := hr.h2; have g5 := hr.x1; have g6 := hr.x2; have g7 := hr.y1; have g8 := hr.y2
  have := made_any gn caps (fun x y => φ x y (l.getD (cellNo X Y Wn x y).toNat 0)) X Y Wn Hn w (by omega) (by omega) (by omega) (by omega) (by omega) (by omega) (by omega) (by omega) eg (fun x y _ _ _ _ => hφ _ _ _ (hlt _)) hf
  exact this.mono fun e w' h => h.res.op

set_option maxRecDepth 100000 in
set_option maxHeartbeats 1000000 in
theorem added_lt (gn : Nat) (caps : Array Value) (φ : Int → Int → Nat → Nat) (X Y : Int) (Wn Hn : Nat) (b o c : Nat) (l : List Nat) (w : World) (hl : SRow w (some ⟨b, o, none⟩) l) (hr : Right X Y Wn Hn l)
    (eg : ∀ args w, (callFunc gn args).run Try.prog w = .ok (.enter gn args) w) (hφ : ∀ x y v, v < 4294967296 → φ x y v < 4294967296)
    (hf : ∀ x y v, X ≤ x → x < X + Wn → Y ≤ y → y < Y + Hn → Bd 20 v → v < 4294967296 → ∀ W', Below w.heap.size w W' → Calls Try.prog gn (#[.int .i64 x, .int .i64 y, .float .f32 v] ++ caps) W' fun e w' => e = .returned (.float .f32 (φ x y v)) ∧ Below W'.heap.size W' w') :
    Calls Try.prog 152 #[fldV X Y Wn Hn (some ⟨b, o, none⟩) l.length c, .func (.func gn) #[] caps] w fun e w' => OpP (resC (addL φ X Y Wn Hn l)) X Y Wn Hn (addL φ X Y Wn Hn l) w e w' := by
  have hlt : ∀ k, l.getD k 0 < 4294967296 := fun k => srow_lt hl k
  have HL := Lib.hid hl
  have HBL : Hid (b < w.heap.size) := SRow.blt hl hr.pos
  have g1 := hr.w1; have g2 := hr.w2; have g3 := hr.h1; have g4 := hr.h2; have g5 := hr.x1; have g6 := hr.x2; have g7 := hr.y1; have g8 := hr.y2
  have KM := Lib.hid (fun p q pm w1 (hl1 : SRow w1 (some ⟨b, o, none⟩) l) (hq : Fld w1 q X Y Wn Hn (.slice (some ⟨b, o, none⟩) l.length c)) (hm : Blk w1 pm #[.func (.func gn) #[] caps] 152) (hp : CntAt w1 p (-1)) (qp : q ≠ p) (bp : b ≠ p) (pmp : pm ≠ p) (wp : w.heap.size ≤ p) (hB : Below w.heap.size w w1) =>
    make_cnt 214 #[.pointer (some ⟨p, 0, none⟩), .pointer (some ⟨pm, 0, none⟩), .pointer (some ⟨q, 0, none⟩)] p (fun x y => φ x y (l.getD (cellNo X Y Wn x y).toNat 0)) X Y Wn Hn w1 (by omega) (by omega) (by omega) (by omega) (by omega) (by omega) (by omega) (by omega)
      (enters_of Try.func214 (by kernel_rfl) rfl) hp (fun x y => hφ _ _ _ (hlt _))
      (fun i j k hi hj hk W' hb' hcnt => by
        have hpl := hp.lt
        have hpl' := hcnt.lt
        have e := cell_ij (X := X) (Y := Y) hk
        have hkl : k < l.length := by rw [hr.len]; exact cell_lt hi hj hk
        show Calls Try.prog _ _ W' fun e w' => e = .returned (.float .f32 (φ (X + (i : Int)) (Y + (j : Int)) (l.getD (cellNo X Y Wn (X + (i : Int)) (Y + (j : Int))).toNat 0))) ∧ _
        rw [e]
        exact addedfn_any gn caps _ (X + (i : Int)) (Y + (j : Int)) p q b o c pm k X Y Wn Hn l _ W' ⟨hcnt, hq.but hb' hq.lt qp, SRow.but hl1 hb' (SRow.blt hl1 hr.pos) bp, qp, bp, hkl, by have := hb'.size; have := SRow.blt hl1 hr.pos; omega⟩
          (hm.but hb' hm.lt pmp) pmp eg (fun W'' hb'' => hf _ _ _ (by omega) (by omega) (by omega) (by omega) (hr.bd k) (hlt k) W'' ((hB.trans ((hb'.lowp (by omega)).mono wp)).trans ((hb''.lowp (by omega)).mono wp)))))
  have KR := Lib.hid (fun X1 Y1 W1 H1 g cap B w ho => result_any X1 Y1 W1 H1 g cap B (addL φ X Y Wn Hn l) w ho (addL_small φ hr))
  change Hid (∀ p q pm w1 (hl1 : SRow w1 (some ⟨b, o, none⟩) l) (hq : Fld w1 q X Y Wn Hn (.slice (some ⟨b, o, none⟩) l.length c)) (hm : Blk w1 pm #[.func (.func gn) #[] caps] 152) (hp : CntAt w1 p (-1)) (qp : q ≠ p) (bp : b ≠ p) (pmp : pm ≠ p) (wp : w.heap.size ≤ p) (hB : Below w.heap.size w w1),
    Calls Try.prog 94 #[reg X Y Wn Hn, .func (.func 214) #[] #[.pointer (some ⟨p, 0, none⟩), .pointer (some ⟨pm, 0, none⟩), .pointer (some ⟨q, 0, none⟩)]] w1 fun e w' => MakeCP p X Y Wn Hn (addL φ X Y Wn Hn l) w1 e w') at KM
  clear hl hr eg hφ hf hlt g1 g2 g3 g4 g5 g6 g7 g8
  generalize addL φ X Y Wn Hn l = S at *
  generalize resC S = C at *
  go_enter Try.func152, Try.ntmps152
  go_wp2_with fail
  generalize hW0 : ((w.alloc (.cells #[.int .i64 X, .int .i64 Y, .int .i64 Wn, .int .i64 Hn, .slice (some ⟨b, o, none⟩) l.length c] 36)).alloc (.cells #[.func (.func gn) #[] caps] 152)).alloc (.cells #[.int .i64 0, .int .i64 0, .int .i64 0, .int .i64 0, .slice none 0 0] 36) = W0 at *
  obtain ⟨E0, P0, F0, B0⟩ := box_fm w X Y Wn Hn (.slice (some ⟨b, o, none⟩) l.length c) #[.func (.func gn) #[] caps] 152 W0 hW0.symm
  have hz0 : W0.heap.size = w.heap.size + 1 + 1 + 1 := by subst hW0; simp
  clear hW0
  generalize hW3 : W0.alloc (.cells #[.int .i64 (-1)] 3) = W3 at *
  obtain ⟨n3, B3, z3⟩ := cnt_world1 W0 W3 hW3.symm
  clear hW3
  have HE3 := Lib.hid (E0.below B3 E0.lt)
  have HP3 := Lib.hid (P0.below B3 P0.lt)
  have HF3 := Lib.hid (F0.below B3 F0.lt)
  have HL3 := Lib.hid ((HL.out.below B0).below B3)
  have HB3 := Lib.hid (B0.trans (B3.mono B0.size))
  rw [hz0] at n3
  refine (KM.out _ _ _ _ HL3.out HE3.out HP3.out n3 (by omega) (by have := HBL.out; omega) (by omega) (by omega) HB3.out).mono ?_
  rintro e w4 ⟨⟨g, cap, rfl, ho⟩, b4⟩
  have HF4 := Lib.hid (HF3.out.below b4 (by omega))
  have HB4 := Lib.hid (HB3.out.trans (b4.mono (by omega)))
  have HO4 := Lib.hid ho
  have HZ3 : Hid (w.heap.size + 1 + 1 < W3.heap.size) := HF3.out.lt
  clear ho b4 KM HE3 HP3 HL3 HB3 B3 B0 E0 P0 F0 n3 z3 hz0 HF3
  go_wp2_with fail
  refine (KR.out _ _ _ _ _ _ _ _ HO4.out).mono ?_
  rintro e w7 ⟨⟨x, y, p, q, a, m, k, rfl, o7⟩, b7⟩
  have HOZ := Lib.hid o7
  have HFZ := Lib.hid (HF4.out.below b7 HF4.out.lt)
  have HBZ := Lib.hid (HB4.out.trans (b7.mono HB4.out.size))
  have HZB : Hid (w.heap.size + 1 + 1 < W3.heap.size) := HZ3.out
  have HBB : Hid (w.heap.size ≤ W3.heap.size) := by have := HZB.out; unfold Hid; omega
  clear o7 b7 KR HO4 HF4 HB4
  obtain ⟨d0, d1, d2, d3, d4⟩ := HFZ.out.cells
  have qf0 := HFZ.out.frozen 0
  have qf1 := HFZ.out.frozen 1
  have qf2 := HFZ.out.frozen 2
  have qf3 := HFZ.out.frozen 3
  have qf4 := HFZ.out.frozen 4
  have lz := HFZ.out.lt
  go_wp2_with fail
  generalize hW5 : ((((w7.setCell ⟨w.heap.size + 1 + 1, 0, none⟩ (.int .i64 x)).setCell ⟨w.heap.size + 1 + 1, 1, none⟩ (.int .i64 y)).setCell ⟨w.heap.size + 1 + 1, 2, none⟩ (.int .i64 p)).setCell ⟨w.heap.size + 1 + 1, 3, none⟩ (.int .i64 q)).setCell ⟨w.heap.size + 1 + 1, 4, none⟩ (.slice a m k) = W5 at *
  obtain ⟨f5, bb5, oo5, _, z5⟩ := fld_store w7 (w.heap.size + 1 + 1) 0 0 0 0 _ x y p q (.slice a m k) HFZ.out W5 hW5.symm
  have hO5 := (HOZ.out.set oo5 HZB.out).base HBB.out
  have hB5 := HBZ.out.trans (bb5.mono (by omega))
  clear d0 d1 d2 d3 d4 qf0 qf1 qf2 qf3 qf4 hW5 oo5
  obtain ⟨d0, d1, d2, d3, d4⟩ := f5.cells
  exact bodyPost_ret (v := .tuple #[fldV x y p q a m k, .int .i64 C]) (by simp [results, Try.results152, go_sem, *]) rfl ⟨⟨x, y, p, q, a, m, k, rfl, hO5⟩, hB5⟩
end Go.Proofs.Ytnfebeebjelgbaa

namespace Go.Proofs.Ytnfebeebjelgbaa
open Go.ChangeShapes Go.WideShapes Go.ChangeAt Go.RowKit
open Ieee.Format (fin finE htE allFin allHt all_true all_false mulF subF addF Ht Bd divF rootF floorF easeF mixF)
set_option linter.unusedVariables false
open Ieee.Format (Hn)

/-! ### sums of many heights -/
def sumF {ρ : Type} (φ : ρ → Nat) (v : Nat) (L : List ρ) : Nat := L.foldl (fun v r => addF v (φ r)) v
theorem sumF_succ {ρ : Type} (φ : ρ → Nat) (v : Nat) (L : List ρ) (d : ρ) {k : Nat} (h : k < L.length) : sumF φ v (L.take (k + 1)) = addF (sumF φ v (L.take k)) (φ (L.getD k d)) := by
  unfold sumF
  rw [List.take_add_one, List.getElem?_eq_getElem h, List.foldl_append, List.getD_eq_getElem?_getD, List.getElem?_eq_getElem h]
  rfl
theorem sumF_lt {ρ : Type} (φ : ρ → Nat) {v : Nat} (L : List ρ) (hv : v < 4294967296) : sumF φ v L < 4294967296 := by
  unfold sumF
  induction L generalizing v with
  | nil => exact hv
  | cons r L ih => exact ih (Ieee.Format.addF_lt _ _)
theorem sumF_hn {ρ : Type} {φ : ρ → Nat} {v : Nat} {L : List ρ} (hv : Bd 20 v) (hL : L.length ≤ 1000) (hφ : ∀ r ∈ L, Bd 20 (φ r)) (k : Nat) (hk : k ≤ L.length) : Hn (k + 1) (sumF φ v (L.take k)) := by
  induction k with
  | zero => exact Hn.one hv
  | succ k ih =>
    have hlt : k < L.length := by omega
    have e := sumF_succ φ v L (L[k]) hlt
    rw [e, List.getD_eq_getElem?_getD, List.getElem?_eq_getElem hlt]
    exact (ih (by omega)).add (hφ _ (List.getElem_mem hlt)) (by omega)
theorem sumF_step {ρ : Type} {φ : ρ → Nat} {v : Nat} {L : List ρ} (hv : Bd 20 v) (hL : L.length ≤ 1000) (hφ : ∀ r ∈ L, Bd 20 (φ r)) (d : ρ) {k : Nat} (hk : k < L.length) :
    fin Ieee.single (sumF φ v (L.take k)) ∧ fin Ieee.single (φ (L.getD k d)) ∧ fin Ieee.single (sumF φ v (L.take (k + 1))) ∧ sumF φ v (L.take (k + 1)) = addF (sumF φ v (L.take k)) (φ (L.getD k d)) := by
  refine ⟨(sumF_hn hv hL hφ k (by omega)).1, ?_, (sumF_hn hv hL hφ (k + 1) hk).1, sumF_succ φ v L d hk⟩
  rw [List.getD_eq_getElem?_getD, List.getElem?_eq_getElem hk]
  exact (hφ _ (List.getElem_mem hk)).1
end Go.Proofs.Ytnfebeebjelgbaa

namespace Go.Proofs.Ytnfebeebjelgbaa
open Go.ChangeShapes Go.WideShapes Go.ChangeAt Go.RowKit
open Ieee.Format (fin finE htE allFin allHt all_true all_false mulF subF addF Ht Bd divF rootF floorF easeF mixF)
set_option linter.unusedVariables false
open Ieee.Format (const_1 Hn)
open Go.Deep

/-! ### rows of structs -/
section
variable {H : Type} {enc : TypeId × Value → H} {P : Program} {w : World} {base : Nat} {spare : Nat → Bool} {held : Bool}
theorem open_slice_fields {t e : TypeId} {fs : Array Field} {fuel : Nat} {cs : List Value} {x : DataW H × List MemPlace} (ht : P.underlying t = some (.slice e)) (he : P.underlying e = some (.struct fs))
    (hone : oneCellFields P fs = true) (hC : P.cellsOf e = fs.size) (h : DataW.trod enc P w base spare held fuel t cs = some x) :
    (cs = [.slice none 0 0] ∧ x = (.nil, [])) ∨
    ∃ (a : Addr) (len cap m : Nat) (D : Nat → DataW H) (Pl : Nat → List MemPlace), cs = [.slice (some a) len cap] ∧ base ≤ a.block ∧ len ≤ cap ∧ cap ≤ maxLen ∧ m = (if spare a.block then cap else len) ∧
      x = (.slice ((List.range len).map D) ((List.range (m - len)).map fun j => D (len + j)), MemPlace.row a (m * fs.size) ++ (List.range m).flatMap Pl) ∧
      ∀ i, i < m → ∃ (ys : List (DataW H × List MemPlace)) (n : Nat), D i = .agg (ys.map (·.1)) ∧ Pl i = ys.flatMap (·.2) ∧ ys.length = fs.size ∧
        ∀ (j : Nat) (f : Field), fs[j]? = some f → ∃ (v : Value) (y : DataW H × List MemPlace), w.cell? (a.add (i * fs.size + j)) = some v ∧ ys[j]? = some y ∧ DataW.trod enc P w base spare held n f.type [v] = some y := by
  rcases open_slice ht h with h0 | ⟨a, len, cap, m, n, D, Pl, hcs, hb, hl, hm, hmm, hx, hi⟩
  · exact .inl h0
  · refine .inr ⟨a, len, cap, m, D, Pl, hcs, hb, hl, hm, hmm, by rw [hC] at hx; exact hx, fun i him => ?_⟩
    obtain ⟨cs', hc, ht'⟩ := hi i him
    rw [hC] at hc
    obtain ⟨ys, n', hn', hy, hlen, hyl, hf⟩ := DataW.trod_struct he ht'
    obtain ⟨_, hcl, hat⟩ := World.cells?_some hc
    simp only [Prod.mk.injEq] at hy
    refine ⟨ys, n', hy.1, hy.2, hyl, fun j f hj => ?_⟩
    obtain ⟨ho, hk⟩ := hone_of hone j f hj
    have hjl : j < fs.size := (Array.getElem?_eq_some_iff.1 hj).1
    have hcell := hat j hjl
    have hv : cs'[j]? = some (cs'[j]'(by omega)) := List.getElem?_eq_getElem (by omega)
    have h1 := hf j f hj
    rw [ho, hk] at h1
    have hone' : (cs'.drop j).take 1 = [cs'[j]'(by omega)] := by
      rw [List.drop_eq_getElem_cons (by omega)]
      rfl
    rw [hone'] at h1
    have hys : ys[j]? = some (ys[j]'(by omega)) := List.getElem?_eq_getElem (by omega)
    refine ⟨_, _, ?_, hys, h1.trans hys⟩
    rw [← Go.Deep.add_add, hcell, hv]
end

structure FoR where
  A : Int
  B : Int
  P : Int
  H : Nat
def foAt (L : List FoR) (i : Nat) : FoR := L.getD i ⟨0, 0, 0, 0⟩
theorem foAt_mem {L : List FoR} {i : Nat} (h : i < L.length) : foAt L i ∈ L := by
  unfold foAt
  rw [List.getD_eq_getElem?_getD, List.getElem?_eq_getElem h]
  exact List.getElem_mem h
/-- a row of folds -/
def FoCells (w : World) (b o : Nat) (L : List FoR) : Prop := ∀ i, i < L.length →
  w.cell? ⟨b, o + i * 4, none⟩ = some (.int .i64 (foAt L i).A) ∧ w.cell? ⟨b, o + i * 4 + 1, none⟩ = some (.int .i64 (foAt L i).B) ∧ w.cell? ⟨b, o + i * 4 + 2, none⟩ = some (.int .i64 (foAt L i).P) ∧ w.cell? ⟨b, o + i * 4 + 3, none⟩ = some (.float .f32 (foAt L i).H)
def FoRow (w : World) (a : Option Addr) (L : List FoR) : Prop := (L.length ≤ 9223372036854775807 ∧ ∀ r ∈ L, r.H < 4294967296) ∧ (L = [] ∨ ∃ b o, a = some ⟨b, o, none⟩ ∧ b < w.heap.size ∧ FoCells w b o L)
theorem FoCells.below {w w' : World} {B b o : Nat} {L : List FoR} (h : FoCells w b o L) (hb : Below B w w') (hl : b < B) : FoCells w' b o L := by
  intro i hi
  obtain ⟨h0, h1, h2, h3⟩ := h i hi
  exact ⟨by rw [hb.cell (by simpa using hl)]; exact h0, by rw [hb.cell (by simpa using hl)]; exact h1, by rw [hb.cell (by simpa using hl)]; exact h2, by rw [hb.cell (by simpa using hl)]; exact h3⟩
theorem FoRow.below {w w' : World} {a : Option Addr} {L : List FoR} (h : FoRow w a L) (hb : Below w.heap.size w w') : FoRow w' a L := by
  obtain ⟨h0, h1⟩ := h
  refine ⟨h0, ?_⟩
  rcases h1 with h1 | ⟨b, o, h1, h2, h3⟩
  · exact .inl h1
  · exact .inr ⟨b, o, h1, Nat.lt_of_lt_of_le h2 hb.size, h3.below hb h2⟩

set_option maxRecDepth 100000 in
/-- a slice of folds that came in -/
theorem open_folds {H : Type} {enc : TypeId × Value → H} {W : World} {r : Reach} {b0 : Nat} {v : Value} {d : DataW H} {p : List MemPlace}
    (hv : Value.okWide Try.prog W r b0 71 v) (h : DataW.Trod enc Try.prog W 0 (fun _ => true) true 71 v d p) :
    ∃ (a : Option Addr) (L : List FoR) (cap : Nat), v = .slice a L.length cap ∧ FoRow W a L := by
  obtain ⟨a, len, cap, rfl⟩ := okWide_slice Try.underlying71 hv
  obtain ⟨fuel, hf⟩ := h
  rcases open_slice_fields Try.underlying71 Try.underlying74 (by kernel_rfl) (by kernel_rfl) hf with ⟨hcs, _⟩ | ⟨a', len', cap', m, D, Pl, hcs, _, hl, hm, hmm, _, hc⟩
  · simp [Value.cells] at hcs
    obtain ⟨rfl, rfl, rfl⟩ := hcs
    exact ⟨none, [], 0, rfl, ⟨by simp, by simp⟩, .inl rfl⟩
  · simp [Value.cells] at hcs
    obtain ⟨rfl, rfl, rfl⟩ := hcs
    obtain rfl : m = cap := by simpa using hmm
    unfold maxLen at hm
    have hg : ∀ i, ∃ q : FoR, i < len → (q.H < 4294967296 ∧ W.cell? (a'.add (i * 4 + 0)) = some (.int .i64 q.A) ∧ W.cell? (a'.add (i * 4 + 1)) = some (.int .i64 q.B) ∧ W.cell? (a'.add (i * 4 + 2)) = some (.int .i64 q.P) ∧ W.cell? (a'.add (i * 4 + 3)) = some (.float .f32 q.H)) := by
      intro i
      by_cases hi : i < len
      · obtain ⟨ys, n, _, _, _, hq⟩ := hc i (by omega)
        obtain ⟨v0, y0, c0, _, t0⟩ := hq 0 _ rfl
        obtain ⟨v1, y1, c1, _, t1⟩ := hq 1 _ rfl
        obtain ⟨v2, y2, c2, _, t2⟩ := hq 2 _ rfl
        obtain ⟨v3, y3, c3, _, t3⟩ := hq 3 _ rfl
        obtain ⟨A, e0, _, _⟩ := DataW.trod_int Try.underlying3 t0
        obtain ⟨B, e1, _, _⟩ := DataW.trod_int Try.underlying3 t1
        obtain ⟨P, e2, _, _⟩ := DataW.trod_int Try.underlying3 t2
        obtain ⟨h, rfl, h3⟩ := trod_single t3
        simp only [List.cons.injEq, and_true] at e0 e1 e2
        subst e0 e1 e2
        exact ⟨⟨A, B, P, h⟩, fun _ => ⟨h3, c0, c1, c2, c3⟩⟩
      · exact ⟨⟨0, 0, 0, 0⟩, fun h => absurd h hi⟩
    obtain ⟨g, hgs⟩ := Classical.axiomOfChoice hg
    have hlen : ((List.range len).map g).length = len := by simp
    refine ⟨some a', (List.range len).map g, m, by rw [hlen], ⟨by rw [hlen]; omega, ?_⟩, ?_⟩
    · intro x hx
      obtain ⟨i, hi, rfl⟩ := List.mem_map.1 hx
      exact (hgs i (List.mem_range.1 hi)).1
    · by_cases h0 : len = 0
      · subst h0; exact .inl rfl
      · right
        obtain ⟨b, off, spot⟩ := a'
        have z := (hgs 0 (by omega)).2.1
        have hspot : spot = none := by simpa [Addr.add] using World.cell?_spot z
        subst hspot
        rw [Go.WideShapes.add_plain] at z
        refine ⟨b, off, rfl, ?_, fun i hi => ?_⟩
        · rcases Nat.lt_or_ge b W.heap.size with hlt | hge
          · exact hlt
          · simp [World.cell?, Array.getElem?_eq_none hge] at z
        · rw [hlen] at hi
          have e : foAt ((List.range len).map g) i = g i := by
            unfold foAt
            simp [List.getD_eq_getElem?_getD, List.getElem?_map, List.getElem?_range hi]
          obtain ⟨_, q0, q1, q2, q3⟩ := hgs i hi
          rw [Go.WideShapes.add_plain] at q0 q1 q2 q3
          rw [e]
          exact ⟨q0, by rw [Nat.add_assoc]; exact q1, by rw [Nat.add_assoc]; exact q2, by rw [Nat.add_assoc]; exact q3⟩
end Go.Proofs.Ytnfebeebjelgbaa

namespace Go.Proofs.Ytnfebeebjelgbaa
open Go.ChangeShapes Go.WideShapes Go.ChangeAt Go.RowKit
open Ieee.Format (fin finE htE allFin allHt all_true all_false mulF subF addF Ht Bd divF rootF floorF easeF mixF)
set_option linter.unusedVariables false
open Ieee.Format (const_1)

theorem placeerr_any (X Y : Int) (w : World) : Calls Try.prog 148 #[.int .i64 X, .int .i64 Y, .int .i64 1] w fun e w' => e = .returned (.int .i64 (placeE X Y)) ∧ w = w' := by
  unfold placeE
  by_cases h1 : X < -4194304
  · rw [if_pos h1]
    go_enter Try.func148, Try.ntmps148
    go_wp2
    go_ret
    exact ⟨rfl, rfl⟩
  · rw [if_neg h1]
    by_cases h2 : 4194304 < X
    · rw [if_pos h2]
      go_enter Try.func148, Try.ntmps148
      go_wp2
      go_ret
      exact ⟨rfl, rfl⟩
    · rw [if_neg h2]
      by_cases h3 : Y < -4194304
      · rw [if_pos h3]
        go_enter Try.func148, Try.ntmps148
        go_wp2
        go_ret
        exact ⟨rfl, rfl⟩
      · rw [if_neg h3]
        by_cases h4 : 4194304 < Y
        · rw [if_pos h4]
          go_enter Try.func148, Try.ntmps148
          go_wp2
          go_ret
          exact ⟨rfl, rfl⟩
        · rw [if_neg h4]
          go_enter Try.func148, Try.ntmps148
          go_wp2
          go_ret
          exact ⟨rfl, rfl⟩

def liftC (A B P : Int) (H : Nat) (x y : Int) : Int := if foldE A B P H ≠ 0 then foldE A B P H else placeE x y
def liftV (A B P : Int) (H : Nat) (x y : Int) : Nat := if liftC A B P H x y ≠ 0 then 0 else liftF H (foldK A B P x y) P
theorem fold_at {A B P x y : Int} {H : Nat} (hz : foldE A B P H = 0) (q : -8388608 ≤ x ∧ x ≤ 8388608 ∧ -8388608 ≤ y ∧ y ≤ 8388608) : FoldAt A B P x y ∧ Bd 20 H := by
  obtain ⟨a, b, p1, p2, hH⟩ := fold_zero hz
  exact ⟨⟨a, b, ⟨p1, p2⟩, ⟨q.1, q.2.1⟩, q.2.2⟩, Ieee.Format.Ht.bd (htE_one hH)⟩

set_option maxRecDepth 100000 in
theorem Lift_any (A B P : Int) (H : Nat) (x y : Int) (w : World) (hH : H < 4294967296) :
    Calls Try.prog 54 #[foldV A B P H, .int .i64 x, .int .i64 y] w fun e w' => e = .returned (.tuple #[.float .f32 (liftV A B P H x y), .int .i64 (liftC A B P H x y)]) ∧ Below w.heap.size w w' := by
  have KC := Lib.hid (fun w => check_fold A B P H w hH)
  have KP := Lib.hid (fun w => checkplace_any x y w)
  unfold liftV liftC
  by_cases hz : foldE A B P H = 0
  · rw [hz] at KC
    rw [if_neg (show ¬ foldE A B P H ≠ 0 by omega)]
    by_cases hp : placeE x y = 0
    · rw [hp] at KP
      rw [if_neg (show ¬ placeE x y ≠ 0 by omega), hp]
      have q := placeE_zero hp
      obtain ⟨f1, f2⟩ := fold_at hz (x := x) (y := y) (by omega)
      have KL := Lib.hid (fun w => lift_any A B P H x y w f1 f2)
      clear hH hz hp q f1 f2
      generalize liftF H (foldK A B P x y) P = z at *
      go_enter Try.func54, Try.ntmps54
      go_wp2_with fail
      generalize hW0 : w.alloc (.cells #[.int .i64 A, .int .i64 B, .int .i64 P, .float .f32 H] 74) = W0 at *
      have P0 : Blk W0 w.heap.size #[.int .i64 A, .int .i64 B, .int .i64 P, .float .f32 H] 74 := by subst hW0; exact Blk.new _ _ _
      have B0 : Below w.heap.size w W0 := by subst hW0; exact (by repeat (first | with_reducible exact Below.refl _ _ | with_reducible apply Below.drew | with_reducible refine below_drewN ?_ _ | (with_reducible refine Below.setCell ?_ ?_ _; rotate_left; focus (first | omega | (simp <;> omega))) | (with_reducible refine Below.alloc ?_ ?_ _; rotate_left; focus (first | omega | (simp <;> omega)))))
      clear hW0
      refine (KC.out _).mono ?_
      rintro e w1 ⟨rfl, b1⟩
      have HP1 := Lib.hid (P0.below b1 P0.lt)
      have HB1 := Lib.hid (B0.trans (b1.mono B0.size))
      clear b1 P0 B0 KC
      have t0 : w1.cell? ⟨w.heap.size, 0, none⟩ = some (.int .i64 A) := HP1.out.cell 0
      have t1 : w1.cell? ⟨w.heap.size, 1, none⟩ = some (.int .i64 B) := HP1.out.cell 1
      have t2 : w1.cell? ⟨w.heap.size, 2, none⟩ = some (.int .i64 P) := HP1.out.cell 2
      have t3 : w1.cell? ⟨w.heap.size, 3, none⟩ = some (.float .f32 H) := HP1.out.cell 3
      have l0 : w.heap.size < w1.heap.size := HP1.out.lt
      go_wp2_with fail
      refine (KP.out _).mono ?_
      rintro e w2 ⟨rfl, rfl⟩
      go_wp2_with fail
      refine (KL.out _).mono ?_
      rintro e w3 ⟨rfl, b3⟩
      have HB3 := Lib.hid (HB1.out.trans (b3.mono HB1.out.size))
      clear b3
      go_wp2_with fail
      have B3 := HB3.out
      exact bodyPost_ret (v := .tuple #[.float .f32 z, .int .i64 0]) (by simp [results, Try.results54, go_sem, *]) rfl ⟨rfl, (by have hszz := B3.size; repeat (first | with_reducible exact B3 | with_reducible apply Below.drew | with_reducible refine below_drewN ?_ _ | (with_reducible refine Below.setCell ?_ ?_ _; rotate_left; focus (first | omega | (simp <;> omega))) | (with_reducible refine Below.alloc ?_ ?_ _; rotate_left; focus (first | omega | (simp <;> omega)))))⟩
    · rw [if_pos (show placeE x y ≠ 0 from hp)]
      have hb' : (placeE x y != 0) = true := by rw [bne_iff_ne]; exact hp
      generalize placeE x y = a at *
      clear hH hz hp
      go_enter Try.func54, Try.ntmps54
      go_wp2_with fail
      generalize hW0 : w.alloc (.cells #[.int .i64 A, .int .i64 B, .int .i64 P, .float .f32 H] 74) = W0 at *
      have P0 : Blk W0 w.heap.size #[.int .i64 A, .int .i64 B, .int .i64 P, .float .f32 H] 74 := by subst hW0; exact Blk.new _ _ _
      have B0 : Below w.heap.size w W0 := by subst hW0; exact (by repeat (first | with_reducible exact Below.refl _ _ | with_reducible apply Below.drew | with_reducible refine below_drewN ?_ _ | (with_reducible refine Below.setCell ?_ ?_ _; rotate_left; focus (first | omega | (simp <;> omega))) | (with_reducible refine Below.alloc ?_ ?_ _; rotate_left; focus (first | omega | (simp <;> omega)))))
      clear hW0
      refine (KC.out _).mono ?_
      rintro e w1 ⟨rfl, b1⟩
      have HP1 := Lib.hid (P0.below b1 P0.lt)
      have HB1 := Lib.hid (B0.trans (b1.mono B0.size))
      clear b1 P0 B0 KC
      have t0 : w1.cell? ⟨w.heap.size, 0, none⟩ = some (.int .i64 A) := HP1.out.cell 0
      have t1 : w1.cell? ⟨w.heap.size, 1, none⟩ = some (.int .i64 B) := HP1.out.cell 1
      have t2 : w1.cell? ⟨w.heap.size, 2, none⟩ = some (.int .i64 P) := HP1.out.cell 2
      have t3 : w1.cell? ⟨w.heap.size, 3, none⟩ = some (.float .f32 H) := HP1.out.cell 3
      have l0 : w.heap.size < w1.heap.size := HP1.out.lt
      go_wp2_with fail
      refine (KP.out _).mono ?_
      rintro e w2 ⟨rfl, rfl⟩
      go_wp2_with fail
      have B3 := HB1.out
      exact bodyPost_ret (v := .tuple #[.float .f32 0, .int .i64 a]) (by simp [results, Try.results54, go_sem, *]) rfl ⟨rfl, (by have hszz := B3.size; repeat (first | with_reducible exact B3 | with_reducible apply Below.drew | with_reducible refine below_drewN ?_ _ | (with_reducible refine Below.setCell ?_ ?_ _; rotate_left; focus (first | omega | (simp <;> omega))) | (with_reducible refine Below.alloc ?_ ?_ _; rotate_left; focus (first | omega | (simp <;> omega)))))⟩
  · rw [if_pos (show foldE A B P H ≠ 0 from hz), if_pos hz]
    have hb' : (foldE A B P H != 0) = true := by rw [bne_iff_ne]; exact hz
    generalize foldE A B P H = a at *
    clear hH hz
    go_enter Try.func54, Try.ntmps54
    go_wp2_with fail
    generalize hW0 : w.alloc (.cells #[.int .i64 A, .int .i64 B, .int .i64 P, .float .f32 H] 74) = W0 at *
    have P0 : Blk W0 w.heap.size #[.int .i64 A, .int .i64 B, .int .i64 P, .float .f32 H] 74 := by subst hW0; exact Blk.new _ _ _
    have B0 : Below w.heap.size w W0 := by subst hW0; exact (by repeat (first | with_reducible exact Below.refl _ _ | with_reducible apply Below.drew | with_reducible refine below_drewN ?_ _ | (with_reducible refine Below.setCell ?_ ?_ _; rotate_left; focus (first | omega | (simp <;> omega))) | (with_reducible refine Below.alloc ?_ ?_ _; rotate_left; focus (first | omega | (simp <;> omega)))))
    clear hW0
    refine (KC.out _).mono ?_
    rintro e w1 ⟨rfl, b1⟩
    have HP1 := Lib.hid (P0.below b1 P0.lt)
    have HB1 := Lib.hid (B0.trans (b1.mono B0.size))
    clear b1 P0 B0 KC
    have t0 : w1.cell? ⟨w.heap.size, 0, none⟩ = some (.int .i64 A) := HP1.out.cell 0
    have t1 : w1.cell? ⟨w.heap.size, 1, none⟩ = some (.int .i64 B) := HP1.out.cell 1
    have t2 : w1.cell? ⟨w.heap.size, 2, none⟩ = some (.int .i64 P) := HP1.out.cell 2
    have t3 : w1.cell? ⟨w.heap.size, 3, none⟩ = some (.float .f32 H) := HP1.out.cell 3
    have l0 : w.heap.size < w1.heap.size := HP1.out.lt
    go_wp2_with fail
    have B3 := HB1.out
    exact bodyPost_ret (v := .tuple #[.float .f32 0, .int .i64 a]) (by simp [results, Try.results54, go_sem, *]) rfl ⟨rfl, (by have hszz := B3.size; repeat (first | with_reducible exact B3 | with_reducible apply Below.drew | with_reducible refine below_drewN ?_ _ | (with_reducible refine Below.setCell ?_ ?_ _; rotate_left; focus (first | omega | (simp <;> omega))) | (with_reducible refine Below.alloc ?_ ?_ _; rotate_left; focus (first | omega | (simp <;> omega)))))⟩
set_option maxRecDepth 100000 in
theorem refLift_any (A B P : Int) (H : Nat) (x y : Int) (w : World) (hH : H < 4294967296) :
    Calls Try.prog 55 #[foldV A B P H, .int .i64 x, .int .i64 y] w fun e w' => e = .returned (.tuple #[.float .f32 (liftV A B P H x y), .int .i64 (liftC A B P H x y)]) ∧ Below w.heap.size w w' := by
  have KC := Lib.hid (fun w => refcheck_fold A B P H w hH)
  have KP := Lib.hid (fun w => placeerr_any x y w)
  unfold liftV liftC
  by_cases hz : foldE A B P H = 0
  · rw [hz] at KC
    rw [if_neg (show ¬ foldE A B P H ≠ 0 by omega)]
    by_cases hp : placeE x y = 0
    · rw [hp] at KP
      rw [if_neg (show ¬ placeE x y ≠ 0 by omega), hp]
      have q := placeE_zero hp
      obtain ⟨f1, f2⟩ := fold_at hz (x := x) (y := y) (by omega)
      have KL := Lib.hid (fun w => reflift_any A B P H x y w f1 f2)
      clear hH hz hp q f1 f2
      generalize liftF H (foldK A B P x y) P = z at *
      go_enter Try.func55, Try.ntmps55
      go_wp2_with fail
      generalize hW0 : w.alloc (.cells #[.int .i64 A, .int .i64 B, .int .i64 P, .float .f32 H] 74) = W0 at *
      have P0 : Blk W0 w.heap.size #[.int .i64 A, .int .i64 B, .int .i64 P, .float .f32 H] 74 := by subst hW0; exact Blk.new _ _ _
      have B0 : Below w.heap.size w W0 := by subst hW0; exact (by repeat (first | with_reducible exact Below.refl _ _ | with_reducible apply Below.drew | with_reducible refine below_drewN ?_ _ | (with_reducible refine Below.setCell ?_ ?_ _; rotate_left; focus (first | omega | (simp <;> omega))) | (with_reducible refine Below.alloc ?_ ?_ _; rotate_left; focus (first | omega | (simp <;> omega)))))
      clear hW0
      refine (KC.out _).mono ?_
      rintro e w1 ⟨rfl, b1⟩
      have HP1 := Lib.hid (P0.below b1 P0.lt)
      have HB1 := Lib.hid (B0.trans (b1.mono B0.size))
      clear b1 P0 B0 KC
      have t0 : w1.cell? ⟨w.heap.size, 0, none⟩ = some (.int .i64 A) := HP1.out.cell 0
      have t1 : w1.cell? ⟨w.heap.size, 1, none⟩ = some (.int .i64 B) := HP1.out.cell 1
      have t2 : w1.cell? ⟨w.heap.size, 2, none⟩ = some (.int .i64 P) := HP1.out.cell 2
      have t3 : w1.cell? ⟨w.heap.size, 3, none⟩ = some (.float .f32 H) := HP1.out.cell 3
      have l0 : w.heap.size < w1.heap.size := HP1.out.lt
      go_wp2_with fail
      refine (KP.out _).mono ?_
      rintro e w2 ⟨rfl, rfl⟩
      go_wp2_with fail
      refine (KL.out _).mono ?_
      rintro e w3 ⟨rfl, b3⟩
      have HB3 := Lib.hid (HB1.out.trans (b3.mono HB1.out.size))
      clear b3
      go_wp2_with fail
      have B3 := HB3.out
      exact bodyPost_ret (v := .tuple #[.float .f32 z, .int .i64 0]) (by simp [results, Try.results55, go_sem, *]) rfl ⟨rfl, (by have hszz := B3.size; repeat (first | with_reducible exact B3 | with_reducible apply Below.drew | with_reducible refine below_drewN ?_ _ | (with_reducible refine Below.setCell ?_ ?_ _; rotate_left; focus (first | omega | (simp <;> omega))) | (with_reducible refine Below.alloc ?_ ?_ _; rotate_left; focus (first | omega | (simp <;> omega)))))⟩
    · rw [if_pos (show placeE x y ≠ 0 from hp)]
      have hb' : (placeE x y != 0) = true := by rw [bne_iff_ne]; exact hp
      generalize placeE x y = a at *
      clear hH hz hp
      go_enter Try.func55, Try.ntmps55
      go_wp2_with fail
      generalize hW0 : w.alloc (.cells #[.int .i64 A, .int .i64 B, .int .i64 P, .float .f32 H] 74) = W0 at *
      have P0 : Blk W0 w.heap.size #[.int .i64 A, .int .i64 B, .int .i64 P, .float .f32 H] 74 := by subst hW0; exact Blk.new _ _ _
      have B0 : Below w.heap.size w W0 := by subst hW0; exact (by repeat (first | with_reducible exact Below.refl _ _ | with_reducible apply Below.drew | with_reducible refine below_drewN ?_ _ | (with_reducible refine Below.setCell ?_ ?_ _; rotate_left; focus (first | omega | (simp <;> omega))) | (with_reducible refine Below.alloc ?_ ?_ _; rotate_left; focus (first | omega | (simp <;> omega)))))
      clear hW0
      refine (KC.out _).mono ?_
      rintro e w1 ⟨rfl, b1⟩
      have HP1 := Lib.hid (P0.below b1 P0.lt)
      have HB1 := Lib.hid (B0.trans (b1.mono B0.size))
      clear b1 P0 B0 KC
      have t0 : w1.cell? ⟨w.heap.size, 0, none⟩ = some (.int .i64 A) := HP1.out.cell 0
      have t1 : w1.cell? ⟨w.heap.size, 1, none⟩ = some (.int .i64 B) := HP1.out.cell 1
      have t2 : w1.cell? ⟨w.heap.size, 2, none⟩ = some (.int .i64 P) := HP1.out.cell 2
      have t3 : w1.cell? ⟨w.heap.size, 3, none⟩ = some (.float .f32 H) := HP1.out.cell 3
      have l0 : w.heap.size < w1.heap.size := HP1.out.lt
      go_wp2_with fail
      refine (KP.out _).mono ?_
      rintro e w2 ⟨rfl, rfl⟩
      go_wp2_with fail
      have B3 := HB1.out
      exact bodyPost_ret (v := .tuple #[.float .f32 0, .int .i64 a]) (by simp [results, Try.results55, go_sem, *]) rfl ⟨rfl, (by have hszz := B3.size; repeat (first | with_reducible exact B3 | with_reducible apply Below.drew | with_reducible refine below_drewN ?_ _ | (with_reducible refine Below.setCell ?_ ?_ _; rotate_left; focus (first | omega | (simp <;> omega))) | (with_reducible refine Below.alloc ?_ ?_ _; rotate_left; focus (first | omega | (simp <;> omega)))))⟩
  · rw [if_pos (show foldE A B P H ≠ 0 from hz), if_pos hz]
    have hb' : (foldE A B P H != 0) = true := by rw [bne_iff_ne]; exact hz
    generalize foldE A B P H = a at *
    clear hH hz
    go_enter Try.func55, Try.ntmps55
    go_wp2_with fail
    generalize hW0 : w.alloc (.cells #[.int .i64 A, .int .i64 B, .int .i64 P, .float .f32 H] 74) = W0 at *
    have P0 : Blk W0 w.heap.size #[.int .i64 A, .int .i64 B, .int .i64 P, .float .f32 H] 74 := by subst hW0; exact Blk.new _ _ _
    have B0 : Below w.heap.size w W0 := by subst hW0; exact (by repeat (first | with_reducible exact Below.refl _ _ | with_reducible apply Below.drew | with_reducible refine below_drewN ?_ _ | (with_reducible refine Below.setCell ?_ ?_ _; rotate_left; focus (first | omega | (simp <;> omega))) | (with_reducible refine Below.alloc ?_ ?_ _; rotate_left; focus (first | omega | (simp <;> omega)))))
    clear hW0
    refine (KC.out _).mono ?_
    rintro e w1 ⟨rfl, b1⟩
    have HP1 := Lib.hid (P0.below b1 P0.lt)
    have HB1 := Lib.hid (B0.trans (b1.mono B0.size))
    clear b1 P0 B0 KC
    have t0 : w1.cell? ⟨w.heap.size, 0, none⟩ = some (.int .i64 A) := HP1.out.cell 0
    have t1 : w1.cell? ⟨w.heap.size, 1, none⟩ = some (.int .i64 B) := HP1.out.cell 1
    have t2 : w1.cell? ⟨w.heap.size, 2, none⟩ = some (.int .i64 P) := HP1.out.cell 2
    have t3 : w1.cell? ⟨w.heap.size, 3, none⟩ = some (.float .f32 H) := HP1.out.cell 3
    have l0 : w.heap.size < w1.heap.size := HP1.out.lt
    go_wp2_with fail
    have B3 := HB1.out
    exact bodyPost_ret (v := .tuple #[.float .f32 0, .int .i64 a]) (by simp [results, Try.results55, go_sem, *]) rfl ⟨rfl, (by have hszz := B3.size; repeat (first | with_reducible exact B3 | with_reducible apply Below.drew | with_reducible refine below_drewN ?_ _ | (with_reducible refine Below.setCell ?_ ?_ _; rotate_left; focus (first | omega | (simp <;> omega))) | (with_reducible refine Below.alloc ?_ ?_ _; rotate_left; focus (first | omega | (simp <;> omega)))))⟩
end Go.Proofs.Ytnfebeebjelgbaa

namespace Go.Proofs.Ytnfebeebjelgbaa
open Go.ChangeShapes Go.WideShapes Go.ChangeAt Go.RowKit
open Ieee.Format (fin finE htE allFin allHt all_true all_false mulF subF addF Ht Bd divF rootF floorF easeF mixF)
set_option linter.unusedVariables false
open Ieee.Format (Hn)

/-- what a list of folds makes of a value -/
def foldsF (L : List FoR) (x y : Int) (v : Nat) : Nat := sumF (fun r => liftF r.H (foldK r.A r.B r.P x y) r.P) v L

set_option maxRecDepth 100000 in
set_option maxHeartbeats 1000000 in
theorem foldsfn_any (L : List FoR) (a : Option Addr) (cap : Nat) (x y : Int) (v pl pv : Nat) (w : World) (hr : FoRow w a L) (hn : L.length ≤ 100) (hpl : Blk w pl #[.slice a L.length cap] 71)
    (hpv : Blk w pv #[.func (.func 145) #[] #[]] 147) (hat : ∀ r ∈ L, FoldAt r.A r.B r.P x y ∧ Bd 20 r.H) (hv : Bd 20 v) :
    Calls Try.prog 211 #[.int .i64 x, .int .i64 y, .float .f32 v, .pointer (some ⟨pl, 0, none⟩), .pointer (some ⟨pv, 0, none⟩)] w fun e w' => e = .returned (.float .f32 (foldsF L x y v)) ∧ Below w.heap.size w w' := by
  have q0 : w.cell? ⟨pl, 0, none⟩ = some (.slice a L.length cap) := hpl.cell 0
  have q1 : w.cell? ⟨pv, 0, none⟩ = some (.func (.func 145) #[] #[]) := hpv.cell 0
  have l0 := hpl.lt
  have l1 := hpv.lt
  have KL := Lib.hid (fun i (hi : i < L.length) w => lift_any (foAt L i).A (foAt L i).B (foAt L i).P (foAt L i).H x y w (hat _ (foAt_mem hi)).1 (hat _ (foAt_mem hi)).2)
  have KS := Lib.hid (fun i (hi : i < L.length) => sumF_step (φ := fun r : FoR => liftF r.H (foldK r.A r.B r.P x y) r.P) hv (by omega) (fun r hr => (lift_bd (hat r hr).2 (hat r hr).1.ok).2) (⟨0, 0, 0, 0⟩ : FoR) hi)
  have H0 : Hid (foldsF L x y v = sumF (fun r : FoR => liftF r.H (foldK r.A r.B r.P x y) r.P) v (L.take L.length)) := by rw [List.take_length]; exact rfl
  have Hs0 : Hid (sumF (fun r : FoR => liftF r.H (foldK r.A r.B r.P x y) r.P) v (L.take 0) = v) := rfl
  rw [H0.out]
  have HR := Lib.hid hr.2
  clear hpl hpv hat hv hr H0
  go_enter Try.func211, Try.ntmps211
  go_wp2_with fail
  go_loopw [2, 13] (fun acc i wr => ∃ k : Nat, k ≤ L.length ∧ i = .int .i64 k ∧ acc = .float .f32 (sumF (fun r : FoR => liftF r.H (foldK r.A r.B r.P x y) r.P) v (L.take k)) ∧ Below w.heap.size w wr) (fun _ i _ => L.length - (intOf i).toNat)
  case atStart => exact ⟨0, by omega, rfl, by rw [Hs0.out], (by repeat (first | with_reducible exact Below.refl _ _ | with_reducible apply Below.drew | with_reducible refine below_drewN ?_ _ | (with_reducible refine Below.setCell ?_ ?_ _; rotate_left; focus (first | omega | (simp <;> omega))) | (with_reducible refine Below.alloc ?_ ?_ _; rotate_left; focus (first | omega | (simp <;> omega)))))⟩
  case round =>
    obtain ⟨k, hk, rfl, rfl, B⟩ := hrel
    have HB := Lib.hid B
    by_cases hlt : k < L.length
    · rcases HR.out with hnil | ⟨b, o, rfl, hb, hc⟩
      · subst hnil; exact absurd hlt (by simp)
      have KL1 := Lib.hid (KL.out k hlt)
      obtain ⟨s1, s2, s3, s4⟩ := KS.out k hlt
      have KL2 : Hid (∀ w, Calls Try.prog 145 #[foldV (foAt L k).A (foAt L k).B (foAt L k).P (foAt L k).H, .int .i64 x, .int .i64 y] w fun e w' => e = .returned (.float .f32 (liftF (L.getD k ⟨0, 0, 0, 0⟩).H (foldK (L.getD k ⟨0, 0, 0, 0⟩).A (L.getD k ⟨0, 0, 0, 0⟩).B (L.getD k ⟨0, 0, 0, 0⟩).P x y) (L.getD k ⟨0, 0, 0, 0⟩).P)) ∧ Below w.heap.size w w') := KL1
      have k1 := fun w' => run_float_arith (P := Try.prog) w' .add 37 .f32 _ _ _ (Ieee.Format.bits_add s1 s2)
      rw [← s4] at k1
      clear s1 s2 s3 s4 KL1
      obtain ⟨h0, h1, h2, h3⟩ := hc k hlt
      have m0 := (B.cell (p := ⟨b, o + k * 4, none⟩) (by simpa using hb)).trans h0
      have m1 := (B.cell (p := ⟨b, o + k * 4 + 1, none⟩) (by simpa using hb)).trans h1
      have m2 := (B.cell (p := ⟨b, o + k * 4 + 2, none⟩) (by simpa using hb)).trans h2
      have m3 := (B.cell (p := ⟨b, o + k * 4 + 3, none⟩) (by simpa using hb)).trans h3
      have c0 := (B.cell (p := ⟨pl, 0, none⟩) (by simpa using l0)).trans q0
      have c1 := (B.cell (p := ⟨pv, 0, none⟩) (by simpa using l1)).trans q1
      have hz := B.size
      have l3 : pl < wr.heap.size := by omega
      have l4 : pv < wr.heap.size := by omega
      have l5 : b < wr.heap.size := by omega
      clear h0 h1 h2 h3 hb hc B hk
      generalize hz1 : sumF (fun r : FoR => liftF r.H (foldK r.A r.B r.P x y) r.P) v (L.take (k + 1)) = z1 at *
      have HZ1 := Lib.hid hz1
      clear hz1
      generalize sumF (fun r : FoR => liftF r.H (foldK r.A r.B r.P x y) r.P) v (L.take k) = z0 at *
      generalize liftF (L.getD k ⟨0, 0, 0, 0⟩).H (foldK (L.getD k ⟨0, 0, 0, 0⟩).A (L.getD k ⟨0, 0, 0, 0⟩).B (L.getD k ⟨0, 0, 0, 0⟩).P x y) (L.getD k ⟨0, 0, 0, 0⟩).P = z2 at *
      generalize (foAt L k).A = A at *
      generalize (foAt L k).B = B at *
      generalize (foAt L k).P = P at *
      generalize (foAt L k).H = H at *
      go_wp2_with fail
      have B1 : Below wr.heap.size wr (wr.alloc (.cells #[.int .i64 A, .int .i64 B, .int .i64 P, .float .f32 H] 74)) := (by repeat (first | with_reducible exact Below.refl _ _ | with_reducible apply Below.drew | with_reducible refine below_drewN ?_ _ | (with_reducible refine Below.setCell ?_ ?_ _; rotate_left; focus (first | omega | (simp <;> omega))) | (with_reducible refine Below.alloc ?_ ?_ _; rotate_left; focus (first | omega | (simp <;> omega)))))
      refine (KL2.out _).mono ?_
      rintro e w2 ⟨rfl, b2⟩
      have HB2 := Lib.hid (HB.out.trans ((B1.trans (b2.mono B1.size)).mono hz))
      clear b2 B1
      go_wp2_with fail
      go_roundw
      case rel => exact ⟨k + 1, by omega, by go_num, by rw [HZ1.out], HB2.out⟩
      case measure => simp [intOf]; omega
    · obtain rfl : k = L.length := by omega
      go_wp2_with fail
      go_ret
      exact ⟨rfl, HB.out⟩

set_option maxRecDepth 100000 in
set_option maxHeartbeats 1000000 in
theorem reffoldsfn_any (L : List FoR) (a : Option Addr) (cap : Nat) (X0 Y0 : Int) (Wn Hn : Nat) (x y : Int) (bf of c q pl : Nat) (l : List Nat) (w : World) (hl : SRow w (some ⟨bf, of, none⟩) l) (hrt : Right X0 Y0 Wn Hn l) (hx : X0 ≤ x) (hx' : x < X0 + Wn) (hy : Y0 ≤ y) (hy' : y < Y0 + Hn)
    (hq : Fld w q X0 Y0 Wn Hn (.slice (some ⟨bf, of, none⟩) l.length c)) (hr : FoRow w a L) (hn : L.length ≤ 100) (hpl : Blk w pl #[.slice a L.length cap] 71) (hat : ∀ r ∈ L, FoldAt r.A r.B r.P x y ∧ Bd 20 r.H) :
    Calls Try.prog 146 #[.int .i64 x, .int .i64 y, .pointer (some ⟨q, 0, none⟩), .pointer (some ⟨pl, 0, none⟩)] w fun e w' => e = .returned (.float .f32 (foldsF L x y (l.getD (cellNo X0 Y0 Wn x y).toNat 0))) ∧ Below w.heap.size w w' := by
  have KA := Lib.hid (fun w hl => at_right X0 Y0 Wn Hn x y bf of c l w hl hrt hx hx' hy hy')
  have hv := hrt.bd (cellNo X0 Y0 Wn x y).toNat
  have HL := Lib.hid hl
  generalize l.getD (cellNo X0 Y0 Wn x y).toNat 0 = v at *
  have q0 : w.cell? ⟨pl, 0, none⟩ = some (.slice a L.length cap) := hpl.cell 0
  have l0 := hpl.lt
  have l1 := hq.lt
  obtain ⟨c0, c1, c2, c3, c4⟩ := hq.cells
  have KL := Lib.hid (fun i (hi : i < L.length) w => reflift_any (foAt L i).A (foAt L i).B (foAt L i).P (foAt L i).H x y w (hat _ (foAt_mem hi)).1 (hat _ (foAt_mem hi)).2)
  have KS := Lib.hid (fun i (hi : i < L.length) => sumF_step (φ := fun r : FoR => liftF r.H (foldK r.A r.B r.P x y) r.P) hv (by omega) (fun r hr => (lift_bd (hat r hr).2 (hat r hr).1.ok).2) (⟨0, 0, 0, 0⟩ : FoR) hi)
  have H0 : Hid (foldsF L x y v = sumF (fun r : FoR => liftF r.H (foldK r.A r.B r.P x y) r.P) v (L.take L.length)) := by rw [List.take_length]; exact rfl
  have Hs0 : Hid (sumF (fun r : FoR => liftF r.H (foldK r.A r.B r.P x y) r.P) v (L.take 0) = v) := rfl
  rw [H0.out]
  have HR := Lib.hid hr.2
  clear hpl hat hv hr H0 hl hrt hq hx hx' hy hy'
  go_enter Try.func146, Try.ntmps146
  go_wp2_with fail
  refine (KA.out _ HL.out).mono ?_
  rintro e w1 ⟨rfl, b1⟩
  have HB1 := Lib.hid b1
  have r0 := (b1.cell (p := ⟨pl, 0, none⟩) (by simpa using l0)).trans q0
  have l2 : pl < w1.heap.size := Nat.lt_of_lt_of_le l0 b1.size
  clear b1 c0 c1 c2 c3 c4 l1 KA HL
  go_wp2_with fail
  clear r0 l2
  go_loopw [7, 16] (fun acc i wr => ∃ k : Nat, k ≤ L.length ∧ i = .int .i64 k ∧ acc = .float .f32 (sumF (fun r : FoR => liftF r.H (foldK r.A r.B r.P x y) r.P) v (L.take k)) ∧ Below w.heap.size w wr) (fun _ i _ => L.length - (intOf i).toNat)
  case atStart => exact ⟨0, by omega, rfl, by rw [Hs0.out], HB1.out⟩
  case round =>
    clear HB1
    obtain ⟨k, hk, rfl, rfl, B⟩ := hrel
    have HB := Lib.hid B
    by_cases hlt : k < L.length
    · rcases HR.out with hnil | ⟨b, o, rfl, hb, hc⟩
      · subst hnil; exact absurd hlt (by simp)
      have KL1 := Lib.hid (KL.out k hlt)
      obtain ⟨s1, s2, s3, s4⟩ := KS.out k hlt
      have KL2 : Hid (∀ w, Calls Try.prog 147 #[foldV (foAt L k).A (foAt L k).B (foAt L k).P (foAt L k).H, .int .i64 x, .int .i64 y] w fun e w' => e = .returned (.float .f32 (liftF (L.getD k ⟨0, 0, 0, 0⟩).H (foldK (L.getD k ⟨0, 0, 0, 0⟩).A (L.getD k ⟨0, 0, 0, 0⟩).B (L.getD k ⟨0, 0, 0, 0⟩).P x y) (L.getD k ⟨0, 0, 0, 0⟩).P)) ∧ Below w.heap.size w w') := KL1
      rw [s4] at s3
      have k1 := Lib.hid (fun w' => ref_add_ok _ _ w' s1 s2 s3)
      rw [← s4] at k1
      clear s1 s2 s3 s4 KL1
      obtain ⟨h0, h1, h2, h3⟩ := hc k hlt
      have m0 := (B.cell (p := ⟨b, o + k * 4, none⟩) (by simpa using hb)).trans h0
      have m1 := (B.cell (p := ⟨b, o + k * 4 + 1, none⟩) (by simpa using hb)).trans h1
      have m2 := (B.cell (p := ⟨b, o + k * 4 + 2, none⟩) (by simpa using hb)).trans h2
      have m3 := (B.cell (p := ⟨b, o + k * 4 + 3, none⟩) (by simpa using hb)).trans h3
      have hz := B.size
      have l5 : b < wr.heap.size := by omega
      clear h0 h1 h2 h3 hb hc B hk
      generalize hz1 : sumF (fun r : FoR => liftF r.H (foldK r.A r.B r.P x y) r.P) v (L.take (k + 1)) = z1 at *
      have HZ1 := Lib.hid hz1
      clear hz1
      generalize sumF (fun r : FoR => liftF r.H (foldK r.A r.B r.P x y) r.P) v (L.take k) = z0 at *
      generalize liftF (L.getD k ⟨0, 0, 0, 0⟩).H (foldK (L.getD k ⟨0, 0, 0, 0⟩).A (L.getD k ⟨0, 0, 0, 0⟩).B (L.getD k ⟨0, 0, 0, 0⟩).P x y) (L.getD k ⟨0, 0, 0, 0⟩).P = z2 at *
      generalize (foAt L k).A = A at *
      generalize (foAt L k).B = B at *
      generalize (foAt L k).P = P at *
      generalize (foAt L k).H = H at *
      go_wp2_with fail
      have B1 : Below wr.heap.size wr (wr.alloc (.cells #[.int .i64 A, .int .i64 B, .int .i64 P, .float .f32 H] 74)) := (by repeat (first | with_reducible exact Below.refl _ _ | with_reducible apply Below.drew | with_reducible refine below_drewN ?_ _ | (with_reducible refine Below.setCell ?_ ?_ _; rotate_left; focus (first | omega | (simp <;> omega))) | (with_reducible refine Below.alloc ?_ ?_ _; rotate_left; focus (first | omega | (simp <;> omega)))))
      refine (KL2.out _).mono ?_
      rintro e w2 ⟨rfl, b2⟩
      have HB2 := Lib.hid (HB.out.trans ((B1.trans (b2.mono B1.size)).mono hz))
      clear b2 B1
      go_wp2_with fail
      refine (k1.out _).mono ?_
      rintro e w3 ⟨rfl, rfl⟩
      go_wp2_with fail
      go_roundw
      case rel => exact ⟨k + 1, by omega, by go_num, by rw [HZ1.out], HB2.out⟩
      case measure => simp [intOf]; omega
    · obtain rfl : k = L.length := by omega
      go_wp2_with fail
      go_ret
      exact ⟨rfl, HB.out⟩
end Go.Proofs.Ytnfebeebjelgbaa

namespace Go.Proofs.Ytnfebeebjelgbaa
open Go.ChangeShapes Go.WideShapes Go.ChangeAt Go.RowKit
open Ieee.Format (fin finE htE allFin allHt all_true all_false mulF subF addF Ht Bd divF rootF floorF easeF mixF)
set_option linter.unusedVariables false
open Ieee.Format (Hn)

theorem box_f2 (w : World) (X Y W H : Int) (v : Value) (c1 : Array Value) (t1 : TypeId) (c2 : Array Value) (t2 : TypeId) : ∀ W0, W0 = (((w.alloc (.cells #[.int .i64 X, .int .i64 Y, .int .i64 W, .int .i64 H, v] 36)).alloc (.cells c1 t1)).alloc (.cells c2 t2)).alloc (.cells #[.int .i64 0, .int .i64 0, .int .i64 0, .int .i64 0, .slice none 0 0] 36) →
    Fld W0 w.heap.size X Y W H v ∧ Blk W0 (w.heap.size + 1) c1 t1 ∧ Blk W0 (w.heap.size + 1 + 1) c2 t2 ∧ Fld W0 (w.heap.size + 1 + 1 + 1) 0 0 0 0 (.slice none 0 0) ∧ Below w.heap.size w W0 := by
  rintro _ rfl
  refine ⟨(((Fld.new w X Y W H v).alloc _).alloc _).alloc _, ?_, ?_, ?_, (by repeat (first | with_reducible exact Below.refl _ _ | with_reducible apply Below.drew | with_reducible refine below_drewN ?_ _ | (with_reducible refine Below.setCell ?_ ?_ _; rotate_left; focus (first | omega | (simp <;> omega))) | (with_reducible refine Below.alloc ?_ ?_ _; rotate_left; focus (first | omega | (simp <;> omega)))))⟩
  · have := ((Blk.new (w.alloc (.cells #[.int .i64 X, .int .i64 Y, .int .i64 W, .int .i64 H, v] 36)) c1 t1).alloc (.cells c2 t2)).alloc (.cells #[.int .i64 0, .int .i64 0, .int .i64 0, .int .i64 0, .slice none 0 0] 36)
    simpa using this
  · have := (Blk.new ((w.alloc (.cells #[.int .i64 X, .int .i64 Y, .int .i64 W, .int .i64 H, v] 36)).alloc (.cells c1 t1)) c2 t2).alloc (.cells #[.int .i64 0, .int .i64 0, .int .i64 0, .int .i64 0, .slice none 0 0] 36)
    simpa using this
  · have := Fld.new (((w.alloc (.cells #[.int .i64 X, .int .i64 Y, .int .i64 W, .int .i64 H, v] 36)).alloc (.cells c1 t1)).alloc (.cells c2 t2)) 0 0 0 0 (.slice none 0 0)
    simpa using this

abbrev foE (r : FoR) : Int := foldE r.A r.B r.P r.H
set_option maxRecDepth 100000 in
theorem addall_large (X Y : Int) (Wn Hn : Nat) (b o c : Nat) (l : List Nat) (L : List FoR) (a : Option Addr) (cap : Nat) (w : World) (hl : SRow w (some ⟨b, o, none⟩) l) (hr : Right X Y Wn Hn l) (hR : FoRow w a L) (hn : 100 < L.length) :
    Calls Try.prog 144 #[fldV X Y Wn Hn (some ⟨b, o, none⟩) l.length c, .slice a L.length cap, .func (.func 56) #[] #[], .func (.func 145) #[] #[]] w fun e w' => e = .returned (.tuple #[fldV 0 0 0 0 none 0 0, .int .i64 4]) ∧ Below w.heap.size w w' := by
  have K := Lib.hid (fun w h => check_field X Y Wn Hn (some ⟨b, o, none⟩) c l w h)
  rw [hr.chk] at K
  have HL := Lib.hid hl
  have HR := Lib.hid hR
  have hm := hR.1.1
  clear hl hr hR
  go_enter Try.func144, Try.ntmps144
  go_wp2_with fail
  generalize hW0 : (((w.alloc (.cells #[.int .i64 X, .int .i64 Y, .int .i64 Wn, .int .i64 Hn, .slice (some ⟨b, o, none⟩) l.length c] 36)).alloc (.cells #[.slice a L.length cap] 71)).alloc (.cells #[.func (.func 145) #[] #[]] 147)).alloc (.cells #[.int .i64 0, .int .i64 0, .int .i64 0, .int .i64 0, .slice none 0 0] 36) = W0 at *
  obtain ⟨E0, P0, Q0, F0, B0⟩ := box_f2 w X Y Wn Hn (.slice (some ⟨b, o, none⟩) l.length c) #[.slice a L.length cap] 71 #[.func (.func 145) #[] #[]] 147 W0 hW0.symm
  clear hW0
  refine (K.out _ (HL.out.below B0)).mono ?_
  rintro e w1 ⟨rfl, b1⟩
  have HE1 := Lib.hid (E0.below b1 E0.lt)
  have HP1 := Lib.hid (P0.below b1 P0.lt)
  have HQ1 := Lib.hid (Q0.below b1 Q0.lt)
  have HF1 := Lib.hid (F0.below b1 F0.lt)
  have HL1 := Lib.hid ((HL.out.below B0).below b1)
  have HR1 := Lib.hid ((HR.out.below B0).below b1)
  have HB1 := Lib.hid (B0.trans (b1.mono B0.size))
  clear b1 B0 F0 E0 P0 Q0 K HL HR
  have p0 : w1.cell? ⟨w.heap.size + 1, 0, none⟩ = some (.slice a L.length cap) := HP1.out.cell 0
  have l3 : w.heap.size + 1 + 1 + 1 < w1.heap.size := HF1.out.lt
  have l2 : w.heap.size + 1 + 1 < w1.heap.size := by omega
  have l1 : w.heap.size + 1 < w1.heap.size := by omega
  have l0 : w.heap.size < w1.heap.size := by omega
  obtain ⟨d0, d1, d2, d3, d4⟩ := HF1.out.cells
  have qf0 := HF1.out.frozen 0
  have qf1 := HF1.out.frozen 1
  have qf2 := HF1.out.frozen 2
  have qf3 := HF1.out.frozen 3
  have qf4 := HF1.out.frozen 4
  have g1 : (100 : Int) < L.length := by omega
  go_wp2_with fail
  have B3 := HB1.out
  exact bodyPost_ret (v := .tuple #[fldV 0 0 0 0 none 0 0, .int .i64 4]) (by simp [results, Try.results144, go_sem, *]) rfl ⟨rfl, (by have hszz := B3.size; repeat (first | with_reducible exact B3 | with_reducible apply Below.drew | with_reducible refine below_drewN ?_ _ | (with_reducible refine Below.setCell ?_ ?_ _; rotate_left; focus (first | omega | (simp <;> omega))) | (with_reducible refine Below.alloc ?_ ?_ _; rotate_left; focus (first | omega | (simp <;> omega)))))⟩

set_option maxRecDepth 100000 in
set_option maxHeartbeats 1000000 in
theorem addall_bad (X Y : Int) (Wn Hn : Nat) (b o c : Nat) (l : List Nat) (L : List FoR) (a : Option Addr) (cap : Nat) (w : World) (hl : SRow w (some ⟨b, o, none⟩) l) (hr : Right X Y Wn Hn l) (hR : FoRow w a L) (hn : L.length ≤ 100)
    (j : Nat) (hj : j < L.length) (hz : ∀ i, i < j → foE (foAt L i) = 0) (hb : foE (foAt L j) ≠ 0) :
    Calls Try.prog 144 #[fldV X Y Wn Hn (some ⟨b, o, none⟩) l.length c, .slice a L.length cap, .func (.func 56) #[] #[], .func (.func 145) #[] #[]] w fun e w' => e = .returned (.tuple #[fldV 0 0 0 0 none 0 0, .int .i64 (foE (foAt L j))]) ∧ Below w.heap.size w w' := by
  have K := Lib.hid (fun w h => check_field X Y Wn Hn (some ⟨b, o, none⟩) c l w h)
  rw [hr.chk] at K
  have HL := Lib.hid hl
  have HR := Lib.hid hR
  have HRH := Lib.hid hR.1.2
  have HZ := Lib.hid hz
  have HBD := Lib.hid hb
  clear hl hr hR hz hb
  go_enter Try.func144, Try.ntmps144
  go_wp2_with fail
  generalize hW0 : (((w.alloc (.cells #[.int .i64 X, .int .i64 Y, .int .i64 Wn, .int .i64 Hn, .slice (some ⟨b, o, none⟩) l.length c] 36)).alloc (.cells #[.slice a L.length cap] 71)).alloc (.cells #[.func (.func 145) #[] #[]] 147)).alloc (.cells #[.int .i64 0, .int .i64 0, .int .i64 0, .int .i64 0, .slice none 0 0] 36) = W0 at *
  obtain ⟨E0, P0, Q0, F0, B0⟩ := box_f2 w X Y Wn Hn (.slice (some ⟨b, o, none⟩) l.length c) #[.slice a L.length cap] 71 #[.func (.func 145) #[] #[]] 147 W0 hW0.symm
  clear hW0
  refine (K.out _ (HL.out.below B0)).mono ?_
  rintro e w1 ⟨rfl, b1⟩
  have HE1 := Lib.hid (E0.below b1 E0.lt)
  have HP1 := Lib.hid (P0.below b1 P0.lt)
  have HQ1 := Lib.hid (Q0.below b1 Q0.lt)
  have HF1 := Lib.hid (F0.below b1 F0.lt)
  have HL1 := Lib.hid ((HL.out.below B0).below b1)
  have HR1 := Lib.hid ((HR.out.below B0).below b1)
  have HB1 := Lib.hid (B0.trans (b1.mono B0.size))
  clear b1 B0 F0 E0 P0 Q0 K HL HR
  have p0 : w1.cell? ⟨w.heap.size + 1, 0, none⟩ = some (.slice a L.length cap) := HP1.out.cell 0
  have l3 : w.heap.size + 1 + 1 + 1 < w1.heap.size := HF1.out.lt
  have l2 : w.heap.size + 1 + 1 < w1.heap.size := by omega
  have l1 : w.heap.size + 1 < w1.heap.size := by omega
  have l0 : w.heap.size < w1.heap.size := by omega
  have g1 : ¬ (100 : Int) < L.length := by omega
  go_wp2_with fail
  go_loopw [26] (fun i wr => ∃ k : Nat, k ≤ j ∧ i = .int .i64 k ∧ Below w1.heap.size w1 wr) (fun i _ => L.length - (intOf i).toNat)
  case atStart => exact ⟨0, by omega, rfl, (by repeat (first | with_reducible exact Below.refl _ _ | with_reducible apply Below.drew | with_reducible refine below_drewN ?_ _ | (with_reducible refine Below.setCell ?_ ?_ _; rotate_left; focus (first | omega | (simp <;> omega))) | (with_reducible refine Below.alloc ?_ ?_ _; rotate_left; focus (first | omega | (simp <;> omega)))))⟩
  case round =>
    obtain ⟨k, hk, rfl, B⟩ := hrel
    have HB := Lib.hid B
    have hlt : k < L.length := by omega
    rcases HR1.out.2 with hnil | ⟨g, og, rfl, hg, hc⟩
    · subst hnil; exact absurd hlt (by simp)
    obtain ⟨h0, h1, h2, h3⟩ := hc k hlt
    have m0 := (B.cell (p := ⟨g, og + k * 4, none⟩) (by simpa using hg)).trans h0
    have m1 := (B.cell (p := ⟨g, og + k * 4 + 1, none⟩) (by simpa using hg)).trans h1
    have m2 := (B.cell (p := ⟨g, og + k * 4 + 2, none⟩) (by simpa using hg)).trans h2
    have m3 := (B.cell (p := ⟨g, og + k * 4 + 3, none⟩) (by simpa using hg)).trans h3
    have hz := B.size
    have KC1 := Lib.hid (fun w => check_fold (foAt L k).A (foAt L k).B (foAt L k).P (foAt L k).H w (HRH.out _ (foAt_mem hlt)))
    have hf := HF1.out.below B HF1.out.lt
    have hfl := hf.lt
    have l5 : g < wr.heap.size := by omega
    clear h0 h1 h2 h3 hg hc
    by_cases hkj : k < j
    · have hz0 := HZ.out k hkj
      change Hid (∀ w, Calls Try.prog 56 #[foldV (foAt L k).A (foAt L k).B (foAt L k).P (foAt L k).H] w fun e w' => e = .returned (.int .i64 (foE (foAt L k))) ∧ Below w.heap.size w w') at KC1
      rw [hz0] at KC1
      clear hz0 hf hfl B
      generalize (foAt L k).A = A at *
      generalize (foAt L k).B = B at *
      generalize (foAt L k).P = P at *
      generalize (foAt L k).H = H at *
      go_wp2_with fail
      have B1 : Below wr.heap.size wr (wr.alloc (.cells #[.int .i64 A, .int .i64 B, .int .i64 P, .float .f32 H] 74)) := (by repeat (first | with_reducible exact Below.refl _ _ | with_reducible apply Below.drew | with_reducible refine below_drewN ?_ _ | (with_reducible refine Below.setCell ?_ ?_ _; rotate_left; focus (first | omega | (simp <;> omega))) | (with_reducible refine Below.alloc ?_ ?_ _; rotate_left; focus (first | omega | (simp <;> omega)))))
      refine (KC1.out _).mono ?_
      rintro e w2 ⟨rfl, b2⟩
      have HB2 := Lib.hid (HB.out.trans ((B1.trans (b2.mono B1.size)).mono hz))
      clear b2 B1
      go_wp2_with fail
      go_roundw
      case rel => exact ⟨k + 1, by omega, by go_num, HB2.out⟩
      case measure => simp [intOf]; omega
    · obtain rfl : k = j := by omega
      have hb0 := HBD.out
      change Hid (∀ w, Calls Try.prog 56 #[foldV (foAt L k).A (foAt L k).B (foAt L k).P (foAt L k).H] w fun e w' => e = .returned (.int .i64 (foE (foAt L k))) ∧ Below w.heap.size w w') at KC1
      have hb' : (foE (foAt L k) != 0) = true := by rw [bne_iff_ne]; exact hb0
      generalize hce : foE (foAt L k) = ce at *
      have HCE := Lib.hid hce
      clear hce
      have B1 : Below wr.heap.size wr (wr.alloc (.cells #[.int .i64 (foAt L k).A, .int .i64 (foAt L k).B, .int .i64 (foAt L k).P, .float .f32 (foAt L k).H] 74)) := (by repeat (first | with_reducible exact Below.refl _ _ | with_reducible apply Below.drew | with_reducible refine below_drewN ?_ _ | (with_reducible refine Below.setCell ?_ ?_ _; rotate_left; focus (first | omega | (simp <;> omega))) | (with_reducible refine Below.alloc ?_ ?_ _; rotate_left; focus (first | omega | (simp <;> omega)))))
      have HF2 := Lib.hid (hf.below B1 hf.lt)
      have HB2 := Lib.hid (HB.out.trans (B1.mono hz))
      clear hb0 hf B B1
      generalize (foAt L k).A = A at *
      generalize (foAt L k).B = B at *
      generalize (foAt L k).P = P at *
      generalize (foAt L k).H = H at *
      go_wp2_with fail
      generalize hW2 : wr.alloc (.cells #[.int .i64 A, .int .i64 B, .int .i64 P, .float .f32 H] 74) = W2 at *
      clear hW2
      refine (KC1.out _).mono ?_
      rintro e w3 ⟨rfl, b3⟩
      have hf := HF2.out.below b3 HF2.out.lt
      have HB3 := Lib.hid (HB1.out.trans ((HB2.out.trans (b3.mono HB2.out.size)).mono HB1.out.size))
      obtain ⟨d0, d1, d2, d3, d4⟩ := hf.cells
      have qf0 := hf.frozen 0
      have qf1 := hf.frozen 1
      have qf2 := hf.frozen 2
      have qf3 := hf.frozen 3
      have qf4 := hf.frozen 4
      have lz := hf.lt
      clear b3 hf
      go_wp2_with fail
      have B3 := HB3.out
      exact bodyPost_ret (v := .tuple #[fldV 0 0 0 0 none 0 0, .int .i64 ce]) (by simp [results, Try.results144, go_sem, *]) rfl ⟨by rw [HCE.out], (by have hszz := B3.size; repeat (first | with_reducible exact B3 | with_reducible apply Below.drew | with_reducible refine below_drewN ?_ _ | (with_reducible refine Below.setCell ?_ ?_ _; rotate_left; focus (first | omega | (simp <;> omega))) | (with_reducible refine Below.alloc ?_ ?_ _; rotate_left; focus (first | omega | (simp <;> omega)))))⟩

set_option maxRecDepth 100000 in
set_option maxHeartbeats 1000000 in
theorem addall_ok (X Y : Int) (Wn Hn : Nat) (b o c : Nat) (l : List Nat) (L : List FoR) (a : Option Addr) (cap : Nat) (w : World) (hl : SRow w (some ⟨b, o, none⟩) l) (hr : Right X Y Wn Hn l) (hR : FoRow w a L) (hn : L.length ≤ 100)
    (hz : ∀ i, i < L.length → foE (foAt L i) = 0) (S : List Nat) (C : Int)
    (KA : Hid (∀ pl pv W', SRow W' (some ⟨b, o, none⟩) l → FoRow W' a L → Blk W' pl #[.slice a L.length cap] 71 → Blk W' pv #[.func (.func 145) #[] #[]] 147 →
      Calls Try.prog 152 #[fldV X Y Wn Hn (some ⟨b, o, none⟩) l.length c, .func (.func 211) #[] #[.pointer (some ⟨pl, 0, none⟩), .pointer (some ⟨pv, 0, none⟩)]] W' fun e w' => OpP C X Y Wn Hn S W' e w')) :
    Calls Try.prog 144 #[fldV X Y Wn Hn (some ⟨b, o, none⟩) l.length c, .slice a L.length cap, .func (.func 56) #[] #[], .func (.func 145) #[] #[]] w fun e w' => OpP C X Y Wn Hn S w e w' := by
  have K := Lib.hid (fun w h => check_field X Y Wn Hn (some ⟨b, o, none⟩) c l w h)
  rw [hr.chk] at K
  have HL := Lib.hid hl
  have HR := Lib.hid hR
  have HRH := Lib.hid hR.1.2
  have HZ := Lib.hid hz
  clear hl hr hR hz
  go_enter Try.func144, Try.ntmps144
  go_wp2_with fail
  generalize hW0 : (((w.alloc (.cells #[.int .i64 X, .int .i64 Y, .int .i64 Wn, .int .i64 Hn, .slice (some ⟨b, o, none⟩) l.length c] 36)).alloc (.cells #[.slice a L.length cap] 71)).alloc (.cells #[.func (.func 145) #[] #[]] 147)).alloc (.cells #[.int .i64 0, .int .i64 0, .int .i64 0, .int .i64 0, .slice none 0 0] 36) = W0 at *
  obtain ⟨E0, P0, Q0, F0, B0⟩ := box_f2 w X Y Wn Hn (.slice (some ⟨b, o, none⟩) l.length c) #[.slice a L.length cap] 71 #[.func (.func 145) #[] #[]] 147 W0 hW0.symm
  clear hW0
  refine (K.out _ (HL.out.below B0)).mono ?_
  rintro e w1 ⟨rfl, b1⟩
  have HE1 := Lib.hid (E0.below b1 E0.lt)
  have HP1 := Lib.hid (P0.below b1 P0.lt)
  have HQ1 := Lib.hid (Q0.below b1 Q0.lt)
  have HF1 := Lib.hid (F0.below b1 F0.lt)
  have HL1 := Lib.hid ((HL.out.below B0).below b1)
  have HR1 := Lib.hid ((HR.out.below B0).below b1)
  have HB1 := Lib.hid (B0.trans (b1.mono B0.size))
  clear b1 B0 F0 E0 P0 Q0 K HL HR
  have p0 : w1.cell? ⟨w.heap.size + 1, 0, none⟩ = some (.slice a L.length cap) := HP1.out.cell 0
  have l3 : w.heap.size + 1 + 1 + 1 < w1.heap.size := HF1.out.lt
  have l2 : w.heap.size + 1 + 1 < w1.heap.size := by omega
  have l1 : w.heap.size + 1 < w1.heap.size := by omega
  have l0 : w.heap.size < w1.heap.size := by omega
  have g1 : ¬ (100 : Int) < L.length := by omega
  go_wp2_with fail
  go_loopw [26] (fun i wr => ∃ k : Nat, k ≤ L.length ∧ i = .int .i64 k ∧ Below w1.heap.size w1 wr) (fun i _ => L.length - (intOf i).toNat)
  case atStart => exact ⟨0, by omega, rfl, (by repeat (first | with_reducible exact Below.refl _ _ | with_reducible apply Below.drew | with_reducible refine below_drewN ?_ _ | (with_reducible refine Below.setCell ?_ ?_ _; rotate_left; focus (first | omega | (simp <;> omega))) | (with_reducible refine Below.alloc ?_ ?_ _; rotate_left; focus (first | omega | (simp <;> omega)))))⟩
  case round =>
    obtain ⟨k, hk, rfl, B⟩ := hrel
    have HB := Lib.hid B
    by_cases hkj : k < L.length
    · have hlt : k < L.length := by omega
      rcases HR1.out.2 with hnil | ⟨g, og, rfl, hg, hc⟩
      · subst hnil; exact absurd hlt (by simp)
      obtain ⟨h0, h1, h2, h3⟩ := hc k hlt
      have m0 := (B.cell (p := ⟨g, og + k * 4, none⟩) (by simpa using hg)).trans h0
      have m1 := (B.cell (p := ⟨g, og + k * 4 + 1, none⟩) (by simpa using hg)).trans h1
      have m2 := (B.cell (p := ⟨g, og + k * 4 + 2, none⟩) (by simpa using hg)).trans h2
      have m3 := (B.cell (p := ⟨g, og + k * 4 + 3, none⟩) (by simpa using hg)).trans h3
      have hz := B.size
      have KC1 := Lib.hid (fun w => check_fold (foAt L k).A (foAt L k).B (foAt L k).P (foAt L k).H w (HRH.out _ (foAt_mem hlt)))
      have hf := HF1.out.below B HF1.out.lt
      have hfl := hf.lt
      have l5 : g < wr.heap.size := by omega
      clear h0 h1 h2 h3 hg hc
      have hz0 := HZ.out k hkj
      change Hid (∀ w, Calls Try.prog 56 #[foldV (foAt L k).A (foAt L k).B (foAt L k).P (foAt L k).H] w fun e w' => e = .returned (.int .i64 (foE (foAt L k))) ∧ Below w.heap.size w w') at KC1
      rw [hz0] at KC1
      clear hz0 hf hfl B
      generalize (foAt L k).A = A at *
      generalize (foAt L k).B = B at *
      generalize (foAt L k).P = P at *
      generalize (foAt L k).H = H at *
      go_wp2_with fail
      have B1 : Below wr.heap.size wr (wr.alloc (.cells #[.int .i64 A, .int .i64 B, .int .i64 P, .float .f32 H] 74)) := (by repeat (first | with_reducible exact Below.refl _ _ | with_reducible apply Below.drew | with_reducible refine below_drewN ?_ _ | (with_reducible refine Below.setCell ?_ ?_ _; rotate_left; focus (first | omega | (simp <;> omega))) | (with_reducible refine Below.alloc ?_ ?_ _; rotate_left; focus (first | omega | (simp <;> omega)))))
      refine (KC1.out _).mono ?_
      rintro e w2 ⟨rfl, b2⟩
      have HB2 := Lib.hid (HB.out.trans ((B1.trans (b2.mono B1.size)).mono hz))
      clear b2 B1
      go_wp2_with fail
      go_roundw
      case rel => exact ⟨k + 1, by omega, by go_num, HB2.out⟩
      case measure => simp [intOf]; omega
    · obtain rfl : k = L.length := by omega
      have HE2 := Lib.hid (HE1.out.below B HE1.out.lt)
      have HP2 := Lib.hid (HP1.out.below B HP1.out.lt)
      have HQ2 := Lib.hid (HQ1.out.below B HQ1.out.lt)
      have HF2 := Lib.hid (HF1.out.below B HF1.out.lt)
      have HL2 := Lib.hid (HL1.out.below B)
      have HR2 := Lib.hid (HR1.out.below B)
      have HB2 := Lib.hid (HB1.out.trans (B.mono HB1.out.size))
      obtain ⟨c0, c1, c2, c3, c4⟩ := HE2.out.cells
      have l8 := HE2.out.lt
      clear B p0 HE1 HP1 HQ1 HF1 HL1 HR1 HB1 HB HZ HRH l0 l1 l2 l3
      go_wp2_with fail
      refine (KA.out _ _ _ HL2.out HR2.out HP2.out HQ2.out).mono ?_
      rintro e w7 ⟨⟨x, y, p, q, aa, m, kk, rfl, o7⟩, b7⟩
      have HOZ := Lib.hid o7
      have HFZ := Lib.hid (HF2.out.below b7 HF2.out.lt)
      have HBZ := Lib.hid (HB2.out.trans (b7.mono HB2.out.size))
      have HZB : Hid (w.heap.size + 1 + 1 + 1 < wr.heap.size) := HF2.out.lt
      have HBB : Hid (w.heap.size ≤ wr.heap.size) := HB2.out.size
      clear o7 b7 KA HE2 HP2 HQ2 HF2 HL2 HR2 HB2 c0 c1 c2 c3 c4 l8
      generalize a = a0 at *
      generalize aa = a at *
      generalize kk = k at *
      obtain ⟨d0, d1, d2, d3, d4⟩ := HFZ.out.cells
      have qf0 := HFZ.out.frozen 0
      have qf1 := HFZ.out.frozen 1
      have qf2 := HFZ.out.frozen 2
      have qf3 := HFZ.out.frozen 3
      have qf4 := HFZ.out.frozen 4
      have lz := HFZ.out.lt
      go_wp2_with fail
      generalize hW5 : ((((w7.setCell ⟨w.heap.size + 1 + 1 + 1, 0, none⟩ (.int .i64 x)).setCell ⟨w.heap.size + 1 + 1 + 1, 1, none⟩ (.int .i64 y)).setCell ⟨w.heap.size + 1 + 1 + 1, 2, none⟩ (.int .i64 p)).setCell ⟨w.heap.size + 1 + 1 + 1, 3, none⟩ (.int .i64 q)).setCell ⟨w.heap.size + 1 + 1 + 1, 4, none⟩ (.slice a m k) = W5 at *
      obtain ⟨f5, bb5, oo5, _, z5⟩ := fld_store w7 (w.heap.size + 1 + 1 + 1) 0 0 0 0 _ x y p q (.slice a m k) HFZ.out W5 hW5.symm
      have hO5 := (HOZ.out.set oo5 HZB.out).base HBB.out
      have hB5 := HBZ.out.trans (bb5.mono (by omega))
      clear d0 d1 d2 d3 d4 qf0 qf1 qf2 qf3 qf4 hW5 oo5
      obtain ⟨d0, d1, d2, d3, d4⟩ := f5.cells
      exact bodyPost_ret (v := .tuple #[fldV x y p q a m k, .int .i64 C]) (by simp [results, Try.results144, go_sem, *]) rfl ⟨⟨x, y, p, q, a, m, k, rfl, hO5⟩, hB5⟩
end Go.Proofs.Ytnfebeebjelgbaa

namespace Go.Proofs.Ytnfebeebjelgbaa
open Go.ChangeShapes Go.WideShapes Go.ChangeAt Go.RowKit
open Ieee.Format (fin finE htE allFin allHt all_true all_false mulF subF addF Ht Bd divF rootF floorF easeF mixF)
set_option linter.unusedVariables false

theorem foldsF_lt (L : List FoR) (x y : Int) (v : Nat) (h : v < 4294967296) : foldsF L x y v < 4294967296 := sumF_lt _ _ h
theorem folds_at {L : List FoR} (hz : ∀ i, i < L.length → foE (foAt L i) = 0) {X Y x y : Int} {Wn Hn : Nat} {l : List Nat} (hr : Right X Y Wn Hn l) (h1 : X ≤ x) (h2 : x < X + Wn) (h3 : Y ≤ y) (h4 : y < Y + Hn) : ∀ r ∈ L, FoldAt r.A r.B r.P x y ∧ Bd 20 r.H := by
  intro r hm
  obtain ⟨i, hi, rfl⟩ := List.getElem_of_mem hm
  have e : foAt L i = L[i] := by unfold foAt; rw [List.getD_eq_getElem?_getD, List.getElem?_eq_getElem hi]; rfl
  have := hz i hi
  rw [e] at this
  have g1 := hr.w2; have g2 := hr.h2; have g3 := hr.x1; have g4 := hr.x2; have g5 := hr.y1; have g6 := hr.y2
  exact fold_at this (by omega)

set_option maxRecDepth 100000 in
theorem folds_op (X Y : Int) (Wn Hn : Nat) (b o c : Nat) (l : List Nat) (L : List FoR) (a0 : Option Addr) (cap : Nat) (w : World) (C X1 Y1 W1 H1 : Int) (S : List Nat)
    (K : Hid (∀ W', Below w.heap.size w W' → Calls Try.prog 144 #[fldV X Y Wn Hn (some ⟨b, o, none⟩) l.length c, .slice a0 L.length cap, .func (.func 56) #[] #[], .func (.func 145) #[] #[]] W' fun e w' => OpP C X1 Y1 W1 H1 S W' e w')) :
    Calls Try.prog 52 #[fldV X Y Wn Hn (some ⟨b, o, none⟩) l.length c, .slice a0 L.length cap] w fun e w' => OpP C X1 Y1 W1 H1 S w e w' := by
  go_enter Try.func52, Try.ntmps52
  go_wp2_with fail
  generalize hW0 : (w.alloc (.cells #[.int .i64 X, .int .i64 Y, .int .i64 Wn, .int .i64 Hn, .slice (some ⟨b, o, none⟩) l.length c] 36)).alloc (.cells #[.int .i64 0, .int .i64 0, .int .i64 0, .int .i64 0, .slice none 0 0] 36) = W0 at *
  obtain ⟨E0, F0, B0, z0⟩ := two_fields w X Y Wn Hn (.slice (some ⟨b, o, none⟩) l.length c) W0 hW0.symm
  clear hW0
  refine (K.out _ B0).mono ?_
  rintro e w7 ⟨⟨x, y, p, q, a, m, k, rfl, o7⟩, b7⟩
  have HOZ := Lib.hid o7
  have HFZ := Lib.hid (F0.below b7 F0.lt)
  have HBZ := Lib.hid (B0.trans (b7.mono B0.size))
  have HZB : Hid (w.heap.size + 1 < W0.heap.size) := F0.lt
  have HBB : Hid (w.heap.size ≤ W0.heap.size) := B0.size
  clear o7 b7 K E0 F0 B0 z0
  obtain ⟨d0, d1, d2, d3, d4⟩ := HFZ.out.cells
  have qf0 := HFZ.out.frozen 0
  have qf1 := HFZ.out.frozen 1
  have qf2 := HFZ.out.frozen 2
  have qf3 := HFZ.out.frozen 3
  have qf4 := HFZ.out.frozen 4
  have lz := HFZ.out.lt
  go_wp2_with fail
  generalize hW5 : ((((w7.setCell ⟨w.heap.size + 1, 0, none⟩ (.int .i64 x)).setCell ⟨w.heap.size + 1, 1, none⟩ (.int .i64 y)).setCell ⟨w.heap.size + 1, 2, none⟩ (.int .i64 p)).setCell ⟨w.heap.size + 1, 3, none⟩ (.int .i64 q)).setCell ⟨w.heap.size + 1, 4, none⟩ (.slice a m k) = W5 at *
  obtain ⟨f5, bb5, oo5, _, z5⟩ := fld_store w7 (w.heap.size + 1) 0 0 0 0 _ x y p q (.slice a m k) HFZ.out W5 hW5.symm
  have hO5 := (HOZ.out.set oo5 HZB.out).base HBB.out
  have hB5 := HBZ.out.trans (bb5.mono (by omega))
  clear d0 d1 d2 d3 d4 qf0 qf1 qf2 qf3 qf4 hW5 oo5
  obtain ⟨d0, d1, d2, d3, d4⟩ := f5.cells
  exact bodyPost_ret (v := .tuple #[fldV x y p q a m k, .int .i64 C]) (by simp [results, Try.results52, go_sem, *]) rfl ⟨⟨x, y, p, q, a, m, k, rfl, hO5⟩, hB5⟩

set_option maxRecDepth 100000 in
theorem reffolds_large (X Y : Int) (Wn Hn : Nat) (b o c : Nat) (l : List Nat) (L : List FoR) (a : Option Addr) (cap : Nat) (w : World) (hl : SRow w (some ⟨b, o, none⟩) l) (hR : FoRow w a L) (hn : 100 < L.length) :
    Calls Try.prog 53 #[fldV X Y Wn Hn (some ⟨b, o, none⟩) l.length c, .slice a L.length cap] w fun e w' => e = .returned (.tuple #[fldV 0 0 0 0 none 0 0, .int .i64 4]) ∧ Below w.heap.size w w' := by
  have HL := Lib.hid hl
  have HR := Lib.hid hR
  have hm := hR.1.1
  have g1 : (100 : Int) < L.length := by omega
  clear hl hR
  go_enter Try.func53, Try.ntmps53
  go_wp2_with fail
  exact bodyPost_ret (v := .tuple #[fldV 0 0 0 0 none 0 0, .int .i64 4]) (by simp [results, Try.results53, go_sem, *]) rfl ⟨rfl, (by repeat (first | with_reducible exact Below.refl _ _ | with_reducible apply Below.drew | with_reducible refine below_drewN ?_ _ | (with_reducible refine Below.setCell ?_ ?_ _; rotate_left; focus (first | omega | (simp <;> omega))) | (with_reducible refine Below.alloc ?_ ?_ _; rotate_left; focus (first | omega | (simp <;> omega)))))⟩
set_option maxRecDepth 100000 in
set_option maxHeartbeats 1000000 in
theorem reffolds_bad (X Y : Int) (Wn Hn : Nat) (b o c : Nat) (l : List Nat) (L : List FoR) (a : Option Addr) (cap : Nat) (w : World) (hl : SRow w (some ⟨b, o, none⟩) l) (hR : FoRow w a L) (hn : L.length ≤ 100)
    (j : Nat) (hj : j < L.length) (hz : ∀ i, i < j → foE (foAt L i) = 0) (hb : foE (foAt L j) ≠ 0) :
    Calls Try.prog 53 #[fldV X Y Wn Hn (some ⟨b, o, none⟩) l.length c, .slice a L.length cap] w fun e w' => e = .returned (.tuple #[fldV 0 0 0 0 none 0 0, .int .i64 (foE (foAt L j))]) ∧ Below w.heap.size w w' := by
  have HL := Lib.hid hl
  have HR := Lib.hid hR
  have HRH := Lib.hid hR.1.2
  have HZ := Lib.hid hz
  have HBD := Lib.hid hb
  have g1 : ¬ (100 : Int) < L.length := by omega
  clear hl hR hz hb
  go_enter Try.func53, Try.ntmps53
  go_wp2_with fail
  generalize hW0 : ((w.alloc (.cells #[.int .i64 X, .int .i64 Y, .int .i64 Wn, .int .i64 Hn, .slice (some ⟨b, o, none⟩) l.length c] 36)).alloc (.cells #[.slice a L.length cap] 71)).alloc (.cells #[.int .i64 0, .int .i64 0, .int .i64 0, .int .i64 0, .slice none 0 0] 36) = W1 at *
  obtain ⟨E0, P0, F0, B0⟩ := box_fb w X Y Wn Hn (.slice (some ⟨b, o, none⟩) l.length c) #[.slice a L.length cap] 71 W1 hW0.symm
  clear hW0
  have HE1 := Lib.hid E0
  have HP1 := Lib.hid P0
  have HF1 := Lib.hid F0
  have HL1 := Lib.hid (HL.out.below B0)
  have HR1 := Lib.hid (HR.out.below B0)
  have HB1 := Lib.hid B0
  clear B0 F0 E0 P0 HL HR
  have l2 : w.heap.size + 1 + 1 < W1.heap.size := HF1.out.lt
  go_loopw [15] (fun i wr => ∃ k : Nat, k ≤ j ∧ i = .int .i64 k ∧ Below W1.heap.size W1 wr) (fun i _ => L.length - (intOf i).toNat)
  case atStart => exact ⟨0, by omega, rfl, (by repeat (first | with_reducible exact Below.refl _ _ | with_reducible apply Below.drew | with_reducible refine below_drewN ?_ _ | (with_reducible refine Below.setCell ?_ ?_ _; rotate_left; focus (first | omega | (simp <;> omega))) | (with_reducible refine Below.alloc ?_ ?_ _; rotate_left; focus (first | omega | (simp <;> omega)))))⟩
  case round =>
    obtain ⟨k, hk, rfl, B⟩ := hrel
    have HB := Lib.hid B
    have hlt : k < L.length := by omega
    rcases HR1.out.2 with hnil | ⟨g, og, rfl, hg, hc⟩
    · subst hnil; exact absurd hlt (by simp)
    obtain ⟨h0, h1, h2, h3⟩ := hc k hlt
    have m0 := (B.cell (p := ⟨g, og + k * 4, none⟩) (by simpa using hg)).trans h0
    have m1 := (B.cell (p := ⟨g, og + k * 4 + 1, none⟩) (by simpa using hg)).trans h1
    have m2 := (B.cell (p := ⟨g, og + k * 4 + 2, none⟩) (by simpa using hg)).trans h2
    have m3 := (B.cell (p := ⟨g, og + k * 4 + 3, none⟩) (by simpa using hg)).trans h3
    have hz := B.size
    have KC1 := Lib.hid (fun w => refcheck_fold (foAt L k).A (foAt L k).B (foAt L k).P (foAt L k).H w (HRH.out _ (foAt_mem hlt)))
    have hf := HF1.out.below B HF1.out.lt
    have hfl := hf.lt
    have l5 : g < wr.heap.size := by omega
    clear h0 h1 h2 h3 hg hc
    change Hid (∀ w, Calls Try.prog 57 #[foldV (foAt L k).A (foAt L k).B (foAt L k).P (foAt L k).H] w fun e w' => e = .returned (.int .i64 (foE (foAt L k))) ∧ Below w.heap.size w w') at KC1
    by_cases hkj : k < j
    · have hz0 := HZ.out k hkj
      rw [hz0] at KC1
      clear hz0 hf hfl B
      generalize (foAt L k).A = A at *
      generalize (foAt L k).B = B at *
      generalize (foAt L k).P = P at *
      generalize (foAt L k).H = H at *
      go_wp2_with fail
      have B1 : Below wr.heap.size wr (wr.alloc (.cells #[.int .i64 A, .int .i64 B, .int .i64 P, .float .f32 H] 74)) := (by repeat (first | with_reducible exact Below.refl _ _ | with_reducible apply Below.drew | with_reducible refine below_drewN ?_ _ | (with_reducible refine Below.setCell ?_ ?_ _; rotate_left; focus (first | omega | (simp <;> omega))) | (with_reducible refine Below.alloc ?_ ?_ _; rotate_left; focus (first | omega | (simp <;> omega)))))
      refine (KC1.out _).mono ?_
      rintro e w2 ⟨rfl, b2⟩
      have HB2 := Lib.hid (HB.out.trans ((B1.trans (b2.mono B1.size)).mono hz))
      clear b2 B1
      go_wp2_with fail
      go_roundw
      case rel => exact ⟨k + 1, by omega, by go_num, HB2.out⟩
      case measure => simp [intOf]; omega
    · obtain rfl : k = j := by omega
      have hb0 := HBD.out
      have hb' : (foE (foAt L k) != 0) = true := by rw [bne_iff_ne]; exact hb0
      generalize hce : foE (foAt L k) = ce at *
      have HCE := Lib.hid hce
      clear hce
      have B1 : Below wr.heap.size wr (wr.alloc (.cells #[.int .i64 (foAt L k).A, .int .i64 (foAt L k).B, .int .i64 (foAt L k).P, .float .f32 (foAt L k).H] 74)) := (by repeat (first | with_reducible exact Below.refl _ _ | with_reducible apply Below.drew | with_reducible refine below_drewN ?_ _ | (with_reducible refine Below.setCell ?_ ?_ _; rotate_left; focus (first | omega | (simp <;> omega))) | (with_reducible refine Below.alloc ?_ ?_ _; rotate_left; focus (first | omega | (simp <;> omega)))))
      have HF2 := Lib.hid (hf.below B1 hf.lt)
      have HB2 := Lib.hid (HB.out.trans (B1.mono hz))
      clear hb0 hf B B1
      generalize (foAt L k).A = A at *
      generalize (foAt L k).B = B at *
      generalize (foAt L k).P = P at *
      generalize (foAt L k).H = H at *
      go_wp2_with fail
      generalize hW2 : wr.alloc (.cells #[.int .i64 A, .int .i64 B, .int .i64 P, .float .f32 H] 74) = W2 at *
      clear hW2
      refine (KC1.out _).mono ?_
      rintro e w3 ⟨rfl, b3⟩
      have hf := HF2.out.below b3 HF2.out.lt
      have HB3 := Lib.hid (HB1.out.trans ((HB2.out.trans (b3.mono HB2.out.size)).mono HB1.out.size))
      obtain ⟨d0, d1, d2, d3, d4⟩ := hf.cells
      have qf0 := hf.frozen 0
      have qf1 := hf.frozen 1
      have qf2 := hf.frozen 2
      have qf3 := hf.frozen 3
      have qf4 := hf.frozen 4
      have lz := hf.lt
      clear b3 hf
      go_wp2_with fail
      have B3 := HB3.out
      exact bodyPost_ret (v := .tuple #[fldV 0 0 0 0 none 0 0, .int .i64 ce]) (by simp [results, Try.results53, go_sem, *]) rfl ⟨by rw [HCE.out], (by have hszz := B3.size; repeat (first | with_reducible exact B3 | with_reducible apply Below.drew | with_reducible refine below_drewN ?_ _ | (with_reducible refine Below.setCell ?_ ?_ _; rotate_left; focus (first | omega | (simp <;> omega))) | (with_reducible refine Below.alloc ?_ ?_ _; rotate_left; focus (first | omega | (simp <;> omega)))))⟩
set_option maxRecDepth 100000 in
set_option maxHeartbeats 1000000 in
theorem reffolds_ok (X Y : Int) (Wn Hn : Nat) (b o c : Nat) (l : List Nat) (L : List FoR) (a : Option Addr) (cap : Nat) (w : World) (hl : SRow w (some ⟨b, o, none⟩) l) (hR : FoRow w a L) (hn : L.length ≤ 100)
    (hz : ∀ i, i < L.length → foE (foAt L i) = 0) (S : List Nat) (C : Int)
    (KA : Hid (∀ q pl W', SRow W' (some ⟨b, o, none⟩) l → FoRow W' a L → Fld W' q X Y Wn Hn (.slice (some ⟨b, o, none⟩) l.length c) → Blk W' pl #[.slice a L.length cap] 71 →
      Calls Try.prog 105 #[reg X Y Wn Hn, .func (.func 146) #[] #[.pointer (some ⟨q, 0, none⟩), .pointer (some ⟨pl, 0, none⟩)]] W' fun e w' => OpP C X Y Wn Hn S W' e w')) :
    Calls Try.prog 53 #[fldV X Y Wn Hn (some ⟨b, o, none⟩) l.length c, .slice a L.length cap] w fun e w' => OpP C X Y Wn Hn S w e w' := by
  have HL := Lib.hid hl
  have HR := Lib.hid hR
  have HRH := Lib.hid hR.1.2
  have HZ := Lib.hid hz
  have g1 : ¬ (100 : Int) < L.length := by omega
  clear hl hR hz
  go_enter Try.func53, Try.ntmps53
  go_wp2_with fail
  generalize hW0 : ((w.alloc (.cells #[.int .i64 X, .int .i64 Y, .int .i64 Wn, .int .i64 Hn, .slice (some ⟨b, o, none⟩) l.length c] 36)).alloc (.cells #[.slice a L.length cap] 71)).alloc (.cells #[.int .i64 0, .int .i64 0, .int .i64 0, .int .i64 0, .slice none 0 0] 36) = W1 at *
  obtain ⟨E0, P0, F0, B0⟩ := box_fb w X Y Wn Hn (.slice (some ⟨b, o, none⟩) l.length c) #[.slice a L.length cap] 71 W1 hW0.symm
  clear hW0
  have HE1 := Lib.hid E0
  have HP1 := Lib.hid P0
  have HF1 := Lib.hid F0
  have HL1 := Lib.hid (HL.out.below B0)
  have HR1 := Lib.hid (HR.out.below B0)
  have HB1 := Lib.hid B0
  clear B0 F0 E0 P0 HL HR
  have l2 : w.heap.size + 1 + 1 < W1.heap.size := HF1.out.lt
  go_loopw [15] (fun i wr => ∃ k : Nat, k ≤ L.length ∧ i = .int .i64 k ∧ Below W1.heap.size W1 wr) (fun i _ => L.length - (intOf i).toNat)
  case atStart => exact ⟨0, by omega, rfl, (by repeat (first | with_reducible exact Below.refl _ _ | with_reducible apply Below.drew | with_reducible refine below_drewN ?_ _ | (with_reducible refine Below.setCell ?_ ?_ _; rotate_left; focus (first | omega | (simp <;> omega))) | (with_reducible refine Below.alloc ?_ ?_ _; rotate_left; focus (first | omega | (simp <;> omega)))))⟩
  case round =>
    obtain ⟨k, hk, rfl, B⟩ := hrel
    have HB := Lib.hid B
    by_cases hlt : k < L.length
    · rcases HR1.out.2 with hnil | ⟨g, og, rfl, hg, hc⟩
      · subst hnil; exact absurd hlt (by simp)
      obtain ⟨h0, h1, h2, h3⟩ := hc k hlt
      have m0 := (B.cell (p := ⟨g, og + k * 4, none⟩) (by simpa using hg)).trans h0
      have m1 := (B.cell (p := ⟨g, og + k * 4 + 1, none⟩) (by simpa using hg)).trans h1
      have m2 := (B.cell (p := ⟨g, og + k * 4 + 2, none⟩) (by simpa using hg)).trans h2
      have m3 := (B.cell (p := ⟨g, og + k * 4 + 3, none⟩) (by simpa using hg)).trans h3
      have hz := B.size
      have KC1 := Lib.hid (fun w => refcheck_fold (foAt L k).A (foAt L k).B (foAt L k).P (foAt L k).H w (HRH.out _ (foAt_mem hlt)))
      have hf := HF1.out.below B HF1.out.lt
      have hfl := hf.lt
      have l5 : g < wr.heap.size := by omega
      clear h0 h1 h2 h3 hg hc
      change Hid (∀ w, Calls Try.prog 57 #[foldV (foAt L k).A (foAt L k).B (foAt L k).P (foAt L k).H] w fun e w' => e = .returned (.int .i64 (foE (foAt L k))) ∧ Below w.heap.size w w') at KC1
      have hz0 := HZ.out k hlt
      rw [hz0] at KC1
      clear hz0 hf hfl B
      generalize (foAt L k).A = A at *
      generalize (foAt L k).B = B at *
      generalize (foAt L k).P = P at *
      generalize (foAt L k).H = H at *
      go_wp2_with fail
      have B1 : Below wr.heap.size wr (wr.alloc (.cells #[.int .i64 A, .int .i64 B, .int .i64 P, .float .f32 H] 74)) := (by repeat (first | with_reducible exact Below.refl _ _ | with_reducible apply Below.drew | with_reducible refine below_drewN ?_ _ | (with_reducible refine Below.setCell ?_ ?_ _; rotate_left; focus (first | omega | (simp <;> omega))) | (with_reducible refine Below.alloc ?_ ?_ _; rotate_left; focus (first | omega | (simp <;> omega)))))
      refine (KC1.out _).mono ?_
      rintro e w2 ⟨rfl, b2⟩
      have HB2 := Lib.hid (HB.out.trans ((B1.trans (b2.mono B1.size)).mono hz))
      clear b2 B1
      go_wp2_with fail
      go_roundw
      case rel => exact ⟨k + 1, by omega, by go_num, HB2.out⟩
      case measure => simp [intOf]; omega
    · obtain rfl : k = L.length := by omega
      have HE2 := Lib.hid (HE1.out.below B HE1.out.lt)
      have HP2 := Lib.hid (HP1.out.below B HP1.out.lt)
      have HF2 := Lib.hid (HF1.out.below B HF1.out.lt)
      have HL2 := Lib.hid (HL1.out.below B)
      have HR2 := Lib.hid (HR1.out.below B)
      have HB2 := Lib.hid (HB1.out.trans (B.mono HB1.out.size))
      obtain ⟨c0, c1, c2, c3, c4⟩ := HE2.out.cells
      have l8 := HE2.out.lt
      clear B HE1 HP1 HF1 HL1 HR1 HB1 HB HZ HRH l2
      go_wp2_with fail
      refine (KA.out _ _ _ HL2.out HR2.out HE2.out HP2.out).mono ?_
      rintro e w7 ⟨⟨x, y, p, q, aa, m, kk, rfl, o7⟩, b7⟩
      have HOZ := Lib.hid o7
      have HFZ := Lib.hid (HF2.out.below b7 HF2.out.lt)
      have HBZ := Lib.hid (HB2.out.trans (b7.mono HB2.out.size))
      have HZB : Hid (w.heap.size + 1 + 1 < wr.heap.size) := HF2.out.lt
      have HBB : Hid (w.heap.size ≤ wr.heap.size) := HB2.out.size
      clear o7 b7 KA HE2 HP2 HF2 HL2 HR2 HB2 c0 c1 c2 c3 c4 l8
      generalize a = a0 at *
      generalize aa = a at *
      generalize kk = k at *
      obtain ⟨d0, d1, d2, d3, d4⟩ := HFZ.out.cells
      have qf0 := HFZ.out.frozen 0
      have qf1 := HFZ.out.frozen 1
      have qf2 := HFZ.out.frozen 2
      have qf3 := HFZ.out.frozen 3
      have qf4 := HFZ.out.frozen 4
      have lz := HFZ.out.lt
      go_wp2_with fail
      generalize hW5 : ((((w7.setCell ⟨w.heap.size + 1 + 1, 0, none⟩ (.int .i64 x)).setCell ⟨w.heap.size + 1 + 1, 1, none⟩ (.int .i64 y)).setCell ⟨w.heap.size + 1 + 1, 2, none⟩ (.int .i64 p)).setCell ⟨w.heap.size + 1 + 1, 3, none⟩ (.int .i64 q)).setCell ⟨w.heap.size + 1 + 1, 4, none⟩ (.slice a m k) = W5 at *
      obtain ⟨f5, bb5, oo5, _, z5⟩ := fld_store w7 (w.heap.size + 1 + 1) 0 0 0 0 _ x y p q (.slice a m k) HFZ.out W5 hW5.symm
      have hO5 := (HOZ.out.set oo5 HZB.out).base HBB.out
      have hB5 := HBZ.out.trans (bb5.mono (by omega))
      clear d0 d1 d2 d3 d4 qf0 qf1 qf2 qf3 qf4 hW5 oo5
      obtain ⟨d0, d1, d2, d3, d4⟩ := f5.cells
      exact bodyPost_ret (v := .tuple #[fldV x y p q a m k, .int .i64 C]) (by simp [results, Try.results53, go_sem, *]) rfl ⟨⟨x, y, p, q, a, m, k, rfl, hO5⟩, hB5⟩

theorem folds_pair (L : List FoR) (a : Option Addr) (cap : Nat) (X Y : Int) (Wn Hn : Nat) (b o c : Nat) (l : List Nat) (hr : Right X Y Wn Hn l) (hlt : ∀ k, l.getD k 0 < 4294967296) :
    ∃ (C X1 Y1 W1 H1 : Int) (S : List Nat), S.length ≤ 1099511627776 ∧
      (∀ w, SRow w (some ⟨b, o, none⟩) l → FoRow w a L → Calls Try.prog 52 #[fldV X Y Wn Hn (some ⟨b, o, none⟩) l.length c, .slice a L.length cap] w fun e w' => OpP C X1 Y1 W1 H1 S w e w') ∧
      (∀ w, SRow w (some ⟨b, o, none⟩) l → FoRow w a L → Calls Try.prog 53 #[fldV X Y Wn Hn (some ⟨b, o, none⟩) l.length c, .slice a L.length cap] w fun e w' => OpP C X1 Y1 W1 H1 S w e w') := by
  by_cases h1 : 100 < L.length
  · refine ⟨4, 0, 0, 0, 0, [], by simp, fun w hl hR => ?_, fun w hl hR => ?_⟩
    · exact folds_op X Y Wn Hn b o c l L a cap w _ _ _ _ _ _ (fun W' hb => (addall_large X Y Wn Hn b o c l L a cap W' (SRow.below hl hb) hr (hR.below hb) h1).mono fun e w' ⟨a1, a2⟩ => OpP.err (by decide) a1 a2)
    · exact (reffolds_large X Y Wn Hn b o c l L a cap w hl hR h1).mono fun e w' ⟨a1, a2⟩ => OpP.err (by decide) a1 a2
  · rcases all_or_first (fun i => foE (foAt L i) = 0) L.length with hz | ⟨j, hj, hz, hb⟩
    · refine ⟨resC (addL (foldsF L) X Y Wn Hn l), X, Y, Wn, Hn, addL (foldsF L) X Y Wn Hn l, addL_small _ hr, fun w hl hR => ?_, fun w hl hR => ?_⟩
      · refine folds_op X Y Wn Hn b o c l L a cap w _ _ _ _ _ _ (fun W' hb => addall_ok X Y Wn Hn b o c l L a cap W' (SRow.below hl hb) hr (hR.below hb) (by omega) hz _ _ (fun pl pv W2 g1 g2 g3 g4 => ?_))
        exact added_lt 211 #[.pointer (some ⟨pl, 0, none⟩), .pointer (some ⟨pv, 0, none⟩)] (foldsF L) X Y Wn Hn b o c l W2 g1 hr (enters_of Try.func211 (by kernel_rfl) rfl) (fun x y v hv => foldsF_lt L x y v hv)
          (fun x y v h1' h2 h3 h4 h5 _ W3 hb3 => foldsfn_any L a cap x y v pl pv W3 (g2.below hb3) (by omega) (g3.below hb3 g3.lt) (g4.below hb3 g4.lt) (folds_at hz hr h1' h2 h3 h4) h5)
      · refine reffolds_ok X Y Wn Hn b o c l L a cap w hl hR (by omega) hz _ _ (fun q pl W2 g1 g2 g3 g4 => ?_)
        exact made_lt 146 #[.pointer (some ⟨q, 0, none⟩), .pointer (some ⟨pl, 0, none⟩)] (foldsF L) X Y Wn Hn l W2 hr hlt (enters_of Try.func146 (by kernel_rfl) rfl) (fun x y v hv => foldsF_lt L x y v hv)
          (fun x y h1' h2 h3 h4 W3 hb3 => reffoldsfn_any L a cap X Y Wn Hn x y b o c q pl l W3 (SRow.below g1 hb3) hr h1' h2 h3 h4 (g3.below hb3 g3.lt) (g2.below hb3) (by omega) (g4.below hb3 g4.lt) (folds_at hz hr h1' h2 h3 h4))
    · refine ⟨foE (foAt L j), 0, 0, 0, 0, [], by simp, fun w hl hR => ?_, fun w hl hR => ?_⟩
      · exact folds_op X Y Wn Hn b o c l L a cap w _ _ _ _ _ _ (fun W' hb' => (addall_bad X Y Wn Hn b o c l L a cap W' (SRow.below hl hb') hr (hR.below hb') (by omega) j hj hz hb).mono fun e w' ⟨a1, a2⟩ => OpP.err hb a1 a2)
      · exact (reffolds_bad X Y Wn Hn b o c l L a cap w hl hR (by omega) j hj hz hb).mono fun e w' ⟨a1, a2⟩ => OpP.err hb a1 a2
end Go.Proofs.Ytnfebeebjelgbaa

namespace Go.Proofs.Ytnfebeebjelgbaa
open Go.ChangeShapes Go.WideShapes Go.ChangeAt Go.RowKit
open Ieee.Format (fin finE htE allFin allHt all_true all_false mulF subF addF Ht Bd divF rootF floorF easeF mixF)
set_option linter.unusedVariables false
open Ieee.Format (const_1 Hn)
open Go.Deep

structure FaR where
  A : Int
  B : Int
  C : Int
  W : Int
  T : Nat
def faAt (L : List FaR) (i : Nat) : FaR := L.getD i ⟨0, 0, 0, 0, 0⟩
theorem faAt_mem {L : List FaR} {i : Nat} (h : i < L.length) : faAt L i ∈ L := by
  unfold faAt
  rw [List.getD_eq_getElem?_getD, List.getElem?_eq_getElem h]
  exact List.getElem_mem h
/-- a row of faults -/
def FaCells (w : World) (b o : Nat) (L : List FaR) : Prop := ∀ i, i < L.length →
  w.cell? ⟨b, o + i * 5, none⟩ = some (.int .i64 (faAt L i).A) ∧ w.cell? ⟨b, o + i * 5 + 1, none⟩ = some (.int .i64 (faAt L i).B) ∧ w.cell? ⟨b, o + i * 5 + 2, none⟩ = some (.int .i64 (faAt L i).C) ∧ w.cell? ⟨b, o + i * 5 + 3, none⟩ = some (.int .i64 (faAt L i).W) ∧ w.cell? ⟨b, o + i * 5 + 4, none⟩ = some (.float .f32 (faAt L i).T)
def FaRow (w : World) (a : Option Addr) (L : List FaR) : Prop := (L.length ≤ 9223372036854775807 ∧ ∀ r ∈ L, r.T < 4294967296) ∧ (L = [] ∨ ∃ b o, a = some ⟨b, o, none⟩ ∧ b < w.heap.size ∧ FaCells w b o L)
theorem FaCells.below {w w' : World} {B b o : Nat} {L : List FaR} (h : FaCells w b o L) (hb : Below B w w') (hl : b < B) : FaCells w' b o L := by
  intro i hi
  obtain ⟨h0, h1, h2, h3, h4⟩ := h i hi
  exact ⟨by rw [hb.cell (by simpa using hl)]; exact h0, by rw [hb.cell (by simpa using hl)]; exact h1, by rw [hb.cell (by simpa using hl)]; exact h2, by rw [hb.cell (by simpa using hl)]; exact h3, by rw [hb.cell (by simpa using hl)]; exact h4⟩
theorem FaRow.below {w w' : World} {a : Option Addr} {L : List FaR} (h : FaRow w a L) (hb : Below w.heap.size w w') : FaRow w' a L := by
  obtain ⟨h0, h1⟩ := h
  refine ⟨h0, ?_⟩
  rcases h1 with h1 | ⟨b, o, h1, h2, h3⟩
  · exact .inl h1
  · exact .inr ⟨b, o, h1, Nat.lt_of_lt_of_le h2 hb.size, h3.below hb h2⟩

set_option maxRecDepth 100000 in
/-- a slice of faults that came in -/
theorem open_faults {H : Type} {enc : TypeId × Value → H} {W : World} {r : Reach} {b0 : Nat} {v : Value} {d : DataW H} {p : List MemPlace}
    (hv : Value.okWide Try.prog W r b0 92 v) (h : DataW.Trod enc Try.prog W 0 (fun _ => true) true 92 v d p) :
    ∃ (a : Option Addr) (L : List FaR) (cap : Nat), v = .slice a L.length cap ∧ FaRow W a L := by
  obtain ⟨a, len, cap, rfl⟩ := okWide_slice Try.underlying92 hv
  obtain ⟨fuel, hf⟩ := h
  rcases open_slice_fields Try.underlying92 Try.underlying95 (by kernel_rfl) (by kernel_rfl) hf with ⟨hcs, _⟩ | ⟨a', len', cap', m, D, Pl, hcs, _, hl, hm, hmm, _, hc⟩
  · simp [Value.cells] at hcs
    obtain ⟨rfl, rfl, rfl⟩ := hcs
    exact ⟨none, [], 0, rfl, ⟨by simp, by simp⟩, .inl rfl⟩
  · simp [Value.cells] at hcs
    obtain ⟨rfl, rfl, rfl⟩ := hcs
    obtain rfl : m = cap := by simpa using hmm
    unfold maxLen at hm
    have hg : ∀ i, ∃ q : FaR, i < len → (q.T < 4294967296 ∧ W.cell? (a'.add (i * 5 + 0)) = some (.int .i64 q.A) ∧ W.cell? (a'.add (i * 5 + 1)) = some (.int .i64 q.B) ∧ W.cell? (a'.add (i * 5 + 2)) = some (.int .i64 q.C) ∧ W.cell? (a'.add (i * 5 + 3)) = some (.int .i64 q.W) ∧ W.cell? (a'.add (i * 5 + 4)) = some (.float .f32 q.T)) := by
      intro i
      by_cases hi : i < len
      · obtain ⟨ys, n, _, _, _, hq⟩ := hc i (by omega)
        obtain ⟨v0, y0, c0, _, t0⟩ := hq 0 _ rfl
        obtain ⟨v1, y1, c1, _, t1⟩ := hq 1 _ rfl
        obtain ⟨v2, y2, c2, _, t2⟩ := hq 2 _ rfl
        obtain ⟨v3, y3, c3, _, t3⟩ := hq 3 _ rfl
        obtain ⟨v4, y4, c4, _, t4⟩ := hq 4 _ rfl
        obtain ⟨A, e0, _, _⟩ := DataW.trod_int Try.underlying3 t0
        obtain ⟨B, e1, _, _⟩ := DataW.trod_int Try.underlying3 t1
        obtain ⟨C, e2, _, _⟩ := DataW.trod_int Try.underlying3 t2
        obtain ⟨Wd, e3, _, _⟩ := DataW.trod_int Try.underlying3 t3
        obtain ⟨h, rfl, h3⟩ := trod_single t4
        simp only [List.cons.injEq, and_true] at e0 e1 e2 e3
        subst e0 e1 e2 e3
        exact ⟨⟨A, B, C, Wd, h⟩, fun _ => ⟨h3, c0, c1, c2, c3, c4⟩⟩
      · exact ⟨⟨0, 0, 0, 0, 0⟩, fun h => absurd h hi⟩
    obtain ⟨g, hgs⟩ := Classical.axiomOfChoice hg
    have hlen : ((List.range len).map g).length = len := by simp
    refine ⟨some a', (List.range len).map g, m, by rw [hlen], ⟨by rw [hlen]; omega, ?_⟩, ?_⟩
    · intro x hx
      obtain ⟨i, hi, rfl⟩ := List.mem_map.1 hx
      exact (hgs i (List.mem_range.1 hi)).1
    · by_cases h0 : len = 0
      · subst h0; exact .inl rfl
      · right
        obtain ⟨b, off, spot⟩ := a'
        have z := (hgs 0 (by omega)).2.1
        have hspot : spot = none := by simpa [Addr.add] using World.cell?_spot z
        subst hspot
        rw [Go.WideShapes.add_plain] at z
        refine ⟨b, off, rfl, ?_, fun i hi => ?_⟩
        · rcases Nat.lt_or_ge b W.heap.size with hlt | hge
          · exact hlt
          · simp [World.cell?, Array.getElem?_eq_none hge] at z
        · rw [hlen] at hi
          have e : faAt ((List.range len).map g) i = g i := by
            unfold faAt
            simp [List.getD_eq_getElem?_getD, List.getElem?_map, List.getElem?_range hi]
          obtain ⟨_, q0, q1, q2, q3, q4⟩ := hgs i hi
          rw [Go.WideShapes.add_plain] at q0 q1 q2 q3 q4
          rw [e]
          exact ⟨q0, by rw [Nat.add_assoc]; exact q1, by rw [Nat.add_assoc]; exact q2, by rw [Nat.add_assoc]; exact q3, by rw [Nat.add_assoc]; exact q4⟩
end Go.Proofs.Ytnfebeebjelgbaa

namespace Go.Proofs.Ytnfebeebjelgbaa
open Go.ChangeShapes Go.WideShapes Go.ChangeAt Go.RowKit
open Ieee.Format (fin finE htE allFin allHt all_true all_false mulF subF addF Ht Bd divF rootF floorF easeF mixF)
set_option linter.unusedVariables false
open Ieee.Format (const_1)

def throwC (A B C W : Int) (T : Nat) (x y : Int) : Int := if faultE A B C W T ≠ 0 then faultE A B C W T else placeE x y
def throwV (A B C W : Int) (T : Nat) (x y : Int) : Nat := if throwC A B C W T x y ≠ 0 then 0 else throwF T (faultK A B C x y) (faultS A B) W
theorem fault_at {A B C W x y : Int} {T : Nat} (hz : faultE A B C W T = 0) (q : -8388608 ≤ x ∧ x ≤ 8388608 ∧ -8388608 ≤ y ∧ y ≤ 8388608) : FaultAt A B C W x y ∧ Bd 20 T := by
  obtain ⟨a, b, c, w, n, hH⟩ := fault_zero hz
  exact ⟨⟨a, b, c, w, n, ⟨q.1, q.2.1⟩, q.2.2⟩, Ieee.Format.Ht.bd (htE_one hH)⟩

set_option maxRecDepth 100000 in
theorem Throw_any (A B C W : Int) (T : Nat) (x y : Int) (w : World) (hH : T < 4294967296) :
    Calls Try.prog 75 #[faultV A B C W T, .int .i64 x, .int .i64 y] w fun e w' => e = .returned (.tuple #[.float .f32 (throwV A B C W T x y), .int .i64 (throwC A B C W T x y)]) ∧ Below w.heap.size w w' := by
  have KC := Lib.hid (fun w => check_fault A B C W T w hH)
  have KP := Lib.hid (fun w => checkplace_any x y w)
  unfold throwV throwC
  by_cases hz : faultE A B C W T = 0
  · rw [hz] at KC
    rw [if_neg (show ¬ faultE A B C W T ≠ 0 by omega)]
    by_cases hp : placeE x y = 0
    · rw [hp] at KP
      rw [if_neg (show ¬ placeE x y ≠ 0 by omega), hp]
      have q := placeE_zero hp
      obtain ⟨f1, f2⟩ := fault_at hz (x := x) (y := y) (by omega)
      have KL := Lib.hid (fun w => throw_any A B C W T x y w f1 f2)
      clear hH hz hp q f1 f2
      generalize throwF T (faultK A B C x y) (faultS A B) W = z at *
      go_enter Try.func75, Try.ntmps75
      go_wp2_with fail
      generalize hW0 : w.alloc (.cells #[.int .i64 A, .int .i64 B, .int .i64 C, .int .i64 W, .float .f32 T] 95) = W0 at *
      have P0 : Blk W0 w.heap.size #[.int .i64 A, .int .i64 B, .int .i64 C, .int .i64 W, .float .f32 T] 95 := by subst hW0; exact Blk.new _ _ _
      have B0 : Below w.heap.size w W0 := by subst hW0; exact (by repeat (first | with_reducible exact Below.refl _ _ | with_reducible apply Below.drew | with_reducible refine below_drewN ?_ _ | (with_reducible refine Below.setCell ?_ ?_ _; rotate_left; focus (first | omega | (simp <;> omega))) | (with_reducible refine Below.alloc ?_ ?_ _; rotate_left; focus (first | omega | (simp <;> omega)))))
      clear hW0
      refine (KC.out _).mono ?_
      rintro e w1 ⟨rfl, b1⟩
      have HP1 := Lib.hid (P0.below b1 P0.lt)
      have HB1 := Lib.hid (B0.trans (b1.mono B0.size))
      clear b1 P0 B0 KC
      have t0 : w1.cell? ⟨w.heap.size, 0, none⟩ = some (.int .i64 A) := HP1.out.cell 0
      have t1 : w1.cell? ⟨w.heap.size, 1, none⟩ = some (.int .i64 B) := HP1.out.cell 1
      have t2 : w1.cell? ⟨w.heap.size, 2, none⟩ = some (.int .i64 C) := HP1.out.cell 2
      have t3 : w1.cell? ⟨w.heap.size, 3, none⟩ = some (.int .i64 W) := HP1.out.cell 3
      have t4 : w1.cell? ⟨w.heap.size, 4, none⟩ = some (.float .f32 T) := HP1.out.cell 4
      have l0 : w.heap.size < w1.heap.size := HP1.out.lt
      go_wp2_with fail
      refine (KP.out _).mono ?_
      rintro e w2 ⟨rfl, rfl⟩
      go_wp2_with fail
      refine (KL.out _).mono ?_
      rintro e w3 ⟨rfl, b3⟩
      have HB3 := Lib.hid (HB1.out.trans (b3.mono HB1.out.size))
      clear b3
      go_wp2_with fail
      have B3 := HB3.out
      exact bodyPost_ret (v := .tuple #[.float .f32 z, .int .i64 0]) (by simp [results, Try.results75, go_sem, *]) rfl ⟨rfl, (by have hszz := B3.size; repeat (first | with_reducible exact B3 | with_reducible apply Below.drew | with_reducible refine below_drewN ?_ _ | (with_reducible refine Below.setCell ?_ ?_ _; rotate_left; focus (first | omega | (simp <;> omega))) | (with_reducible refine Below.alloc ?_ ?_ _; rotate_left; focus (first | omega | (simp <;> omega)))))⟩
    · rw [if_pos (show placeE x y ≠ 0 from hp)]
      have hb' : (placeE x y != 0) = true := by rw [bne_iff_ne]; exact hp
      generalize placeE x y = a at *
      clear hH hz hp
      go_enter Try.func75, Try.ntmps75
      go_wp2_with fail
      generalize hW0 : w.alloc (.cells #[.int .i64 A, .int .i64 B, .int .i64 C, .int .i64 W, .float .f32 T] 95) = W0 at *
      have P0 : Blk W0 w.heap.size #[.int .i64 A, .int .i64 B, .int .i64 C, .int .i64 W, .float .f32 T] 95 := by subst hW0; exact Blk.new _ _ _
      have B0 : Below w.heap.size w W0 := by subst hW0; exact (by repeat (first | with_reducible exact Below.refl _ _ | with_reducible apply Below.drew | with_reducible refine below_drewN ?_ _ | (with_reducible refine Below.setCell ?_ ?_ _; rotate_left; focus (first | omega | (simp <;> omega))) | (with_reducible refine Below.alloc ?_ ?_ _; rotate_left; focus (first | omega | (simp <;> omega)))))
      clear hW0
      refine (KC.out _).mono ?_
      rintro e w1 ⟨rfl, b1⟩
      have HP1 := Lib.hid (P0.below b1 P0.lt)
      have HB1 := Lib.hid (B0.trans (b1.mono B0.size))
      clear b1 P0 B0 KC
      have t0 : w1.cell? ⟨w.heap.size, 0, none⟩ = some (.int .i64 A) := HP1.out.cell 0
      have t1 : w1.cell? ⟨w.heap.size, 1, none⟩ = some (.int .i64 B) := HP1.out.cell 1
      have t2 : w1.cell? ⟨w.heap.size, 2, none⟩ = some (.int .i64 C) := HP1.out.cell 2
      have t3 : w1.cell? ⟨w.heap.size, 3, none⟩ = some (.int .i64 W) := HP1.out.cell 3
      have t4 : w1.cell? ⟨w.heap.size, 4, none⟩ = some (.float .f32 T) := HP1.out.cell 4
      have l0 : w.heap.size < w1.heap.size := HP1.out.lt
      go_wp2_with fail
      refine (KP.out _).mono ?_
      rintro e w2 ⟨rfl, rfl⟩
      go_wp2_with fail
      have B3 := HB1.out
      exact bodyPost_ret (v := .tuple #[.float .f32 0, .int .i64 a]) (by simp [results, Try.results75, go_sem, *]) rfl ⟨rfl, (by have hszz := B3.size; repeat (first | with_reducible exact B3 | with_reducible apply Below.drew | with_reducible refine below_drewN ?_ _ | (with_reducible refine Below.setCell ?_ ?_ _; rotate_left; focus (first | omega | (simp <;> omega))) | (with_reducible refine Below.alloc ?_ ?_ _; rotate_left; focus (first | omega | (simp <;> omega)))))⟩
  · rw [if_pos (show faultE A B C W T ≠ 0 from hz), if_pos hz]
    have hb' : (faultE A B C W T != 0) = true := by rw [bne_iff_ne]; exact hz
    generalize faultE A B C W T = a at *
    clear hH hz
    go_enter Try.func75, Try.ntmps75
    go_wp2_with fail
    generalize hW0 : w.alloc (.cells #[.int .i64 A, .int .i64 B, .int .i64 C, .int .i64 W, .float .f32 T] 95) = W0 at *
    have P0 : Blk W0 w.heap.size #[.int .i64 A, .int .i64 B, .int .i64 C, .int .i64 W, .float .f32 T] 95 := by subst hW0; exact Blk.new _ _ _
    have B0 : Below w.heap.size w W0 := by subst hW0; exact (by repeat (first | with_reducible exact Below.refl _ _ | with_reducible apply Below.drew | with_reducible refine below_drewN ?_ _ | (with_reducible refine Below.setCell ?_ ?_ _; rotate_left; focus (first | omega | (simp <;> omega))) | (with_reducible refine Below.alloc ?_ ?_ _; rotate_left; focus (first | omega | (simp <;> omega)))))
    clear hW0
    refine (KC.out _).mono ?_
    rintro e w1 ⟨rfl, b1⟩
    have HP1 := Lib.hid (P0.below b1 P0.lt)
    have HB1 := Lib.hid (B0.trans (b1.mono B0.size))
    clear b1 P0 B0 KC
    have t0 : w1.cell? ⟨w.heap.size, 0, none⟩ = some (.int .i64 A) := HP1.out.cell 0
    have t1 : w1.cell? ⟨w.heap.size, 1, none⟩ = some (.int .i64 B) := HP1.out.cell 1
    have t2 : w1.cell? ⟨w.heap.size, 2, none⟩ = some (.int .i64 C) := HP1.out.cell 2
    have t3 : w1.cell? ⟨w.heap.size, 3, none⟩ = some (.int .i64 W) := HP1.out.cell 3
    have t4 : w1.cell? ⟨w.heap.size, 4, none⟩ = some (.float .f32 T) := HP1.out.cell 4
    have l0 : w.heap.size < w1.heap.size := HP1.out.lt
    go_wp2_with fail
    have B3 := HB1.out
    exact bodyPost_ret (v := .tuple #[.float .f32 0, .int .i64 a]) (by simp [results, Try.results75, go_sem, *]) rfl ⟨rfl, (by have hszz := B3.size; repeat (first | with_reducible exact B3 | with_reducible apply Below.drew | with_reducible refine below_drewN ?_ _ | (with_reducible refine Below.setCell ?_ ?_ _; rotate_left; focus (first | omega | (simp <;> omega))) | (with_reducible refine Below.alloc ?_ ?_ _; rotate_left; focus (first | omega | (simp <;> omega)))))⟩
set_option maxRecDepth 100000 in
theorem refThrow_any (A B C W : Int) (T : Nat) (x y : Int) (w : World) (hH : T < 4294967296) :
    Calls Try.prog 76 #[faultV A B C W T, .int .i64 x, .int .i64 y] w fun e w' => e = .returned (.tuple #[.float .f32 (throwV A B C W T x y), .int .i64 (throwC A B C W T x y)]) ∧ Below w.heap.size w w' := by
  have KC := Lib.hid (fun w => refcheck_fault A B C W T w hH)
  have KP := Lib.hid (fun w => placeerr_any x y w)
  unfold throwV throwC
  by_cases hz : faultE A B C W T = 0
  · rw [hz] at KC
    rw [if_neg (show ¬ faultE A B C W T ≠ 0 by omega)]
    by_cases hp : placeE x y = 0
    · rw [hp] at KP
      rw [if_neg (show ¬ placeE x y ≠ 0 by omega), hp]
      have q := placeE_zero hp
      obtain ⟨f1, f2⟩ := fault_at hz (x := x) (y := y) (by omega)
      have KL := Lib.hid (fun w => refthrow_any A B C W T x y w f1 f2)
      clear hH hz hp q f1 f2
      generalize throwF T (faultK A B C x y) (faultS A B) W = z at *
      go_enter Try.func76, Try.ntmps76
      go_wp2_with fail
      generalize hW0 : w.alloc (.cells #[.int .i64 A, .int .i64 B, .int .i64 C, .int .i64 W, .float .f32 T] 95) = W0 at *
      have P0 : Blk W0 w.heap.size #[.int .i64 A, .int .i64 B, .int .i64 C, .int .i64 W, .float .f32 T] 95 := by subst hW0; exact Blk.new _ _ _
      have B0 : Below w.heap.size w W0 := by subst hW0; exact (by repeat (first | with_reducible exact Below.refl _ _ | with_reducible apply Below.drew | with_reducible refine below_drewN ?_ _ | (with_reducible refine Below.setCell ?_ ?_ _; rotate_left; focus (first | omega | (simp <;> omega))) | (with_reducible refine Below.alloc ?_ ?_ _; rotate_left; focus (first | omega | (simp <;> omega)))))
      clear hW0
      refine (KC.out _).mono ?_
      rintro e w1 ⟨rfl, b1⟩
      have HP1 := Lib.hid (P0.below b1 P0.lt)
      have HB1 := Lib.hid (B0.trans (b1.mono B0.size))
      clear b1 P0 B0 KC
      have t0 : w1.cell? ⟨w.heap.size, 0, none⟩ = some (.int .i64 A) := HP1.out.cell 0
      have t1 : w1.cell? ⟨w.heap.size, 1, none⟩ = some (.int .i64 B) := HP1.out.cell 1
      have t2 : w1.cell? ⟨w.heap.size, 2, none⟩ = some (.int .i64 C) := HP1.out.cell 2
      have t3 : w1.cell? ⟨w.heap.size, 3, none⟩ = some (.int .i64 W) := HP1.out.cell 3
      have t4 : w1.cell? ⟨w.heap.size, 4, none⟩ = some (.float .f32 T) := HP1.out.cell 4
      have l0 : w.heap.size < w1.heap.size := HP1.out.lt
      go_wp2_with fail
      refine (KP.out _).mono ?_
      rintro e w2 ⟨rfl, rfl⟩
      go_wp2_with fail
      refine (KL.out _).mono ?_
      rintro e w3 ⟨rfl, b3⟩
      have HB3 := Lib.hid (HB1.out.trans (b3.mono HB1.out.size))
      clear b3
      go_wp2_with fail
      have B3 := HB3.out
      exact bodyPost_ret (v := .tuple #[.float .f32 z, .int .i64 0]) (by simp [results, Try.results76, go_sem, *]) rfl ⟨rfl, (by have hszz := B3.size; repeat (first | with_reducible exact B3 | with_reducible apply Below.drew | with_reducible refine below_drewN ?_ _ | (with_reducible refine Below.setCell ?_ ?_ _; rotate_left; focus (first | omega | (simp <;> omega))) | (with_reducible refine Below.alloc ?_ ?_ _; rotate_left; focus (first | omega | (simp <;> omega)))))⟩
    · rw [if_pos (show placeE x y ≠ 0 from hp)]
      have hb' : (placeE x y != 0) = true := by rw [bne_iff_ne]; exact hp
      generalize placeE x y = a at *
      clear hH hz hp
      go_enter Try.func76, Try.ntmps76
      go_wp2_with fail
      generalize hW0 : w.alloc (.cells #[.int .i64 A, .int .i64 B, .int .i64 C, .int .i64 W, .float .f32 T] 95) = W0 at *
      have P0 : Blk W0 w.heap.size #[.int .i64 A, .int .i64 B, .int .i64 C, .int .i64 W, .float .f32 T] 95 := by subst hW0; exact Blk.new _ _ _
      have B0 : Below w.heap.size w W0 := by subst hW0; exact (by repeat (first | with_reducible exact Below.refl _ _ | with_reducible apply Below.drew | with_reducible refine below_drewN ?_ _ | (with_reducible refine Below.setCell ?_ ?_ _; rotate_left; focus (first | omega | (simp <;> omega))) | (with_reducible refine Below.alloc ?_ ?_ _; rotate_left; focus (first | omega | (simp <;> omega)))))
      clear hW0
      refine (KC.out _).mono ?_
      rintro e w1 ⟨rfl, b1⟩
      have HP1 := Lib.hid (P0.below b1 P0.lt)
      have HB1 := Lib.hid (B0.trans (b1.mono B0.size))
      clear b1 P0 B0 KC
      have t0 : w1.cell? ⟨w.heap.size, 0, none⟩ = some (.int .i64 A) := HP1.out.cell 0
      have t1 : w1.cell? ⟨w.heap.size, 1, none⟩ = some (.int .i64 B) := HP1.out.cell 1
      have t2 : w1.cell? ⟨w.heap.size, 2, none⟩ = some (.int .i64 C) := HP1.out.cell 2
      have t3 : w1.cell? ⟨w.heap.size, 3, none⟩ = some (.int .i64 W) := HP1.out.cell 3
      have t4 : w1.cell? ⟨w.heap.size, 4, none⟩ = some (.float .f32 T) := HP1.out.cell 4
      have l0 : w.heap.size < w1.heap.size := HP1.out.lt
      go_wp2_with fail
      refine (KP.out _).mono ?_
      rintro e w2 ⟨rfl, rfl⟩
      go_wp2_with fail
      have B3 := HB1.out
      exact bodyPost_ret (v := .tuple #[.float .f32 0, .int .i64 a]) (by simp [results, Try.results76, go_sem, *]) rfl ⟨rfl, (by have hszz := B3.size; repeat (first | with_reducible exact B3 | with_reducible apply Below.drew | with_reducible refine below_drewN ?_ _ | (with_reducible refine Below.setCell ?_ ?_ _; rotate_left; focus (first | omega | (simp <;> omega))) | (with_reducible refine Below.alloc ?_ ?_ _; rotate_left; focus (first | omega | (simp <;> omega)))))⟩
  · rw [if_pos (show faultE A B C W T ≠ 0 from hz), if_pos hz]
    have hb' : (faultE A B C W T != 0) = true := by rw [bne_iff_ne]; exact hz
    generalize faultE A B C W T = a at *
    clear hH hz
    go_enter Try.func76, Try.ntmps76
    go_wp2_with fail
    generalize hW0 : w.alloc (.cells #[.int .i64 A, .int .i64 B, .int .i64 C, .int .i64 W, .float .f32 T] 95) = W0 at *
    have P0 : Blk W0 w.heap.size #[.int .i64 A, .int .i64 B, .int .i64 C, .int .i64 W, .float .f32 T] 95 := by subst hW0; exact Blk.new _ _ _
    have B0 : Below w.heap.size w W0 := by subst hW0; exact (by repeat (first | with_reducible exact Below.refl _ _ | with_reducible apply Below.drew | with_reducible refine below_drewN ?_ _ | (with_reducible refine Below.setCell ?_ ?_ _; rotate_left; focus (first | omega | (simp <;> omega))) | (with_reducible refine Below.alloc ?_ ?_ _; rotate_left; focus (first | omega | (simp <;> omega)))))
    clear hW0
    refine (KC.out _).mono ?_
    rintro e w1 ⟨rfl, b1⟩
    have HP1 := Lib.hid (P0.below b1 P0.lt)
    have HB1 := Lib.hid (B0.trans (b1.mono B0.size))
    clear b1 P0 B0 KC
    have t0 : w1.cell? ⟨w.heap.size, 0, none⟩ = some (.int .i64 A) := HP1.out.cell 0
    have t1 : w1.cell? ⟨w.heap.size, 1, none⟩ = some (.int .i64 B) := HP1.out.cell 1
    have t2 : w1.cell? ⟨w.heap.size, 2, none⟩ = some (.int .i64 C) := HP1.out.cell 2
    have t3 : w1.cell? ⟨w.heap.size, 3, none⟩ = some (.int .i64 W) := HP1.out.cell 3
    have t4 : w1.cell? ⟨w.heap.size, 4, none⟩ = some (.float .f32 T) := HP1.out.cell 4
    have l0 : w.heap.size < w1.heap.size := HP1.out.lt
    go_wp2_with fail
    have B3 := HB1.out
    exact bodyPost_ret (v := .tuple #[.float .f32 0, .int .i64 a]) (by simp [results, Try.results76, go_sem, *]) rfl ⟨rfl, (by have hszz := B3.size; repeat (first | with_reducible exact B3 | with_reducible apply Below.drew | with_reducible refine below_drewN ?_ _ | (with_reducible refine Below.setCell ?_ ?_ _; rotate_left; focus (first | omega | (simp <;> omega))) | (with_reducible refine Below.alloc ?_ ?_ _; rotate_left; focus (first | omega | (simp <;> omega)))))⟩
end Go.Proofs.Ytnfebeebjelgbaa

namespace Go.Proofs.Ytnfebeebjelgbaa
open Go.ChangeShapes Go.WideShapes Go.ChangeAt Go.RowKit
open Ieee.Format (fin finE htE allFin allHt all_true all_false mulF subF addF Ht Bd divF rootF floorF easeF mixF)
set_option linter.unusedVariables false
open Ieee.Format (Hn)

/-- what a list of folds makes of a value -/
def faultsF (L : List FaR) (x y : Int) (v : Nat) : Nat := sumF (fun r => throwF r.T (faultK r.A r.B r.C x y) (faultS r.A r.B) r.W) v L

set_option maxRecDepth 100000 in
set_option maxHeartbeats 1000000 in
theorem faultsfn_any (L : List FaR) (a : Option Addr) (cap : Nat) (x y : Int) (v pl pv : Nat) (w : World) (hr : FaRow w a L) (hn : L.length ≤ 100) (hpl : Blk w pl #[.slice a L.length cap] 92)
    (hpv : Blk w pv #[.func (.func 179) #[] #[]] 166) (hat : ∀ r ∈ L, FaultAt r.A r.B r.C r.W x y ∧ Bd 20 r.T) (hv : Bd 20 v) :
    Calls Try.prog 217 #[.int .i64 x, .int .i64 y, .float .f32 v, .pointer (some ⟨pl, 0, none⟩), .pointer (some ⟨pv, 0, none⟩)] w fun e w' => e = .returned (.float .f32 (faultsF L x y v)) ∧ Below w.heap.size w w' := by
  have q0 : w.cell? ⟨pl, 0, none⟩ = some (.slice a L.length cap) := hpl.cell 0
  have q1 : w.cell? ⟨pv, 0, none⟩ = some (.func (.func 179) #[] #[]) := hpv.cell 0
  have l0 := hpl.lt
  have l1 := hpv.lt
  have KL := Lib.hid (fun i (hi : i < L.length) w => throw_any (faAt L i).A (faAt L i).B (faAt L i).C (faAt L i).W (faAt L i).T x y w (hat _ (faAt_mem hi)).1 (hat _ (faAt_mem hi)).2)
  have KS := Lib.hid (fun i (hi : i < L.length) => sumF_step (φ := fun r : FaR => throwF r.T (faultK r.A r.B r.C x y) (faultS r.A r.B) r.W) hv (by omega) (fun r hr => throw_bd (hat r hr).2 (hat r hr).1.ok) (⟨0, 0, 0, 0, 0⟩ : FaR) hi)
  have H0 : Hid (faultsF L x y v = sumF (fun r : FaR => throwF r.T (faultK r.A r.B r.C x y) (faultS r.A r.B) r.W) v (L.take L.length)) := by rw [List.take_length]; exact rfl
  have Hs0 : Hid (sumF (fun r : FaR => throwF r.T (faultK r.A r.B r.C x y) (faultS r.A r.B) r.W) v (L.take 0) = v) := rfl
  rw [H0.out]
  have HR := Lib.hid hr.2
  clear hpl hpv hat hv hr H0
  go_enter Try.func217, Try.ntmps217
  go_wp2_with fail
  go_loopw [2, 13] (fun acc i wr => ∃ k : Nat, k ≤ L.length ∧ i = .int .i64 k ∧ acc = .float .f32 (sumF (fun r : FaR => throwF r.T (faultK r.A r.B r.C x y) (faultS r.A r.B) r.W) v (L.take k)) ∧ Below w.heap.size w wr) (fun _ i _ => L.length - (intOf i).toNat)
  case atStart => exact ⟨0, by omega, rfl, by rw [Hs0.out], (by repeat (first | with_reducible exact Below.refl _ _ | with_reducible apply Below.drew | with_reducible refine below_drewN ?_ _ | (with_reducible refine Below.setCell ?_ ?_ _; rotate_left; focus (first | omega | (simp <;> omega))) | (with_reducible refine Below.alloc ?_ ?_ _; rotate_left; focus (first | omega | (simp <;> omega)))))⟩
  case round =>
    obtain ⟨k, hk, rfl, rfl, B⟩ := hrel
    have HB := Lib.hid B
    by_cases hlt : k < L.length
    · rcases HR.out with hnil | ⟨b, o, rfl, hb, hc⟩
      · subst hnil; exact absurd hlt (by simp)
      have KL1 := Lib.hid (KL.out k hlt)
      obtain ⟨s1, s2, s3, s4⟩ := KS.out k hlt
      have KL2 : Hid (∀ w, Calls Try.prog 179 #[faultV (faAt L k).A (faAt L k).B (faAt L k).C (faAt L k).W (faAt L k).T, .int .i64 x, .int .i64 y] w fun e w' => e = .returned (.float .f32 (throwF (L.getD k ⟨0, 0, 0, 0, 0⟩).T (faultK (L.getD k ⟨0, 0, 0, 0, 0⟩).A (L.getD k ⟨0, 0, 0, 0, 0⟩).B (L.getD k ⟨0, 0, 0, 0, 0⟩).C x y) (faultS (L.getD k ⟨0, 0, 0, 0, 0⟩).A (L.getD k ⟨0, 0, 0, 0, 0⟩).B) (L.getD k ⟨0, 0, 0, 0, 0⟩).W)) ∧ Below w.heap.size w w') := KL1
      have k1 := fun w' => run_float_arith (P := Try.prog) w' .add 37 .f32 _ _ _ (Ieee.Format.bits_add s1 s2)
      rw [← s4] at k1
      clear s1 s2 s3 s4 KL1
      obtain ⟨h0, h1, h2, h3, h4⟩ := hc k hlt
      have m0 := (B.cell (p := ⟨b, o + k * 5, none⟩) (by simpa using hb)).trans h0
      have m1 := (B.cell (p := ⟨b, o + k * 5 + 1, none⟩) (by simpa using hb)).trans h1
      have m2 := (B.cell (p := ⟨b, o + k * 5 + 2, none⟩) (by simpa using hb)).trans h2
      have m3 := (B.cell (p := ⟨b, o + k * 5 + 3, none⟩) (by simpa using hb)).trans h3
      have m4 := (B.cell (p := ⟨b, o + k * 5 + 4, none⟩) (by simpa using hb)).trans h4
      have c0 := (B.cell (p := ⟨pl, 0, none⟩) (by simpa using l0)).trans q0
      have c1 := (B.cell (p := ⟨pv, 0, none⟩) (by simpa using l1)).trans q1
      have hz := B.size
      have l3 : pl < wr.heap.size := by omega
      have l4 : pv < wr.heap.size := by omega
      have l5 : b < wr.heap.size := by omega
      clear h0 h1 h2 h3 h4 hb hc B hk
      generalize hz1 : sumF (fun r : FaR => throwF r.T (faultK r.A r.B r.C x y) (faultS r.A r.B) r.W) v (L.take (k + 1)) = z1 at *
      have HZ1 := Lib.hid hz1
      clear hz1
      generalize sumF (fun r : FaR => throwF r.T (faultK r.A r.B r.C x y) (faultS r.A r.B) r.W) v (L.take k) = z0 at *
      generalize throwF (L.getD k ⟨0, 0, 0, 0, 0⟩).T (faultK (L.getD k ⟨0, 0, 0, 0, 0⟩).A (L.getD k ⟨0, 0, 0, 0, 0⟩).B (L.getD k ⟨0, 0, 0, 0, 0⟩).C x y) (faultS (L.getD k ⟨0, 0, 0, 0, 0⟩).A (L.getD k ⟨0, 0, 0, 0, 0⟩).B) (L.getD k ⟨0, 0, 0, 0, 0⟩).W = z2 at *
      generalize (faAt L k).A = fA at *
      generalize (faAt L k).B = fB at *
      generalize (faAt L k).C = fC at *
      generalize (faAt L k).W = fW at *
      generalize (faAt L k).T = fT at *
      go_wp2_with fail
      have B1 : Below wr.heap.size wr (wr.alloc (.cells #[.int .i64 fA, .int .i64 fB, .int .i64 fC, .int .i64 fW, .float .f32 fT] 95)) := (by repeat (first | with_reducible exact Below.refl _ _ | with_reducible apply Below.drew | with_reducible refine below_drewN ?_ _ | (with_reducible refine Below.setCell ?_ ?_ _; rotate_left; focus (first | omega | (simp <;> omega))) | (with_reducible refine Below.alloc ?_ ?_ _; rotate_left; focus (first | omega | (simp <;> omega)))))
      refine (KL2.out _).mono ?_
      rintro e w2 ⟨rfl, b2⟩
      have HB2 := Lib.hid (HB.out.trans ((B1.trans (b2.mono B1.size)).mono hz))
      clear b2 B1
      go_wp2_with fail
      go_roundw
      case rel => exact ⟨k + 1, by omega, by go_num, by rw [HZ1.out], HB2.out⟩
      case measure => simp [intOf]; omega
    · obtain rfl : k = L.length := by omega
      go_wp2_with fail
      go_ret
      exact ⟨rfl, HB.out⟩

set_option maxRecDepth 100000 in
set_option maxHeartbeats 1000000 in
theorem reffaultsfn_any (L : List FaR) (a : Option Addr) (cap : Nat) (X0 Y0 : Int) (Wn Hn : Nat) (x y : Int) (bf of c q pl : Nat) (l : List Nat) (w : World) (hl : SRow w (some ⟨bf, of, none⟩) l) (hrt : Right X0 Y0 Wn Hn l) (hx : X0 ≤ x) (hx' : x < X0 + Wn) (hy : Y0 ≤ y) (hy' : y < Y0 + Hn)
    (hq : Fld w q X0 Y0 Wn Hn (.slice (some ⟨bf, of, none⟩) l.length c)) (hr : FaRow w a L) (hn : L.length ≤ 100) (hpl : Blk w pl #[.slice a L.length cap] 92) (hat : ∀ r ∈ L, FaultAt r.A r.B r.C r.W x y ∧ Bd 20 r.T) :
    Calls Try.prog 180 #[.int .i64 x, .int .i64 y, .pointer (some ⟨q, 0, none⟩), .pointer (some ⟨pl, 0, none⟩)] w fun e w' => e = .returned (.float .f32 (faultsF L x y (l.getD (cellNo X0 Y0 Wn x y).toNat 0))) ∧ Below w.heap.size w w' := by
  have KA := Lib.hid (fun w hl => at_right X0 Y0 Wn Hn x y bf of c l w hl hrt hx hx' hy hy')
  have hv := hrt.bd (cellNo X0 Y0 Wn x y).toNat
  have HL := Lib.hid hl
  generalize l.getD (cellNo X0 Y0 Wn x y).toNat 0 = v at *
  have q0 : w.cell? ⟨pl, 0, none⟩ = some (.slice a L.length cap) := hpl.cell 0
  have l0 := hpl.lt
  have l1 := hq.lt
  obtain ⟨c0, c1, c2, c3, c4⟩ := hq.cells
  have KL := Lib.hid (fun i (hi : i < L.length) w => refthrow_any (faAt L i).A (faAt L i).B (faAt L i).C (faAt L i).W (faAt L i).T x y w (hat _ (faAt_mem hi)).1 (hat _ (faAt_mem hi)).2)
  have KS := Lib.hid (fun i (hi : i < L.length) => sumF_step (φ := fun r : FaR => throwF r.T (faultK r.A r.B r.C x y) (faultS r.A r.B) r.W) hv (by omega) (fun r hr => throw_bd (hat r hr).2 (hat r hr).1.ok) (⟨0, 0, 0, 0, 0⟩ : FaR) hi)
  have H0 : Hid (faultsF L x y v = sumF (fun r : FaR => throwF r.T (faultK r.A r.B r.C x y) (faultS r.A r.B) r.W) v (L.take L.length)) := by rw [List.take_length]; exact rfl
  have Hs0 : Hid (sumF (fun r : FaR => throwF r.T (faultK r.A r.B r.C x y) (faultS r.A r.B) r.W) v (L.take 0) = v) := rfl
  rw [H0.out]
  have HR := Lib.hid hr.2
  clear hpl hat hv hr H0 hl hrt hq hx hx' hy hy'
  go_enter Try.func180, Try.ntmps180
  go_wp2_with fail
  refine (KA.out _ HL.out).mono ?_
  rintro e w1 ⟨rfl, b1⟩
  have HB1 := Lib.hid b1
  have r0 := (b1.cell (p := ⟨pl, 0, none⟩) (by simpa using l0)).trans q0
  have l2 : pl < w1.heap.size := Nat.lt_of_lt_of_le l0 b1.size
  clear b1 c0 c1 c2 c3 c4 l1 KA HL
  go_wp2_with fail
  clear r0 l2
  go_loopw [7, 16] (fun acc i wr => ∃ k : Nat, k ≤ L.length ∧ i = .int .i64 k ∧ acc = .float .f32 (sumF (fun r : FaR => throwF r.T (faultK r.A r.B r.C x y) (faultS r.A r.B) r.W) v (L.take k)) ∧ Below w.heap.size w wr) (fun _ i _ => L.length - (intOf i).toNat)
  case atStart => exact ⟨0, by omega, rfl, by rw [Hs0.out], HB1.out⟩
  case round =>
    clear HB1
    obtain ⟨k, hk, rfl, rfl, B⟩ := hrel
    have HB := Lib.hid B
    by_cases hlt : k < L.length
    · rcases HR.out with hnil | ⟨b, o, rfl, hb, hc⟩
      · subst hnil; exact absurd hlt (by simp)
      have KL1 := Lib.hid (KL.out k hlt)
      obtain ⟨s1, s2, s3, s4⟩ := KS.out k hlt
      have KL2 : Hid (∀ w, Calls Try.prog 181 #[faultV (faAt L k).A (faAt L k).B (faAt L k).C (faAt L k).W (faAt L k).T, .int .i64 x, .int .i64 y] w fun e w' => e = .returned (.float .f32 (throwF (L.getD k ⟨0, 0, 0, 0, 0⟩).T (faultK (L.getD k ⟨0, 0, 0, 0, 0⟩).A (L.getD k ⟨0, 0, 0, 0, 0⟩).B (L.getD k ⟨0, 0, 0, 0, 0⟩).C x y) (faultS (L.getD k ⟨0, 0, 0, 0, 0⟩).A (L.getD k ⟨0, 0, 0, 0, 0⟩).B) (L.getD k ⟨0, 0, 0, 0, 0⟩).W)) ∧ Below w.heap.size w w') := KL1
      rw [s4] at s3
      have k1 := Lib.hid (fun w' => ref_add_ok _ _ w' s1 s2 s3)
      rw [← s4] at k1
      clear s1 s2 s3 s4 KL1
      obtain ⟨h0, h1, h2, h3, h4⟩ := hc k hlt
      have m0 := (B.cell (p := ⟨b, o + k * 5, none⟩) (by simpa using hb)).trans h0
      have m1 := (B.cell (p := ⟨b, o + k * 5 + 1, none⟩) (by simpa using hb)).trans h1
      have m2 := (B.cell (p := ⟨b, o + k * 5 + 2, none⟩) (by simpa using hb)).trans h2
      have m3 := (B.cell (p := ⟨b, o + k * 5 + 3, none⟩) (by simpa using hb)).trans h3
      have m4 := (B.cell (p := ⟨b, o + k * 5 + 4, none⟩) (by simpa using hb)).trans h4
      have hz := B.size
      have l5 : b < wr.heap.size := by omega
      clear h0 h1 h2 h3 h4 hb hc B hk
      generalize hz1 : sumF (fun r : FaR => throwF r.T (faultK r.A r.B r.C x y) (faultS r.A r.B) r.W) v (L.take (k + 1)) = z1 at *
      have HZ1 := Lib.hid hz1
      clear hz1
      generalize sumF (fun r : FaR => throwF r.T (faultK r.A r.B r.C x y) (faultS r.A r.B) r.W) v (L.take k) = z0 at *
      generalize throwF (L.getD k ⟨0, 0, 0, 0, 0⟩).T (faultK (L.getD k ⟨0, 0, 0, 0, 0⟩).A (L.getD k ⟨0, 0, 0, 0, 0⟩).B (L.getD k ⟨0, 0, 0, 0, 0⟩).C x y) (faultS (L.getD k ⟨0, 0, 0, 0, 0⟩).A (L.getD k ⟨0, 0, 0, 0, 0⟩).B) (L.getD k ⟨0, 0, 0, 0, 0⟩).W = z2 at *
      generalize (faAt L k).A = fA at *
      generalize (faAt L k).B = fB at *
      generalize (faAt L k).C = fC at *
      generalize (faAt L k).W = fW at *
      generalize (faAt L k).T = fT at *
      go_wp2_with fail
      have B1 : Below wr.heap.size wr (wr.alloc (.cells #[.int .i64 fA, .int .i64 fB, .int .i64 fC, .int .i64 fW, .float .f32 fT] 95)) := (by repeat (first | with_reducible exact Below.refl _ _ | with_reducible apply Below.drew | with_reducible refine below_drewN ?_ _ | (with_reducible refine Below.setCell ?_ ?_ _; rotate_left; focus (first | omega | (simp <;> omega))) | (with_reducible refine Below.alloc ?_ ?_ _; rotate_left; focus (first | omega | (simp <;> omega)))))
      refine (KL2.out _).mono ?_
      rintro e w2 ⟨rfl, b2⟩
      have HB2 := Lib.hid (HB.out.trans ((B1.trans (b2.mono B1.size)).mono hz))
      clear b2 B1
      go_wp2_with fail
      refine (k1.out _).mono ?_
      rintro e w3 ⟨rfl, rfl⟩
      go_wp2_with fail
      go_roundw
      case rel => exact ⟨k + 1, by omega, by go_num, by rw [HZ1.out], HB2.out⟩
      case measure => simp [intOf]; omega
    · obtain rfl : k = L.length := by omega
      go_wp2_with fail
      go_ret
      exact ⟨rfl, HB.out⟩
end Go.Proofs.Ytnfebeebjelgbaa

namespace Go.Proofs.Ytnfebeebjelgbaa
open Go.ChangeShapes Go.WideShapes Go.ChangeAt Go.RowKit
open Ieee.Format (fin finE htE allFin allHt all_true all_false mulF subF addF Ht Bd divF rootF floorF easeF mixF)
set_option linter.unusedVariables false
open Ieee.Format (Hn)

abbrev faE (r : FaR) : Int := faultE r.A r.B r.C r.W r.T
set_option maxRecDepth 100000 in
theorem addflt_large (X Y : Int) (Wn Hn : Nat) (b o c : Nat) (l : List Nat) (L : List FaR) (a : Option Addr) (cap : Nat) (w : World) (hl : SRow w (some ⟨b, o, none⟩) l) (hr : Right X Y Wn Hn l) (hR : FaRow w a L) (hn : 100 < L.length) :
    Calls Try.prog 178 #[fldV X Y Wn Hn (some ⟨b, o, none⟩) l.length c, .slice a L.length cap, .func (.func 77) #[] #[], .func (.func 179) #[] #[]] w fun e w' => e = .returned (.tuple #[fldV 0 0 0 0 none 0 0, .int .i64 4]) ∧ Below w.heap.size w w' := by
  have K := Lib.hid (fun w h => check_field X Y Wn Hn (some ⟨b, o, none⟩) c l w h)
  rw [hr.chk] at K
  have HL := Lib.hid hl
  have HR := Lib.hid hR
  have hm := hR.1.1
  clear hl hr hR
  go_enter Try.func178, Try.ntmps178
  go_wp2_with fail
  generalize hW0 : (((w.alloc (.cells #[.int .i64 X, .int .i64 Y, .int .i64 Wn, .int .i64 Hn, .slice (some ⟨b, o, none⟩) l.length c] 36)).alloc (.cells #[.slice a L.length cap] 92)).alloc (.cells #[.func (.func 179) #[] #[]] 166)).alloc (.cells #[.int .i64 0, .int .i64 0, .int .i64 0, .int .i64 0, .slice none 0 0] 36) = W0 at *
  obtain ⟨E0, P0, Q0, F0, B0⟩ := box_f2 w X Y Wn Hn (.slice (some ⟨b, o, none⟩) l.length c) #[.slice a L.length cap] 92 #[.func (.func 179) #[] #[]] 166 W0 hW0.symm
  clear hW0
  refine (K.out _ (HL.out.below B0)).mono ?_
  rintro e w1 ⟨rfl, b1⟩
  have HE1 := Lib.hid (E0.below b1 E0.lt)
  have HP1 := Lib.hid (P0.below b1 P0.lt)
  have HQ1 := Lib.hid (Q0.below b1 Q0.lt)
  have HF1 := Lib.hid (F0.below b1 F0.lt)
  have HL1 := Lib.hid ((HL.out.below B0).below b1)
  have HR1 := Lib.hid ((HR.out.below B0).below b1)
  have HB1 := Lib.hid (B0.trans (b1.mono B0.size))
  clear b1 B0 F0 E0 P0 Q0 K HL HR
  have p0 : w1.cell? ⟨w.heap.size + 1, 0, none⟩ = some (.slice a L.length cap) := HP1.out.cell 0
  have l3 : w.heap.size + 1 + 1 + 1 < w1.heap.size := HF1.out.lt
  have l2 : w.heap.size + 1 + 1 < w1.heap.size := by omega
  have l1 : w.heap.size + 1 < w1.heap.size := by omega
  have l0 : w.heap.size < w1.heap.size := by omega
  obtain ⟨d0, d1, d2, d3, d4⟩ := HF1.out.cells
  have qf0 := HF1.out.frozen 0
  have qf1 := HF1.out.frozen 1
  have qf2 := HF1.out.frozen 2
  have qf3 := HF1.out.frozen 3
  have qf4 := HF1.out.frozen 4
  have g1 : (100 : Int) < L.length := by omega
  go_wp2_with fail
  have B3 := HB1.out
  exact bodyPost_ret (v := .tuple #[fldV 0 0 0 0 none 0 0, .int .i64 4]) (by simp [results, Try.results178, go_sem, *]) rfl ⟨rfl, (by have hszz := B3.size; repeat (first | with_reducible exact B3 | with_reducible apply Below.drew | with_reducible refine below_drewN ?_ _ | (with_reducible refine Below.setCell ?_ ?_ _; rotate_left; focus (first | omega | (simp <;> omega))) | (with_reducible refine Below.alloc ?_ ?_ _; rotate_left; focus (first | omega | (simp <;> omega)))))⟩

set_option maxRecDepth 100000 in
set_option maxHeartbeats 1000000 in
theorem addflt_bad (X Y : Int) (Wn Hn : Nat) (b o c : Nat) (l : List Nat) (L : List FaR) (a : Option Addr) (cap : Nat) (w : World) (hl : SRow w (some ⟨b, o, none⟩) l) (hr : Right X Y Wn Hn l) (hR : FaRow w a L) (hn : L.length ≤ 100)
    (j : Nat) (hj : j < L.length) (hz : ∀ i, i < j → faE (faAt L i) = 0) (hb : faE (faAt L j) ≠ 0) :
    Calls Try.prog 178 #[fldV X Y Wn Hn (some ⟨b, o, none⟩) l.length c, .slice a L.length cap, .func (.func 77) #[] #[], .func (.func 179) #[] #[]] w fun e w' => e = .returned (.tuple #[fldV 0 0 0 0 none 0 0, .int .i64 (faE (faAt L j))]) ∧ Below w.heap.size w w' := by
  have K := Lib.hid (fun w h => check_field X Y Wn Hn (some ⟨b, o, none⟩) c l w h)
  rw [hr.chk] at K
  have HL := Lib.hid hl
  have HR := Lib.hid hR
  have HRH := Lib.hid hR.1.2
  have HZ := Lib.hid hz
  have HBD := Lib.hid hb
  clear hl hr hR hz hb
  go_enter Try.func178, Try.ntmps178
  go_wp2_with fail
  generalize hW0 : (((w.alloc (.cells #[.int .i64 X, .int .i64 Y, .int .i64 Wn, .int .i64 Hn, .slice (some ⟨b, o, none⟩) l.length c] 36)).alloc (.cells #[.slice a L.length cap] 92)).alloc (.cells #[.func (.func 179) #[] #[]] 166)).alloc (.cells #[.int .i64 0, .int .i64 0, .int .i64 0, .int .i64 0, .slice none 0 0] 36) = W0 at *
  obtain ⟨E0, P0, Q0, F0, B0⟩ := box_f2 w X Y Wn Hn (.slice (some ⟨b, o, none⟩) l.length c) #[.slice a L.length cap] 92 #[.func (.func 179) #[] #[]] 166 W0 hW0.symm
  clear hW0
  refine (K.out _ (HL.out.below B0)).mono ?_
  rintro e w1 ⟨rfl, b1⟩
  have HE1 := Lib.hid (E0.below b1 E0.lt)
  have HP1 := Lib.hid (P0.below b1 P0.lt)
  have HQ1 := Lib.hid (Q0.below b1 Q0.lt)
  have HF1 := Lib.hid (F0.below b1 F0.lt)
  have HL1 := Lib.hid ((HL.out.below B0).below b1)
  have HR1 := Lib.hid ((HR.out.below B0).below b1)
  have HB1 := Lib.hid (B0.trans (b1.mono B0.size))
  clear b1 B0 F0 E0 P0 Q0 K HL HR
  have p0 : w1.cell? ⟨w.heap.size + 1, 0, none⟩ = some (.slice a L.length cap) := HP1.out.cell 0
  have l3 : w.heap.size + 1 + 1 + 1 < w1.heap.size := HF1.out.lt
  have l2 : w.heap.size + 1 + 1 < w1.heap.size := by omega
  have l1 : w.heap.size + 1 < w1.heap.size := by omega
  have l0 : w.heap.size < w1.heap.size := by omega
  have g1 : ¬ (100 : Int) < L.length := by omega
  go_wp2_with fail
  go_loopw [26] (fun i wr => ∃ k : Nat, k ≤ j ∧ i = .int .i64 k ∧ Below w1.heap.size w1 wr) (fun i _ => L.length - (intOf i).toNat)
  case atStart => exact ⟨0, by omega, rfl, (by repeat (first | with_reducible exact Below.refl _ _ | with_reducible apply Below.drew | with_reducible refine below_drewN ?_ _ | (with_reducible refine Below.setCell ?_ ?_ _; rotate_left; focus (first | omega | (simp <;> omega))) | (with_reducible refine Below.alloc ?_ ?_ _; rotate_left; focus (first | omega | (simp <;> omega)))))⟩
  case round =>
    obtain ⟨k, hk, rfl, B⟩ := hrel
    have HB := Lib.hid B
    have hlt : k < L.length := by omega
    rcases HR1.out.2 with hnil | ⟨g, og, rfl, hg, hc⟩
    · subst hnil; exact absurd hlt (by simp)
    obtain ⟨h0, h1, h2, h3, h4⟩ := hc k hlt
    have m0 := (B.cell (p := ⟨g, og + k * 5, none⟩) (by simpa using hg)).trans h0
    have m1 := (B.cell (p := ⟨g, og + k * 5 + 1, none⟩) (by simpa using hg)).trans h1
    have m2 := (B.cell (p := ⟨g, og + k * 5 + 2, none⟩) (by simpa using hg)).trans h2
    have m3 := (B.cell (p := ⟨g, og + k * 5 + 3, none⟩) (by simpa using hg)).trans h3
    have m4 := (B.cell (p := ⟨g, og + k * 5 + 4, none⟩) (by simpa using hg)).trans h4
    have hz := B.size
    have KC1 := Lib.hid (fun w => check_fault (faAt L k).A (faAt L k).B (faAt L k).C (faAt L k).W (faAt L k).T w (HRH.out _ (faAt_mem hlt)))
    have hf := HF1.out.below B HF1.out.lt
    have hfl := hf.lt
    have l5 : g < wr.heap.size := by omega
    clear h0 h1 h2 h3 h4 hg hc
    by_cases hkj : k < j
    · have hz0 := HZ.out k hkj
      change Hid (∀ w, Calls Try.prog 77 #[faultV (faAt L k).A (faAt L k).B (faAt L k).C (faAt L k).W (faAt L k).T] w fun e w' => e = .returned (.int .i64 (faE (faAt L k))) ∧ Below w.heap.size w w') at KC1
      rw [hz0] at KC1
      clear hz0 hf hfl B
      generalize (faAt L k).A = fA at *
      generalize (faAt L k).B = fB at *
      generalize (faAt L k).C = fC at *
      generalize (faAt L k).W = fW at *
      generalize (faAt L k).T = fT at *
      go_wp2_with fail
      have B1 : Below wr.heap.size wr (wr.alloc (.cells #[.int .i64 fA, .int .i64 fB, .int .i64 fC, .int .i64 fW, .float .f32 fT] 95)) := (by repeat (first | with_reducible exact Below.refl _ _ | with_reducible apply Below.drew | with_reducible refine below_drewN ?_ _ | (with_reducible refine Below.setCell ?_ ?_ _; rotate_left; focus (first | omega | (simp <;> omega))) | (with_reducible refine Below.alloc ?_ ?_ _; rotate_left; focus (first | omega | (simp <;> omega)))))
      refine (KC1.out _).mono ?_
      rintro e w2 ⟨rfl, b2⟩
      have HB2 := Lib.hid (HB.out.trans ((B1.trans (b2.mono B1.size)).mono hz))
      clear b2 B1
      go_wp2_with fail
      go_roundw
      case rel => exact ⟨k + 1, by omega, by go_num, HB2.out⟩
      case measure => simp [intOf]; omega
    · obtain rfl : k = j := by omega
      have hb0 := HBD.out
      change Hid (∀ w, Calls Try.prog 77 #[faultV (faAt L k).A (faAt L k).B (faAt L k).C (faAt L k).W (faAt L k).T] w fun e w' => e = .returned (.int .i64 (faE (faAt L k))) ∧ Below w.heap.size w w') at KC1
      have hb' : (faE (faAt L k) != 0) = true := by rw [bne_iff_ne]; exact hb0
      generalize hce : faE (faAt L k) = ce at *
      have HCE := Lib.hid hce
      clear hce
      have B1 : Below wr.heap.size wr (wr.alloc (.cells #[.int .i64 (faAt L k).A, .int .i64 (faAt L k).B, .int .i64 (faAt L k).C, .int .i64 (faAt L k).W, .float .f32 (faAt L k).T] 95)) := (by repeat (first | with_reducible exact Below.refl _ _ | with_reducible apply Below.drew | with_reducible refine below_drewN ?_ _ | (with_reducible refine Below.setCell ?_ ?_ _; rotate_left; focus (first | omega | (simp <;> omega))) | (with_reducible refine Below.alloc ?_ ?_ _; rotate_left; focus (first | omega | (simp <;> omega)))))
      have HF2 := Lib.hid (hf.below B1 hf.lt)
      have HB2 := Lib.hid (HB.out.trans (B1.mono hz))
      clear hb0 hf B B1
      generalize (faAt L k).A = fA at *
      generalize (faAt L k).B = fB at *
      generalize (faAt L k).C = fC at *
      generalize (faAt L k).W = fW at *
      generalize (faAt L k).T = fT at *
      go_wp2_with fail
      generalize hW2 : wr.alloc (.cells #[.int .i64 fA, .int .i64 fB, .int .i64 fC, .int .i64 fW, .float .f32 fT] 95) = W2 at *
      clear hW2
      refine (KC1.out _).mono ?_
      rintro e w3 ⟨rfl, b3⟩
      have hf := HF2.out.below b3 HF2.out.lt
      have HB3 := Lib.hid (HB1.out.trans ((HB2.out.trans (b3.mono HB2.out.size)).mono HB1.out.size))
      obtain ⟨d0, d1, d2, d3, d4⟩ := hf.cells
      have qf0 := hf.frozen 0
      have qf1 := hf.frozen 1
      have qf2 := hf.frozen 2
      have qf3 := hf.frozen 3
      have qf4 := hf.frozen 4
      have lz := hf.lt
      clear b3 hf
      go_wp2_with fail
      have B3 := HB3.out
      exact bodyPost_ret (v := .tuple #[fldV 0 0 0 0 none 0 0, .int .i64 ce]) (by simp [results, Try.results178, go_sem, *]) rfl ⟨by rw [HCE.out], (by have hszz := B3.size; repeat (first | with_reducible exact B3 | with_reducible apply Below.drew | with_reducible refine below_drewN ?_ _ | (with_reducible refine Below.setCell ?_ ?_ _; rotate_left; focus (first | omega | (simp <;> omega))) | (with_reducible refine Below.alloc ?_ ?_ _; rotate_left; focus (first | omega | (simp <;> omega)))))⟩

set_option maxRecDepth 100000 in
set_option maxHeartbeats 1000000 in
theorem addflt_ok (X Y : Int) (Wn Hn : Nat) (b o c : Nat) (l : List Nat) (L : List FaR) (a : Option Addr) (cap : Nat) (w : World) (hl : SRow w (some ⟨b, o, none⟩) l) (hr : Right X Y Wn Hn l) (hR : FaRow w a L) (hn : L.length ≤ 100)
    (hz : ∀ i, i < L.length → faE (faAt L i) = 0) (S : List Nat) (C : Int)
    (KA : Hid (∀ pl pv W', SRow W' (some ⟨b, o, none⟩) l → FaRow W' a L → Blk W' pl #[.slice a L.length cap] 92 → Blk W' pv #[.func (.func 179) #[] #[]] 166 →
      Calls Try.prog 152 #[fldV X Y Wn Hn (some ⟨b, o, none⟩) l.length c, .func (.func 217) #[] #[.pointer (some ⟨pl, 0, none⟩), .pointer (some ⟨pv, 0, none⟩)]] W' fun e w' => OpP C X Y Wn Hn S W' e w')) :
    Calls Try.prog 178 #[fldV X Y Wn Hn (some ⟨b, o, none⟩) l.length c, .slice a L.length cap, .func (.func 77) #[] #[], .func (.func 179) #[] #[]] w fun e w' => OpP C X Y Wn Hn S w e w' := by
  have K := Lib.hid (fun w h => check_field X Y Wn Hn (some ⟨b, o, none⟩) c l w h)
  rw [hr.chk] at K
  have HL := Lib.hid hl
  have HR := Lib.hid hR
  have HRH := Lib.hid hR.1.2
  have HZ := Lib.hid hz
  clear hl hr hR hz
  go_enter Try.func178, Try.ntmps178
  go_wp2_with fail
  generalize hW0 : (((w.alloc (.cells #[.int .i64 X, .int .i64 Y, .int .i64 Wn, .int .i64 Hn, .slice (some ⟨b, o, none⟩) l.length c] 36)).alloc (.cells #[.slice a L.length cap] 92)).alloc (.cells #[.func (.func 179) #[] #[]] 166)).alloc (.cells #[.int .i64 0, .int .i64 0, .int .i64 0, .int .i64 0, .slice none 0 0] 36) = W0 at *
  obtain ⟨E0, P0, Q0, F0, B0⟩ := box_f2 w X Y Wn Hn (.slice (some ⟨b, o, none⟩) l.length c) #[.slice a L.length cap] 92 #[.func (.func 179) #[] #[]] 166 W0 hW0.symm
  clear hW0
  refine (K.out _ (HL.out.below B0)).mono ?_
  rintro e w1 ⟨rfl, b1⟩
  have HE1 := Lib.hid (E0.below b1 E0.lt)
  have HP1 := Lib.hid (P0.below b1 P0.lt)
  have HQ1 := Lib.hid (Q0.below b1 Q0.lt)
  have HF1 := Lib.hid (F0.below b1 F0.lt)
  have HL1 := Lib.hid ((HL.out.below B0).below b1)
  have HR1 := Lib.hid ((HR.out.below B0).below b1)
  have HB1 := Lib.hid (B0.trans (b1.mono B0.size))
  clear b1 B0 F0 E0 P0 Q0 K HL HR
  have p0 : w1.cell? ⟨w.heap.size + 1, 0, none⟩ = some (.slice a L.length cap) := HP1.out.cell 0
  have l3 : w.heap.size + 1 + 1 + 1 < w1.heap.size := HF1.out.lt
  have l2 : w.heap.size + 1 + 1 < w1.heap.size := by omega
  have l1 : w.heap.size + 1 < w1.heap.size := by omega
  have l0 : w.heap.size < w1.heap.size := by omega
  have g1 : ¬ (100 : Int) < L.length := by omega
  go_wp2_with fail
  go_loopw [26] (fun i wr => ∃ k : Nat, k ≤ L.length ∧ i = .int .i64 k ∧ Below w1.heap.size w1 wr) (fun i _ => L.length - (intOf i).toNat)
  case atStart => exact ⟨0, by omega, rfl, (by repeat (first | with_reducible exact Below.refl _ _ | with_reducible apply Below.drew | with_reducible refine below_drewN ?_ _ | (with_reducible refine Below.setCell ?_ ?_ _; rotate_left; focus (first | omega | (simp <;> omega))) | (with_reducible refine Below.alloc ?_ ?_ _; rotate_left; focus (first | omega | (simp <;> omega)))))⟩
  case round =>
    obtain ⟨k, hk, rfl, B⟩ := hrel
    have HB := Lib.hid B
    by_cases hkj : k < L.length
    · have hlt : k < L.length := by omega
      rcases HR1.out.2 with hnil | ⟨g, og, rfl, hg, hc⟩
      · subst hnil; exact absurd hlt (by simp)
      obtain ⟨h0, h1, h2, h3, h4⟩ := hc k hlt
      have m0 := (B.cell (p := ⟨g, og + k * 5, none⟩) (by simpa using hg)).trans h0
      have m1 := (B.cell (p := ⟨g, og + k * 5 + 1, none⟩) (by simpa using hg)).trans h1
      have m2 := (B.cell (p := ⟨g, og + k * 5 + 2, none⟩) (by simpa using hg)).trans h2
      have m3 := (B.cell (p := ⟨g, og + k * 5 + 3, none⟩) (by simpa using hg)).trans h3
      have m4 := (B.cell (p := ⟨g, og + k * 5 + 4, none⟩) (by simpa using hg)).trans h4
      have hz := B.size
      have KC1 := Lib.hid (fun w => check_fault (faAt L k).A (faAt L k).B (faAt L k).C (faAt L k).W (faAt L k).T w (HRH.out _ (faAt_mem hlt)))
      have hf := HF1.out.below B HF1.out.lt
      have hfl := hf.lt
      have l5 : g < wr.heap.size := by omega
      clear h0 h1 h2 h3 h4 hg hc
      have hz0 := HZ.out k hkj
      change Hid (∀ w, Calls Try.prog 77 #[faultV (faAt L k).A (faAt L k).B (faAt L k).C (faAt L k).W (faAt L k).T] w fun e w' => e = .returned (.int .i64 (faE (faAt L k))) ∧ Below w.heap.size w w') at KC1
      rw [hz0] at KC1
      clear hz0 hf hfl B
      generalize (faAt L k).A = fA at *
      generalize (faAt L k).B = fB at *
      generalize (faAt L k).C = fC at *
      generalize (faAt L k).W = fW at *
      generalize (faAt L k).T = fT at *
      go_wp2_with fail
      have B1 : Below wr.heap.size wr (wr.alloc (.cells #[.int .i64 fA, .int .i64 fB, .int .i64 fC, .int .i64 fW, .float .f32 fT] 95)) := (by repeat (first | with_reducible exact Below.refl _ _ | with_reducible apply Below.drew | with_reducible refine below_drewN ?_ _ | (with_reducible refine Below.setCell ?_ ?_ _; rotate_left; focus (first | omega | (simp <;> omega))) | (with_reducible refine Below.alloc ?_ ?_ _; rotate_left; focus (first | omega | (simp <;> omega)))))
      refine (KC1.out _).mono ?_
      rintro e w2 ⟨rfl, b2⟩
      have HB2 := Lib.hid (HB.out.trans ((B1.trans (b2.mono B1.size)).mono hz))
      clear b2 B1
      go_wp2_with fail
      go_roundw
      case rel => exact ⟨k + 1, by omega, by go_num, HB2.out⟩
      case measure => simp [intOf]; omega
    · obtain rfl : k = L.length := by omega
      have HE2 := Lib.hid (HE1.out.below B HE1.out.lt)
      have HP2 := Lib.hid (HP1.out.below B HP1.out.lt)
      have HQ2 := Lib.hid (HQ1.out.below B HQ1.out.lt)
      have HF2 := Lib.hid (HF1.out.below B HF1.out.lt)
      have HL2 := Lib.hid (HL1.out.below B)
      have HR2 := Lib.hid (HR1.out.below B)
      have HB2 := Lib.hid (HB1.out.trans (B.mono HB1.out.size))
      obtain ⟨c0, c1, c2, c3, c4⟩ := HE2.out.cells
      have l8 := HE2.out.lt
      clear B p0 HE1 HP1 HQ1 HF1 HL1 HR1 HB1 HB HZ HRH l0 l1 l2 l3
      go_wp2_with fail
      refine (KA.out _ _ _ HL2.out HR2.out HP2.out HQ2.out).mono ?_
      rintro e w7 ⟨⟨x, y, p, q, aa, m, kk, rfl, o7⟩, b7⟩
      have HOZ := Lib.hid o7
      have HFZ := Lib.hid (HF2.out.below b7 HF2.out.lt)
      have HBZ := Lib.hid (HB2.out.trans (b7.mono HB2.out.size))
      have HZB : Hid (w.heap.size + 1 + 1 + 1 < wr.heap.size) := HF2.out.lt
      have HBB : Hid (w.heap.size ≤ wr.heap.size) := HB2.out.size
      clear o7 b7 KA HE2 HP2 HQ2 HF2 HL2 HR2 HB2 c0 c1 c2 c3 c4 l8
      generalize a = a0 at *
      generalize aa = a at *
      generalize kk = k at *
      obtain ⟨d0, d1, d2, d3, d4⟩ := HFZ.out.cells
      have qf0 := HFZ.out.frozen 0
      have qf1 := HFZ.out.frozen 1
      have qf2 := HFZ.out.frozen 2
      have qf3 := HFZ.out.frozen 3
      have qf4 := HFZ.out.frozen 4
      have lz := HFZ.out.lt
      go_wp2_with fail
      generalize hW5 : ((((w7.setCell ⟨w.heap.size + 1 + 1 + 1, 0, none⟩ (.int .i64 x)).setCell ⟨w.heap.size + 1 + 1 + 1, 1, none⟩ (.int .i64 y)).setCell ⟨w.heap.size + 1 + 1 + 1, 2, none⟩ (.int .i64 p)).setCell ⟨w.heap.size + 1 + 1 + 1, 3, none⟩ (.int .i64 q)).setCell ⟨w.heap.size + 1 + 1 + 1, 4, none⟩ (.slice a m k) = W5 at *
      obtain ⟨f5, bb5, oo5, _, z5⟩ := fld_store w7 (w.heap.size + 1 + 1 + 1) 0 0 0 0 _ x y p q (.slice a m k) HFZ.out W5 hW5.symm
      have hO5 := (HOZ.out.set oo5 HZB.out).base HBB.out
      have hB5 := HBZ.out.trans (bb5.mono (by omega))
      clear d0 d1 d2 d3 d4 qf0 qf1 qf2 qf3 qf4 hW5 oo5
      obtain ⟨d0, d1, d2, d3, d4⟩ := f5.cells
      exact bodyPost_ret (v := .tuple #[fldV x y p q a m k, .int .i64 C]) (by simp [results, Try.results178, go_sem, *]) rfl ⟨⟨x, y, p, q, a, m, k, rfl, hO5⟩, hB5⟩
end Go.Proofs.Ytnfebeebjelgbaa

namespace Go.Proofs.Ytnfebeebjelgbaa
open Go.ChangeShapes Go.WideShapes Go.ChangeAt Go.RowKit
open Ieee.Format (fin finE htE allFin allHt all_true all_false mulF subF addF Ht Bd divF rootF floorF easeF mixF)
set_option linter.unusedVariables false

theorem faultsF_lt (L : List FaR) (x y : Int) (v : Nat) (h : v < 4294967296) : faultsF L x y v < 4294967296 := sumF_lt _ _ h
theorem faults_at {L : List FaR} (hz : ∀ i, i < L.length → faE (faAt L i) = 0) {X Y x y : Int} {Wn Hn : Nat} {l : List Nat} (hr : Right X Y Wn Hn l) (h1 : X ≤ x) (h2 : x < X + Wn) (h3 : Y ≤ y) (h4 : y < Y + Hn) : ∀ r ∈ L, FaultAt r.A r.B r.C r.W x y ∧ Bd 20 r.T := by
  intro r hm
  obtain ⟨i, hi, rfl⟩ := List.getElem_of_mem hm
  have e : faAt L i = L[i] := by unfold faAt; rw [List.getD_eq_getElem?_getD, List.getElem?_eq_getElem hi]; rfl
  have := hz i hi
  rw [e] at this
  have g1 := hr.w2; have g2 := hr.h2; have g3 := hr.x1; have g4 := hr.x2; have g5 := hr.y1; have g6 := hr.y2
  exact fault_at this (by omega)

set_option maxRecDepth 100000 in
theorem faults_op (X Y : Int) (Wn Hn : Nat) (b o c : Nat) (l : List Nat) (L : List FaR) (a0 : Option Addr) (cap : Nat) (w : World) (C X1 Y1 W1 H1 : Int) (S : List Nat)
    (K : Hid (∀ W', Below w.heap.size w W' → Calls Try.prog 178 #[fldV X Y Wn Hn (some ⟨b, o, none⟩) l.length c, .slice a0 L.length cap, .func (.func 77) #[] #[], .func (.func 179) #[] #[]] W' fun e w' => OpP C X1 Y1 W1 H1 S W' e w')) :
    Calls Try.prog 73 #[fldV X Y Wn Hn (some ⟨b, o, none⟩) l.length c, .slice a0 L.length cap] w fun e w' => OpP C X1 Y1 W1 H1 S w e w' := by
  go_enter Try.func73, Try.ntmps73
  go_wp2_with fail
  generalize hW0 : (w.alloc (.cells #[.int .i64 X, .int .i64 Y, .int .i64 Wn, .int .i64 Hn, .slice (some ⟨b, o, none⟩) l.length c] 36)).alloc (.cells #[.int .i64 0, .int .i64 0, .int .i64 0, .int .i64 0, .slice none 0 0] 36) = W0 at *
  obtain ⟨E0, F0, B0, z0⟩ := two_fields w X Y Wn Hn (.slice (some ⟨b, o, none⟩) l.length c) W0 hW0.symm
  clear hW0
  refine (K.out _ B0).mono ?_
  rintro e w7 ⟨⟨x, y, p, q, a, m, k, rfl, o7⟩, b7⟩
  have HOZ := Lib.hid o7
  have HFZ := Lib.hid (F0.below b7 F0.lt)
  have HBZ := Lib.hid (B0.trans (b7.mono B0.size))
  have HZB : Hid (w.heap.size + 1 < W0.heap.size) := F0.lt
  have HBB : Hid (w.heap.size ≤ W0.heap.size) := B0.size
  clear o7 b7 K E0 F0 B0 z0
  obtain ⟨d0, d1, d2, d3, d4⟩ := HFZ.out.cells
  have qf0 := HFZ.out.frozen 0
  have qf1 := HFZ.out.frozen 1
  have qf2 := HFZ.out.frozen 2
  have qf3 := HFZ.out.frozen 3
  have qf4 := HFZ.out.frozen 4
  have lz := HFZ.out.lt
  go_wp2_with fail
  generalize hW5 : ((((w7.setCell ⟨w.heap.size + 1, 0, none⟩ (.int .i64 x)).setCell ⟨w.heap.size + 1, 1, none⟩ (.int .i64 y)).setCell ⟨w.heap.size + 1, 2, none⟩ (.int .i64 p)).setCell ⟨w.heap.size + 1, 3, none⟩ (.int .i64 q)).setCell ⟨w.heap.size + 1, 4, none⟩ (.slice a m k) = W5 at *
  obtain ⟨f5, bb5, oo5, _, z5⟩ := fld_store w7 (w.heap.size + 1) 0 0 0 0 _ x y p q (.slice a m k) HFZ.out W5 hW5.symm
  have hO5 := (HOZ.out.set oo5 HZB.out).base HBB.out
  have hB5 := HBZ.out.trans (bb5.mono (by omega))
  clear d0 d1 d2 d3 d4 qf0 qf1 qf2 qf3 qf4 hW5 oo5
  obtain ⟨d0, d1, d2, d3, d4⟩ := f5.cells
  exact bodyPost_ret (v := .tuple #[fldV x y p q a m k, .int .i64 C]) (by simp [results, Try.results73, go_sem, *]) rfl ⟨⟨x, y, p, q, a, m, k, rfl, hO5⟩, hB5⟩

set_option maxRecDepth 100000 in
theorem reffaults_large (X Y : Int) (Wn Hn : Nat) (b o c : Nat) (l : List Nat) (L : List FaR) (a : Option Addr) (cap : Nat) (w : World) (hl : SRow w (some ⟨b, o, none⟩) l) (hR : FaRow w a L) (hn : 100 < L.length) :
    Calls Try.prog 74 #[fldV X Y Wn Hn (some ⟨b, o, none⟩) l.length c, .slice a L.length cap] w fun e w' => e = .returned (.tuple #[fldV 0 0 0 0 none 0 0, .int .i64 4]) ∧ Below w.heap.size w w' := by
  have HL := Lib.hid hl
  have HR := Lib.hid hR
  have hm := hR.1.1
  have g1 : (100 : Int) < L.length := by omega
  clear hl hR
  go_enter Try.func74, Try.ntmps74
  go_wp2_with fail
  exact bodyPost_ret (v := .tuple #[fldV 0 0 0 0 none 0 0, .int .i64 4]) (by simp [results, Try.results74, go_sem, *]) rfl ⟨rfl, (by repeat (first | with_reducible exact Below.refl _ _ | with_reducible apply Below.drew | with_reducible refine below_drewN ?_ _ | (with_reducible refine Below.setCell ?_ ?_ _; rotate_left; focus (first | omega | (simp <;> omega))) | (with_reducible refine Below.alloc ?_ ?_ _; rotate_left; focus (first | omega | (simp <;> omega)))))⟩
set_option maxRecDepth 100000 in
set_option maxHeartbeats 1000000 in
theorem reffaults_bad (X Y : Int) (Wn Hn : Nat) (b o c : Nat) (l : List Nat) (L : List FaR) (a : Option Addr) (cap : Nat) (w : World) (hl : SRow w (some ⟨b, o, none⟩) l) (hR : FaRow w a L) (hn : L.length ≤ 100)
    (j : Nat) (hj : j < L.length) (hz : ∀ i, i < j → faE (faAt L i) = 0) (hb : faE (faAt L j) ≠ 0) :
    Calls Try.prog 74 #[fldV X Y Wn Hn (some ⟨b, o, none⟩) l.length c, .slice a L.length cap] w fun e w' => e = .returned (.tuple #[fldV 0 0 0 0 none 0 0, .int .i64 (faE (faAt L j))]) ∧ Below w.heap.size w w' := by
  have HL := Lib.hid hl
  have HR := Lib.hid hR
  have HRH := Lib.hid hR.1.2
  have HZ := Lib.hid hz
  have HBD := Lib.hid hb
  have g1 : ¬ (100 : Int) < L.length := by omega
  clear hl hR hz hb
  go_enter Try.func74, Try.ntmps74
  go_wp2_with fail
  generalize hW0 : ((w.alloc (.cells #[.int .i64 X, .int .i64 Y, .int .i64 Wn, .int .i64 Hn, .slice (some ⟨b, o, none⟩) l.length c] 36)).alloc (.cells #[.slice a L.length cap] 92)).alloc (.cells #[.int .i64 0, .int .i64 0, .int .i64 0, .int .i64 0, .slice none 0 0] 36) = W1 at *
  obtain ⟨E0, P0, F0, B0⟩ := box_fb w X Y Wn Hn (.slice (some ⟨b, o, none⟩) l.length c) #[.slice a L.length cap] 92 W1 hW0.symm
  clear hW0
  have HE1 := Lib.hid E0
  have HP1 := Lib.hid P0
  have HF1 := Lib.hid F0
  have HL1 := Lib.hid (HL.out.below B0)
  have HR1 := Lib.hid (HR.out.below B0)
  have HB1 := Lib.hid B0
  clear B0 F0 E0 P0 HL HR
  have l2 : w.heap.size + 1 + 1 < W1.heap.size := HF1.out.lt
  go_loopw [15] (fun i wr => ∃ k : Nat, k ≤ j ∧ i = .int .i64 k ∧ Below W1.heap.size W1 wr) (fun i _ => L.length - (intOf i).toNat)
  case atStart => exact ⟨0, by omega, rfl, (by repeat (first | with_reducible exact Below.refl _ _ | with_reducible apply Below.drew | with_reducible refine below_drewN ?_ _ | (with_reducible refine Below.setCell ?_ ?_ _; rotate_left; focus (first | omega | (simp <;> omega))) | (with_reducible refine Below.alloc ?_ ?_ _; rotate_left; focus (first | omega | (simp <;> omega)))))⟩
  case round =>
    obtain ⟨k, hk, rfl, B⟩ := hrel
    have HB := Lib.hid B
    have hlt : k < L.length := by omega
    rcases HR1.out.2 with hnil | ⟨g, og, rfl, hg, hc⟩
    · subst hnil; exact absurd hlt (by simp)
    obtain ⟨h0, h1, h2, h3, h4⟩ := hc k hlt
    have m0 := (B.cell (p := ⟨g, og + k * 5, none⟩) (by simpa using hg)).trans h0
    have m1 := (B.cell (p := ⟨g, og + k * 5 + 1, none⟩) (by simpa using hg)).trans h1
    have m2 := (B.cell (p := ⟨g, og + k * 5 + 2, none⟩) (by simpa using hg)).trans h2
    have m3 := (B.cell (p := ⟨g, og + k * 5 + 3, none⟩) (by simpa using hg)).trans h3
    have m4 := (B.cell (p := ⟨g, og + k * 5 + 4, none⟩) (by simpa using hg)).trans h4
    have hz := B.size
    have KC1 := Lib.hid (fun w => refcheck_fault (faAt L k).A (faAt L k).B (faAt L k).C (faAt L k).W (faAt L k).T w (HRH.out _ (faAt_mem hlt)))
    have hf := HF1.out.below B HF1.out.lt
    have hfl := hf.lt
    have l5 : g < wr.heap.size := by omega
    clear h0 h1 h2 h3 h4 hg hc
    change Hid (∀ w, Calls Try.prog 78 #[faultV (faAt L k).A (faAt L k).B (faAt L k).C (faAt L k).W (faAt L k).T] w fun e w' => e = .returned (.int .i64 (faE (faAt L k))) ∧ Below w.heap.size w w') at KC1
    by_cases hkj : k < j
    · have hz0 := HZ.out k hkj
      rw [hz0] at KC1
      clear hz0 hf hfl B
      generalize (faAt L k).A = fA at *
      generalize (faAt L k).B = fB at *
      generalize (faAt L k).C = fC at *
      generalize (faAt L k).W = fW at *
      generalize (faAt L k).T = fT at *
      go_wp2_with fail
      have B1 : Below wr.heap.size wr (wr.alloc (.cells #[.int .i64 fA, .int .i64 fB, .int .i64 fC, .int .i64 fW, .float .f32 fT] 95)) := (by repeat (first | with_reducible exact Below.refl _ _ | with_reducible apply Below.drew | with_reducible refine below_drewN ?_ _ | (with_reducible refine Below.setCell ?_ ?_ _; rotate_left; focus (first | omega | (simp <;> omega))) | (with_reducible refine Below.alloc ?_ ?_ _; rotate_left; focus (first | omega | (simp <;> omega)))))
      refine (KC1.out _).mono ?_
      rintro e w2 ⟨rfl, b2⟩
      have HB2 := Lib.hid (HB.out.trans ((B1.trans (b2.mono B1.size)).mono hz))
      clear b2 B1
      go_wp2_with fail
      go_roundw
      case rel => exact ⟨k + 1, by omega, by go_num, HB2.out⟩
      case measure => simp [intOf]; omega
    · obtain rfl : k = j := by omega
      have hb0 := HBD.out
      have hb' : (faE (faAt L k) != 0) = true := by rw [bne_iff_ne]; exact hb0
      generalize hce : faE (faAt L k) = ce at *
      have HCE := Lib.hid hce
      clear hce
      have B1 : Below wr.heap.size wr (wr.alloc (.cells #[.int .i64 (faAt L k).A, .int .i64 (faAt L k).B, .int .i64 (faAt L k).C, .int .i64 (faAt L k).W, .float .f32 (faAt L k).T] 95)) := (by repeat (first | with_reducible exact Below.refl _ _ | with_reducible apply Below.drew | with_reducible refine below_drewN ?_ _ | (with_reducible refine Below.setCell ?_ ?_ _; rotate_left; focus (first | omega | (simp <;> omega))) | (with_reducible refine Below.alloc ?_ ?_ _; rotate_left; focus (first | omega | (simp <;> omega)))))
      have HF2 := Lib.hid (hf.below B1 hf.lt)
      have HB2 := Lib.hid (HB.out.trans (B1.mono hz))
      clear hb0 hf B B1
      generalize (faAt L k).A = fA at *
      generalize (faAt L k).B = fB at *
      generalize (faAt L k).C = fC at *
      generalize (faAt L k).W = fW at *
      generalize (faAt L k).T = fT at *
      go_wp2_with fail
      generalize hW2 : wr.alloc (.cells #[.int .i64 fA, .int .i64 fB, .int .i64 fC, .int .i64 fW, .float .f32 fT] 95) = W2 at *
      clear hW2
      refine (KC1.out _).mono ?_
      rintro e w3 ⟨rfl, b3⟩
      have hf := HF2.out.below b3 HF2.out.lt
      have HB3 := Lib.hid (HB1.out.trans ((HB2.out.trans (b3.mono HB2.out.size)).mono HB1.out.size))
      obtain ⟨d0, d1, d2, d3, d4⟩ := hf.cells
      have qf0 := hf.frozen 0
      have qf1 := hf.frozen 1
      have qf2 := hf.frozen 2
      have qf3 := hf.frozen 3
      have qf4 := hf.frozen 4
      have lz := hf.lt
      clear b3 hf
      go_wp2_with fail
      have B3 := HB3.out
      exact bodyPost_ret (v := .tuple #[fldV 0 0 0 0 none 0 0, .int .i64 ce]) (by simp [results, Try.results74, go_sem, *]) rfl ⟨by rw [HCE.out], (by have hszz := B3.size; repeat (first | with_reducible exact B3 | with_reducible apply Below.drew | with_reducible refine below_drewN ?_ _ | (with_reducible refine Below.setCell ?_ ?_ _; rotate_left; focus (first | omega | (simp <;> omega))) | (with_reducible refine Below.alloc ?_ ?_ _; rotate_left; focus (first | omega | (simp <;> omega)))))⟩
set_option maxRecDepth 100000 in
set_option maxHeartbeats 1000000 in
theorem reffaults_ok (X Y : Int) (Wn Hn : Nat) (b o c : Nat) (l : List Nat) (L : List FaR) (a : Option Addr) (cap : Nat) (w : World) (hl : SRow w (some ⟨b, o, none⟩) l) (hR : FaRow w a L) (hn : L.length ≤ 100)
    (hz : ∀ i, i < L.length → faE (faAt L i) = 0) (S : List Nat) (C : Int)
    (KA : Hid (∀ q pl W', SRow W' (some ⟨b, o, none⟩) l → FaRow W' a L → Fld W' q X Y Wn Hn (.slice (some ⟨b, o, none⟩) l.length c) → Blk W' pl #[.slice a L.length cap] 92 →
      Calls Try.prog 105 #[reg X Y Wn Hn, .func (.func 180) #[] #[.pointer (some ⟨q, 0, none⟩), .pointer (some ⟨pl, 0, none⟩)]] W' fun e w' => OpP C X Y Wn Hn S W' e w')) :
    Calls Try.prog 74 #[fldV X Y Wn Hn (some ⟨b, o, none⟩) l.length c, .slice a L.length cap] w fun e w' => OpP C X Y Wn Hn S w e w' := by
  have HL := Lib.hid hl
  have HR := Lib.hid hR
  have HRH := Lib.hid hR.1.2
  have HZ := Lib.hid hz
  have g1 : ¬ (100 : Int) < L.length := by omega
  clear hl hR hz
  go_enter Try.func74, Try.ntmps74
  go_wp2_with fail
  generalize hW0 : ((w.alloc (.cells #[.int .i64 X, .int .i64 Y, .int .i64 Wn, .int .i64 Hn, .slice (some ⟨b, o, none⟩) l.length c] 36)).alloc (.cells #[.slice a L.length cap] 92)).alloc (.cells #[.int .i64 0, .int .i64 0, .int .i64 0, .int .i64 0, .slice none 0 0] 36) = W1 at *
  obtain ⟨E0, P0, F0, B0⟩ := box_fb w X Y Wn Hn (.slice (some ⟨b, o, none⟩) l.length c) #[.slice a L.length cap] 92 W1 hW0.symm
  clear hW0
  have HE1 := Lib.hid E0
  have HP1 := Lib.hid P0
  have HF1 := Lib.hid F0
  have HL1 := Lib.hid (HL.out.below B0)
  have HR1 := Lib.hid (HR.out.below B0)
  have HB1 := Lib.hid B0
  clear B0 F0 E0 P0 HL HR
  have l2 : w.heap.size + 1 + 1 < W1.heap.size := HF1.out.lt
  go_loopw [15] (fun i wr => ∃ k : Nat, k ≤ L.length ∧ i = .int .i64 k ∧ Below W1.heap.size W1 wr) (fun i _ => L.length - (intOf i).toNat)
  case atStart => exact ⟨0, by omega, rfl, (by repeat (first | with_reducible exact Below.refl _ _ | with_reducible apply Below.drew | with_reducible refine below_drewN ?_ _ | (with_reducible refine Below.setCell ?_ ?_ _; rotate_left; focus (first | omega | (simp <;> omega))) | (with_reducible refine Below.alloc ?_ ?_ _; rotate_left; focus (first | omega | (simp <;> omega)))))⟩
  case round =>
    obtain ⟨k, hk, rfl, B⟩ := hrel
    have HB := Lib.hid B
    by_cases hlt : k < L.length
    · rcases HR1.out.2 with hnil | ⟨g, og, rfl, hg, hc⟩
      · subst hnil; exact absurd hlt (by simp)
      obtain ⟨h0, h1, h2, h3, h4⟩ := hc k hlt
      have m0 := (B.cell (p := ⟨g, og + k * 5, none⟩) (by simpa using hg)).trans h0
      have m1 := (B.cell (p := ⟨g, og + k * 5 + 1, none⟩) (by simpa using hg)).trans h1
      have m2 := (B.cell (p := ⟨g, og + k * 5 + 2, none⟩) (by simpa using hg)).trans h2
      have m3 := (B.cell (p := ⟨g, og + k * 5 + 3, none⟩) (by simpa using hg)).trans h3
      have m4 := (B.cell (p := ⟨g, og + k * 5 + 4, none⟩) (by simpa using hg)).trans h4
      have hz := B.size
      have KC1 := Lib.hid (fun w => refcheck_fault (faAt L k).A (faAt L k).B (faAt L k).C (faAt L k).W (faAt L k).T w (HRH.out _ (faAt_mem hlt)))
      have hf := HF1.out.below B HF1.out.lt
      have hfl := hf.lt
      have l5 : g < wr.heap.size := by omega
      clear h0 h1 h2 h3 h4 hg hc
      change Hid (∀ w, Calls Try.prog 78 #[faultV (faAt L k).A (faAt L k).B (faAt L k).C (faAt L k).W (faAt L k).T] w fun e w' => e = .returned (.int .i64 (faE (faAt L k))) ∧ Below w.heap.size w w') at KC1
      have hz0 := HZ.out k hlt
      rw [hz0] at KC1
      clear hz0 hf hfl B
      generalize (faAt L k).A = fA at *
      generalize (faAt L k).B = fB at *
      generalize (faAt L k).C = fC at *
      generalize (faAt L k).W = fW at *
      generalize (faAt L k).T = fT at *
      go_wp2_with fail
      have B1 : Below wr.heap.size wr (wr.alloc (.cells #[.int .i64 fA, .int .i64 fB, .int .i64 fC, .int .i64 fW, .float .f32 fT] 95)) := (by repeat (first | with_reducible exact Below.refl _ _ | with_reducible apply Below.drew | with_reducible refine below_drewN ?_ _ | (with_reducible refine Below.setCell ?_ ?_ _; rotate_left; focus (first | omega | (simp <;> omega))) | (with_reducible refine Below.alloc ?_ ?_ _; rotate_left; focus (first | omega | (simp <;> omega)))))
      refine (KC1.out _).mono ?_
      rintro e w2 ⟨rfl, b2⟩
      have HB2 := Lib.hid (HB.out.trans ((B1.trans (b2.mono B1.size)).mono hz))
      clear b2 B1
      go_wp2_with fail
      go_roundw
      case rel => exact ⟨k + 1, by omega, by go_num, HB2.out⟩
      case measure => simp [intOf]; omega
    · obtain rfl : k = L.length := by omega
      have HE2 := Lib.hid (HE1.out.below B HE1.out.lt)
      have HP2 := Lib.hid (HP1.out.below B HP1.out.lt)
      have HF2 := Lib.hid (HF1.out.below B HF1.out.lt)
      have HL2 := Lib.hid (HL1.out.below B)
      have HR2 := Lib.hid (HR1.out.below B)
      have HB2 := Lib.hid (HB1.out.trans (B.mono HB1.out.size))
      obtain ⟨c0, c1, c2, c3, c4⟩ := HE2.out.cells
      have l8 := HE2.out.lt
      clear B HE1 HP1 HF1 HL1 HR1 HB1 HB HZ HRH l2
      go_wp2_with fail
      refine (KA.out _ _ _ HL2.out HR2.out HE2.out HP2.out).mono ?_
      rintro e w7 ⟨⟨x, y, p, q, aa, m, kk, rfl, o7⟩, b7⟩
      have HOZ := Lib.hid o7
      have HFZ := Lib.hid (HF2.out.below b7 HF2.out.lt)
      have HBZ := Lib.hid (HB2.out.trans (b7.mono HB2.out.size))
      have HZB : Hid (w.heap.size + 1 + 1 < wr.heap.size) := HF2.out.lt
      have HBB : Hid (w.heap.size ≤ wr.heap.size) := HB2.out.size
      clear o7 b7 KA HE2 HP2 HF2 HL2 HR2 HB2 c0 c1 c2 c3 c4 l8
      generalize a = a0 at *
      generalize aa = a at *
      generalize kk = k at *
      obtain ⟨d0, d1, d2, d3, d4⟩ := HFZ.out.cells
      have qf0 := HFZ.out.frozen 0
      have qf1 := HFZ.out.frozen 1
      have qf2 := HFZ.out.frozen 2
      have qf3 := HFZ.out.frozen 3
      have qf4 := HFZ.out.frozen 4
      have lz := HFZ.out.lt
      go_wp2_with fail
      generalize hW5 : ((((w7.setCell ⟨w.heap.size + 1 + 1, 0, none⟩ (.int .i64 x)).setCell ⟨w.heap.size + 1 + 1, 1, none⟩ (.int .i64 y)).setCell ⟨w.heap.size + 1 + 1, 2, none⟩ (.int .i64 p)).setCell ⟨w.heap.size + 1 + 1, 3, none⟩ (.int .i64 q)).setCell ⟨w.heap.size + 1 + 1, 4, none⟩ (.slice a m k) = W5 at *
      obtain ⟨f5, bb5, oo5, _, z5⟩ := fld_store w7 (w.heap.size + 1 + 1) 0 0 0 0 _ x y p q (.slice a m k) HFZ.out W5 hW5.symm
      have hO5 := (HOZ.out.set oo5 HZB.out).base HBB.out
      have hB5 := HBZ.out.trans (bb5.mono (by omega))
      clear d0 d1 d2 d3 d4 qf0 qf1 qf2 qf3 qf4 hW5 oo5
      obtain ⟨d0, d1, d2, d3, d4⟩ := f5.cells
      exact bodyPost_ret (v := .tuple #[fldV x y p q a m k, .int .i64 C]) (by simp [results, Try.results74, go_sem, *]) rfl ⟨⟨x, y, p, q, a, m, k, rfl, hO5⟩, hB5⟩

theorem faults_pair (L : List FaR) (a : Option Addr) (cap : Nat) (X Y : Int) (Wn Hn : Nat) (b o c : Nat) (l : List Nat) (hr : Right X Y Wn Hn l) (hlt : ∀ k, l.getD k 0 < 4294967296) :
    ∃ (C X1 Y1 W1 H1 : Int) (S : List Nat), S.length ≤ 1099511627776 ∧
      (∀ w, SRow w (some ⟨b, o, none⟩) l → FaRow w a L → Calls Try.prog 73 #[fldV X Y Wn Hn (some ⟨b, o, none⟩) l.length c, .slice a L.length cap] w fun e w' => OpP C X1 Y1 W1 H1 S w e w') ∧
      (∀ w, SRow w (some ⟨b, o, none⟩) l → FaRow w a L → Calls Try.prog 74 #[fldV X Y Wn Hn (some ⟨b, o, none⟩) l.length c, .slice a L.length cap] w fun e w' => OpP C X1 Y1 W1 H1 S w e w') := by
  by_cases h1 : 100 < L.length
  · refine ⟨4, 0, 0, 0, 0, [], by simp, fun w hl hR => ?_, fun w hl hR => ?_⟩
    · exact faults_op X Y Wn Hn b o c l L a cap w _ _ _ _ _ _ (fun W' hb => (addflt_large X Y Wn Hn b o c l L a cap W' (SRow.below hl hb) hr (hR.below hb) h1).mono fun e w' ⟨a1, a2⟩ => OpP.err (by decide) a1 a2)
    · exact (reffaults_large X Y Wn Hn b o c l L a cap w hl hR h1).mono fun e w' ⟨a1, a2⟩ => OpP.err (by decide) a1 a2
  · rcases all_or_first (fun i => faE (faAt L i) = 0) L.length with hz | ⟨j, hj, hz, hb⟩
    · refine ⟨resC (addL (faultsF L) X Y Wn Hn l), X, Y, Wn, Hn, addL (faultsF L) X Y Wn Hn l, addL_small _ hr, fun w hl hR => ?_, fun w hl hR => ?_⟩
      · refine faults_op X Y Wn Hn b o c l L a cap w _ _ _ _ _ _ (fun W' hb => addflt_ok X Y Wn Hn b o c l L a cap W' (SRow.below hl hb) hr (hR.below hb) (by omega) hz _ _ (fun pl pv W2 g1 g2 g3 g4 => ?_))
        exact added_lt 217 #[.pointer (some ⟨pl, 0, none⟩), .pointer (some ⟨pv, 0, none⟩)] (faultsF L) X Y Wn Hn b o c l W2 g1 hr (enters_of Try.func217 (by kernel_rfl) rfl) (fun x y v hv => faultsF_lt L x y v hv)
          (fun x y v h1' h2 h3 h4 h5 _ W3 hb3 => faultsfn_any L a cap x y v pl pv W3 (g2.below hb3) (by omega) (g3.below hb3 g3.lt) (g4.below hb3 g4.lt) (faults_at hz hr h1' h2 h3 h4) h5)
      · refine reffaults_ok X Y Wn Hn b o c l L a cap w hl hR (by omega) hz _ _ (fun q pl W2 g1 g2 g3 g4 => ?_)
        exact made_lt 180 #[.pointer (some ⟨q, 0, none⟩), .pointer (some ⟨pl, 0, none⟩)] (faultsF L) X Y Wn Hn l W2 hr hlt (enters_of Try.func180 (by kernel_rfl) rfl) (fun x y v hv => faultsF_lt L x y v hv)
          (fun x y h1' h2 h3 h4 W3 hb3 => reffaultsfn_any L a cap X Y Wn Hn x y b o c q pl l W3 (SRow.below g1 hb3) hr h1' h2 h3 h4 (g3.below hb3 g3.lt) (g2.below hb3) (by omega) (g4.below hb3 g4.lt) (faults_at hz hr h1' h2 h3 h4))
    · refine ⟨faE (faAt L j), 0, 0, 0, 0, [], by simp, fun w hl hR => ?_, fun w hl hR => ?_⟩
      · exact faults_op X Y Wn Hn b o c l L a cap w _ _ _ _ _ _ (fun W' hb' => (addflt_bad X Y Wn Hn b o c l L a cap W' (SRow.below hl hb') hr (hR.below hb') (by omega) j hj hz hb).mono fun e w' ⟨a1, a2⟩ => OpP.err hb a1 a2)
      · exact (reffaults_bad X Y Wn Hn b o c l L a cap w hl hR (by omega) j hj hz hb).mono fun e w' ⟨a1, a2⟩ => OpP.err hb a1 a2
end Go.Proofs.Ytnfebeebjelgbaa

namespace Go.Proofs.Ytnfebeebjelgbaa
open Go.ChangeShapes Go.WideShapes Go.ChangeAt Go.RowKit
open Ieee.Format (fin finE htE allFin allHt all_true all_false mulF subF addF Ht Bd divF rootF floorF easeF mixF)
set_option linter.unusedVariables false

theorem liftV_zero (A B P : Int) (H : Nat) (x y : Int) (h : liftC A B P H x y ≠ 0) : liftV A B P H x y = 0 := by unfold liftV; rw [if_pos h]

set_option maxRecDepth 100000 in
set_option maxHeartbeats 1000000 in
theorem folds_law (a2 : Option Addr) (L : List FoR) (cap2 : Nat) (X Y A B : Int) (a : Option Addr) (l : List Nat) (cap : Nat) (x y : Int) (w : World) (hL : FoRow w a2 L) (hl : Row63 w a l) :
    Calls Try.prog 9 #[.slice a2 L.length cap2, fldV X Y A B a l.length cap, .int .i64 x, .int .i64 y] w fun e w' => e = .returned (.bool true) ∧ Below w.heap.size w w' := by
  have HL := Lib.hid hl
  have HRW := Lib.hid hL
  have hml : L.length ≤ 9223372036854775807 := hL.1.1
  clear hl hL
  go_enter Try.func9, Try.ntmps9
  go_wp2_with fail
  generalize hW0 : w.alloc (.cells #[.int .i64 X, .int .i64 Y, .int .i64 A, .int .i64 B, .slice a l.length cap] 36) = W0 at *
  have F0 : Fld W0 w.heap.size X Y A B (.slice a l.length cap) := by subst hW0; exact Fld.new _ _ _ _ _ _
  have B0 : Below w.heap.size w W0 := by subst hW0; exact (by repeat (first | with_reducible exact Below.refl _ _ | with_reducible apply Below.drew | with_reducible refine below_drewN ?_ _ | (with_reducible refine Below.setCell ?_ ?_ _; rotate_left; focus (first | omega | (simp <;> omega))) | (with_reducible refine Below.alloc ?_ ?_ _; rotate_left; focus (first | omega | (simp <;> omega)))))
  clear hW0
  refine (landed_bel _).mono ?_
  rintro e w1 ⟨rfl, b1⟩
  have F1 := F0.below b1 F0.lt
  have B1 := Lib.hid (B0.trans (b1.mono B0.size))
  clear b1 F0 B0
  obtain ⟨c0, c1, c2, c3, c4⟩ := F1.cells
  have HF1 := Lib.hid F1
  clear F1
  go_wp2_with fail
  refine (fit_any X Y A B a cap l w1 (HL.out.below B1.out)).mono ?_
  rintro e w2 ⟨X', Y', Wn, Hn, g, cap', l', rfl, hr, hsm, ho, b2⟩
  have F2 := HF1.out.below b2 HF1.out.lt
  have B2 := Lib.hid (B1.out.trans (b2.mono B1.out.size))
  have HG : Hid (g ≠ w.heap.size) := by have := ho.lt.1; have := HF1.out.lt; unfold Hid; omega
  have HO := Lib.hid ho
  have HML : Hid (l'.length ≤ 1099511627776) := by
    have h1 := Nat.mul_le_mul hr.h2 hr.w2
    rw [← hr.len] at h1
    unfold Hid; omega
  obtain ⟨C, X1, Y1, W1, H1, S, hS, hp1, hp2⟩ := folds_pair L a2 cap2 X' Y' Wn Hn g 0 cap' l' hr (fun k => srow_lt (HO.out.row HML.out) k)
  have P1 : Hid (∀ W, SRow W (some ⟨g, 0, none⟩) l' → Below w.heap.size w W → Calls Try.prog 52 #[fldV X' Y' Wn Hn (some ⟨g, 0, none⟩) l'.length cap', .slice a2 L.length cap2] W fun e w' => OpP C X1 Y1 W1 H1 S W e w') := fun W h1 h2 => hp1 W h1 (HRW.out.below h2)
  have P2 : Hid (∀ W, SRow W (some ⟨g, 0, none⟩) l' → Below w.heap.size w W → Calls Try.prog 53 #[fldV X' Y' Wn Hn (some ⟨g, 0, none⟩) l'.length cap', .slice a2 L.length cap2] W fun e w' => OpP C X1 Y1 W1 H1 S W e w') := fun W h1 h2 => hp2 W h1 (HRW.out.below h2)
  have HS := Lib.hid hS
  clear hp1 hp2 hS
  clear b2 hr ho c0 c1 c2 c3 c4 hsm
  obtain ⟨c0, c1, c2, c3, c4⟩ := F2.cells
  have qf0 := F2.frozen 0
  have qf1 := F2.frozen 1
  have qf2 := F2.frozen 2
  have qf3 := F2.frozen 3
  have qf4 := F2.frozen 4
  have HF2 := Lib.hid F2
  clear F2
  go_wp2_with fail
  generalize hW3 : ((((w2.setCell ⟨w.heap.size, 0, none⟩ (.int .i64 X')).setCell ⟨w.heap.size, 1, none⟩ (.int .i64 Y')).setCell ⟨w.heap.size, 2, none⟩ (.int .i64 (Wn : Int))).setCell ⟨w.heap.size, 3, none⟩ (.int .i64 (Hn : Int))).setCell ⟨w.heap.size, 4, none⟩ (.slice (some ⟨g, 0, none⟩) l'.length cap') = W3 at *
  obtain ⟨f3, bb3, oo3, _, z3⟩ := fld_store w2 w.heap.size X Y A B _ X' Y' Wn Hn (.slice (some ⟨g, 0, none⟩) l'.length cap') HF2.out W3 hW3.symm
  have HF3 := Lib.hid f3
  have HB3 := Lib.hid (B2.out.trans bb3)
  have HO3 := Lib.hid (oo3 _ _ _ _ HO.out HG.out)
  have HQ3 := Lib.hid (HO3.out.row HML.out)
  clear hW3 f3 bb3 oo3 z3 HO HF2 HF1 B1 B2 c0 c1 c2 c3 c4 qf0 qf1 qf2 qf3 qf4 HL HG
  refine (P1.out W3 HQ3.out HB3.out).mono ?_
  rintro e w4 ⟨⟨x1, y1, p, q, aa, n1, k, rfl, o4⟩, b4⟩
  have F4 := HF3.out.below b4 HF3.out.lt
  have HB4 := Lib.hid (HB3.out.trans (b4.mono HB3.out.size))
  have HQ4 := Lib.hid (HQ3.out.below b4)
  have HV4 := Lib.hid o4
  have HGK : Hid (g < w4.heap.size) := Nat.lt_of_lt_of_le HO3.out.lt.2 b4.size
  clear b4 o4
  obtain ⟨c0, c1, c2, c3, c4⟩ := F4.cells
  have HF4 := Lib.hid F4
  clear F4
  have hk0 : w.heap.size < w4.heap.size := HF4.out.lt
  go_wp2_with fail
  generalize hW5 : w4.alloc (.cells #[.int .i64 x1, .int .i64 y1, .int .i64 p, .int .i64 q, .slice aa n1 k] 36) = W5 at *
  have P5 : Fld W5 w4.heap.size x1 y1 p q (.slice aa n1 k) := by subst hW5; exact Fld.new _ _ _ _ _ _
  have B5 : Below w4.heap.size w4 W5 := by subst hW5; exact (by repeat (first | with_reducible exact Below.refl _ _ | with_reducible apply Below.drew | with_reducible refine below_drewN ?_ _ | (with_reducible refine Below.setCell ?_ ?_ _; rotate_left; focus (first | omega | (simp <;> omega))) | (with_reducible refine Below.alloc ?_ ?_ _; rotate_left; focus (first | omega | (simp <;> omega)))))
  have HF5 := Lib.hid (HF4.out.below B5 HF4.out.lt)
  have HB5 := Lib.hid (HB4.out.trans (B5.mono HB4.out.size))
  have HQ5 := Lib.hid (HQ4.out.below B5)
  have HV5 := Lib.hid (HV4.out.below B5)
  have HP5 := Lib.hid P5
  clear hW5 P5 B5 HB4 HQ4 HV4 HF4 HB3 HQ3 HO3 HF3 c0 c1 c2 c3 c4
  have HK := Lib.hid hk0
  generalize w4.heap.size = k7 at *
  refine (P2.out W5 HQ5.out HB5.out).mono ?_
  rintro e w6 ⟨⟨x2, y2, p2, q2, aa2, n2, k2, rfl, o6⟩, b6⟩
  have P6 := HP5.out.below b6 HP5.out.lt
  have HF6 := Lib.hid (HF5.out.below b6 HF5.out.lt)
  have HB6 := Lib.hid (HB5.out.trans (b6.mono HB5.out.size))
  have HV6 := Lib.hid (HV5.out.below b6)
  have HU6 := Lib.hid o6
  clear b6 o6
  obtain ⟨d0, d1, d2, d3, d4⟩ := P6.cells
  have HP6 := Lib.hid P6
  have lz1 : k7 < w6.heap.size := P6.lt
  have lz0 : w.heap.size < w6.heap.size := HF6.out.lt
  clear P6 HV5 HP5 HQ5 HB5 HF5 hk0
  go_wp2_with fail
  generalize hW7 : w6.alloc (.cells #[.int .i64 x2, .int .i64 y2, .int .i64 p2, .int .i64 q2, .slice aa2 n2 k2] 36) = W7 at *
  have B7 : Below w6.heap.size w6 W7 := by subst hW7; exact (by repeat (first | with_reducible exact Below.refl _ _ | with_reducible apply Below.drew | with_reducible refine below_drewN ?_ _ | (with_reducible refine Below.setCell ?_ ?_ _; rotate_left; focus (first | omega | (simp <;> omega))) | (with_reducible refine Below.alloc ?_ ?_ _; rotate_left; focus (first | omega | (simp <;> omega)))))
  have HB7 := Lib.hid (HB6.out.trans (B7.mono HB6.out.size))
  have HV7 := Lib.hid (HV6.out.below B7)
  have HU7 := Lib.hid (HU6.out.below B7)
  clear hW7 B7 HB6 HV6 HU6 HP6 HF6 d0 d1 d2 d3 d4
  refine (same_out HV7.out HU7.out HS.out).mono ?_
  rintro e w8 ⟨rfl, b8⟩
  have HB8 := Lib.hid (HB7.out.trans (b8.mono HB7.out.size))
  clear b8 HV7 HU7 HB7 HS P1 P2 HML
  go_wp2_with fail
  go_loopw [43] (fun i wr => ∃ k : Nat, k ≤ L.length ∧ i = .int .i64 k ∧ Below w.heap.size w wr) (fun i _ => L.length - (intOf i).toNat)
  case atStart => exact ⟨0, by omega, rfl, HB8.out⟩
  case round =>
    clear HB8
    obtain ⟨k, hk, rfl, B⟩ := hrel
    have HB := Lib.hid B
    by_cases hlt : k < L.length
    · rcases HRW.out.2 with hnil | ⟨g9, og, rfl, hg, hc⟩
      · subst hnil; exact absurd hlt (by simp)
      obtain ⟨h0, h1, h2, h3⟩ := hc k hlt
      have m0 := (B.cell (p := ⟨g9, og + k * 4, none⟩) (by simpa using hg)).trans h0
      have m1 := (B.cell (p := ⟨g9, og + k * 4 + 1, none⟩) (by simpa using hg)).trans h1
      have m2 := (B.cell (p := ⟨g9, og + k * 4 + 2, none⟩) (by simpa using hg)).trans h2
      have m3 := (B.cell (p := ⟨g9, og + k * 4 + 3, none⟩) (by simpa using hg)).trans h3
      have hz := B.size
      have hH := HRW.out.1.2 _ (foAt_mem hlt)
      have KL1 := Lib.hid (fun w => Lift_any (foAt L k).A (foAt L k).B (foAt L k).P (foAt L k).H x y w hH)
      have KL2 := Lib.hid (fun w => refLift_any (foAt L k).A (foAt L k).B (foAt L k).P (foAt L k).H x y w hH)
      have KC1 := Lib.hid (fun w => check_fold (foAt L k).A (foAt L k).B (foAt L k).P (foAt L k).H w hH)
      have KC2 := Lib.hid (fun w => refcheck_fold (foAt L k).A (foAt L k).B (foAt L k).P (foAt L k).H w hH)
      have KO := Lib.hid (fun w => one_same (liftV (foAt L k).A (foAt L k).B (foAt L k).P (foAt L k).H x y) (liftC (foAt L k).A (foAt L k).B (foAt L k).P (foAt L k).H x y) (liftV_zero _ _ _ _ _ _) w)
      have l5 : g9 < wr.heap.size := by omega
      clear h0 h1 h2 h3 hg hc hH B hk
      generalize liftV (foAt L k).A (foAt L k).B (foAt L k).P (foAt L k).H x y = lv at *
      generalize liftC (foAt L k).A (foAt L k).B (foAt L k).P (foAt L k).H x y = lc at *
      generalize foldE (foAt L k).A (foAt L k).B (foAt L k).P (foAt L k).H = fe at *
      generalize (foAt L k).A = fA at *
      generalize (foAt L k).B = fB at *
      generalize (foAt L k).P = fP at *
      generalize (foAt L k).H = fH at *
      go_wp2_with fail
      generalize hW9 : wr.alloc (.cells #[.int .i64 fA, .int .i64 fB, .int .i64 fP, .float .f32 fH] 74) = W9 at *
      have P9 : Blk W9 wr.heap.size #[.int .i64 fA, .int .i64 fB, .int .i64 fP, .float .f32 fH] 74 := by subst hW9; exact Blk.new _ _ _
      have B9 : Below wr.heap.size wr W9 := by subst hW9; exact (by repeat (first | with_reducible exact Below.refl _ _ | with_reducible apply Below.drew | with_reducible refine below_drewN ?_ _ | (with_reducible refine Below.setCell ?_ ?_ _; rotate_left; focus (first | omega | (simp <;> omega))) | (with_reducible refine Below.alloc ?_ ?_ _; rotate_left; focus (first | omega | (simp <;> omega)))))
      clear hW9
      refine (KL1.out _).mono ?_
      rintro e w10 ⟨rfl, b10⟩
      have HP10 := Lib.hid (P9.below b10 P9.lt)
      have HB10 := Lib.hid (HB.out.trans ((B9.trans (b10.mono B9.size)).mono hz))
      clear b10 P9 B9 m0 m1 m2 m3 l5 HB
      generalize wr.heap.size = bk at *
      have t0 : w10.cell? ⟨bk, 0, none⟩ = some (.int .i64 fA) := HP10.out.cell 0
      have t1 : w10.cell? ⟨bk, 1, none⟩ = some (.int .i64 fB) := HP10.out.cell 1
      have t2 : w10.cell? ⟨bk, 2, none⟩ = some (.int .i64 fP) := HP10.out.cell 2
      have t3 : w10.cell? ⟨bk, 3, none⟩ = some (.float .f32 fH) := HP10.out.cell 3
      have l9 : bk < w10.heap.size := HP10.out.lt
      go_wp2_with fail
      refine (KL2.out _).mono ?_
      rintro e w11 ⟨rfl, b11⟩
      have HP11 := Lib.hid (HP10.out.below b11 HP10.out.lt)
      have HB11 := Lib.hid (HB10.out.trans (b11.mono HB10.out.size))
      clear b11 t0 t1 t2 t3 l9 HP10 HB10
      have t0 : w11.cell? ⟨bk, 0, none⟩ = some (.int .i64 fA) := HP11.out.cell 0
      have t1 : w11.cell? ⟨bk, 1, none⟩ = some (.int .i64 fB) := HP11.out.cell 1
      have t2 : w11.cell? ⟨bk, 2, none⟩ = some (.int .i64 fP) := HP11.out.cell 2
      have t3 : w11.cell? ⟨bk, 3, none⟩ = some (.float .f32 fH) := HP11.out.cell 3
      have l9 : bk < w11.heap.size := HP11.out.lt
      go_wp2_with fail
      go_region_held3 (fun w' => w'.cell? ⟨bk, 0, none⟩ = some (.int .i64 fA) ∧ w'.cell? ⟨bk, 1, none⟩ = some (.int .i64 fB) ∧ w'.cell? ⟨bk, 2, none⟩ = some (.int .i64 fP) ∧ w'.cell? ⟨bk, 3, none⟩ = some (.float .f32 fH) ∧ Below w11.heap.size w11 w')
        (first
          | exact ⟨t0, t1, t2, t3, (Below.refl _ _).drew⟩
          | (go_split_ands
             have hs := hb.size
             have hs2 := (show Below w11.heap.size w11 _ by assumption).size
             refine ⟨?_, ?_, ?_, ?_, ?_⟩
             all_goals first
               | (rw [hb.cell (by simp; omega)]; assumption)
               | exact Below.trans (by assumption) (hb.mono (by omega)))
          | (go_split_ands; refine ⟨?_, ?_, ?_, ?_, ?_⟩ <;> assumption))
        (first
          | (go_at_call 41; go_split_ands; refine (KO.out _).mono ?_; rintro e2 w2 ⟨rfl, rfl⟩)
          | (go_at_call 56; go_split_ands; refine (KC1.out _).mono ?_; rintro e2 w2 ⟨rfl, hb⟩)
          | (go_at_call 57; go_split_ands; refine (KC2.out _).mono ?_; rintro e2 w2 ⟨rfl, hb⟩))
      rename_i hHeld
      have HB12 := Lib.hid (HB11.out.trans (hHeld.2.2.2.2.mono HB11.out.size))
      clear hHeld t0 t1 t2 t3 l9
      go_wp2_with fail
      go_roundw
      case rel => exact ⟨k + 1, by omega, by go_num, HB12.out⟩
      case measure => simp [intOf]; omega
    · go_wp2_with fail
      go_ret
      exact ⟨rfl, HB.out⟩
end Go.Proofs.Ytnfebeebjelgbaa

namespace Go.Proofs.Ytnfebeebjelgbaa
open Go.ChangeShapes Go.WideShapes Go.ChangeAt Go.RowKit
open Ieee.Format (fin finE htE allFin allHt all_true all_false mulF subF addF Ht Bd divF rootF floorF easeF mixF)
set_option linter.unusedVariables false

theorem throwV_zero (A B C W : Int) (T : Nat) (x y : Int) (h : throwC A B C W T x y ≠ 0) : throwV A B C W T x y = 0 := by unfold throwV; rw [if_pos h]

set_option maxRecDepth 100000 in
set_option maxHeartbeats 1000000 in
theorem faults_law (a2 : Option Addr) (L : List FaR) (cap2 : Nat) (X Y A B : Int) (a : Option Addr) (l : List Nat) (cap : Nat) (x y : Int) (w : World) (hL : FaRow w a2 L) (hl : Row63 w a l) :
    Calls Try.prog 13 #[.slice a2 L.length cap2, fldV X Y A B a l.length cap, .int .i64 x, .int .i64 y] w fun e w' => e = .returned (.bool true) ∧ Below w.heap.size w w' := by
  have HL := Lib.hid hl
  have HRW := Lib.hid hL
  have hml : L.length ≤ 9223372036854775807 := hL.1.1
  clear hl hL
  go_enter Try.func13, Try.ntmps13
  go_wp2_with fail
  generalize hW0 : w.alloc (.cells #[.int .i64 X, .int .i64 Y, .int .i64 A, .int .i64 B, .slice a l.length cap] 36) = W0 at *
  have F0 : Fld W0 w.heap.size X Y A B (.slice a l.length cap) := by subst hW0; exact Fld.new _ _ _ _ _ _
  have B0 : Below w.heap.size w W0 := by subst hW0; exact (by repeat (first | with_reducible exact Below.refl _ _ | with_reducible apply Below.drew | with_reducible refine below_drewN ?_ _ | (with_reducible refine Below.setCell ?_ ?_ _; rotate_left; focus (first | omega | (simp <;> omega))) | (with_reducible refine Below.alloc ?_ ?_ _; rotate_left; focus (first | omega | (simp <;> omega)))))
  clear hW0
  refine (landed_bel _).mono ?_
  rintro e w1 ⟨rfl, b1⟩
  have F1 := F0.below b1 F0.lt
  have B1 := Lib.hid (B0.trans (b1.mono B0.size))
  clear b1 F0 B0
  obtain ⟨c0, c1, c2, c3, c4⟩ := F1.cells
  have HF1 := Lib.hid F1
  clear F1
  go_wp2_with fail
  refine (fit_any X Y A B a cap l w1 (HL.out.below B1.out)).mono ?_
  rintro e w2 ⟨X', Y', Wn, Hn, g, cap', l', rfl, hr, hsm, ho, b2⟩
  have F2 := HF1.out.below b2 HF1.out.lt
  have B2 := Lib.hid (B1.out.trans (b2.mono B1.out.size))
  have HG : Hid (g ≠ w.heap.size) := by have := ho.lt.1; have := HF1.out.lt; unfold Hid; omega
  have HO := Lib.hid ho
  have HML : Hid (l'.length ≤ 1099511627776) := by
    have h1 := Nat.mul_le_mul hr.h2 hr.w2
    rw [← hr.len] at h1
    unfold Hid; omega
  obtain ⟨C, X1, Y1, W1, H1, S, hS, hp1, hp2⟩ := faults_pair L a2 cap2 X' Y' Wn Hn g 0 cap' l' hr (fun k => srow_lt (HO.out.row HML.out) k)
  have P1 : Hid (∀ W, SRow W (some ⟨g, 0, none⟩) l' → Below w.heap.size w W → Calls Try.prog 73 #[fldV X' Y' Wn Hn (some ⟨g, 0, none⟩) l'.length cap', .slice a2 L.length cap2] W fun e w' => OpP C X1 Y1 W1 H1 S W e w') := fun W h1 h2 => hp1 W h1 (HRW.out.below h2)
  have P2 : Hid (∀ W, SRow W (some ⟨g, 0, none⟩) l' → Below w.heap.size w W → Calls Try.prog 74 #[fldV X' Y' Wn Hn (some ⟨g, 0, none⟩) l'.length cap', .slice a2 L.length cap2] W fun e w' => OpP C X1 Y1 W1 H1 S W e w') := fun W h1 h2 => hp2 W h1 (HRW.out.below h2)
  have HS := Lib.hid hS
  clear hp1 hp2 hS
  clear b2 hr ho c0 c1 c2 c3 c4 hsm
  obtain ⟨c0, c1, c2, c3, c4⟩ := F2.cells
  have qf0 := F2.frozen 0
  have qf1 := F2.frozen 1
  have qf2 := F2.frozen 2
  have qf3 := F2.frozen 3
  have qf4 := F2.frozen 4
  have HF2 := Lib.hid F2
  clear F2
  go_wp2_with fail
  generalize hW3 : ((((w2.setCell ⟨w.heap.size, 0, none⟩ (.int .i64 X')).setCell ⟨w.heap.size, 1, none⟩ (.int .i64 Y')).setCell ⟨w.heap.size, 2, none⟩ (.int .i64 (Wn : Int))).setCell ⟨w.heap.size, 3, none⟩ (.int .i64 (Hn : Int))).setCell ⟨w.heap.size, 4, none⟩ (.slice (some ⟨g, 0, none⟩) l'.length cap') = W3 at *
  obtain ⟨f3, bb3, oo3, _, z3⟩ := fld_store w2 w.heap.size X Y A B _ X' Y' Wn Hn (.slice (some ⟨g, 0, none⟩) l'.length cap') HF2.out W3 hW3.symm
  have HF3 := Lib.hid f3
  have HB3 := Lib.hid (B2.out.trans bb3)
  have HO3 := Lib.hid (oo3 _ _ _ _ HO.out HG.out)
  have HQ3 := Lib.hid (HO3.out.row HML.out)
  clear hW3 f3 bb3 oo3 z3 HO HF2 HF1 B1 B2 c0 c1 c2 c3 c4 qf0 qf1 qf2 qf3 qf4 HL HG
  refine (P1.out W3 HQ3.out HB3.out).mono ?_
  rintro e w4 ⟨⟨x1, y1, p, q, aa, n1, k, rfl, o4⟩, b4⟩
  have F4 := HF3.out.below b4 HF3.out.lt
  have HB4 := Lib.hid (HB3.out.trans (b4.mono HB3.out.size))
  have HQ4 := Lib.hid (HQ3.out.below b4)
  have HV4 := Lib.hid o4
  have HGK : Hid (g < w4.heap.size) := Nat.lt_of_lt_of_le HO3.out.lt.2 b4.size
  clear b4 o4
  obtain ⟨c0, c1, c2, c3, c4⟩ := F4.cells
  have HF4 := Lib.hid F4
  clear F4
  have hk0 : w.heap.size < w4.heap.size := HF4.out.lt
  go_wp2_with fail
  generalize hW5 : w4.alloc (.cells #[.int .i64 x1, .int .i64 y1, .int .i64 p, .int .i64 q, .slice aa n1 k] 36) = W5 at *
  have P5 : Fld W5 w4.heap.size x1 y1 p q (.slice aa n1 k) := by subst hW5; exact Fld.new _ _ _ _ _ _
  have B5 : Below w4.heap.size w4 W5 := by subst hW5; exact (by repeat (first | with_reducible exact Below.refl _ _ | with_reducible apply Below.drew | with_reducible refine below_drewN ?_ _ | (with_reducible refine Below.setCell ?_ ?_ _; rotate_left; focus (first | omega | (simp <;> omega))) | (with_reducible refine Below.alloc ?_ ?_ _; rotate_left; focus (first | omega | (simp <;> omega)))))
  have HF5 := Lib.hid (HF4.out.below B5 HF4.out.lt)
  have HB5 := Lib.hid (HB4.out.trans (B5.mono HB4.out.size))
  have HQ5 := Lib.hid (HQ4.out.below B5)
  have HV5 := Lib.hid (HV4.out.below B5)
  have HP5 := Lib.hid P5
  clear hW5 P5 B5 HB4 HQ4 HV4 HF4 HB3 HQ3 HO3 HF3 c0 c1 c2 c3 c4
  have HK := Lib.hid hk0
  generalize w4.heap.size = k7 at *
  refine (P2.out W5 HQ5.out HB5.out).mono ?_
  rintro e w6 ⟨⟨x2, y2, p2, q2, aa2, n2, k2, rfl, o6⟩, b6⟩
  have P6 := HP5.out.below b6 HP5.out.lt
  have HF6 := Lib.hid (HF5.out.below b6 HF5.out.lt)
  have HB6 := Lib.hid (HB5.out.trans (b6.mono HB5.out.size))
  have HV6 := Lib.hid (HV5.out.below b6)
  have HU6 := Lib.hid o6
  clear b6 o6
  obtain ⟨d0, d1, d2, d3, d4⟩ := P6.cells
  have HP6 := Lib.hid P6
  have lz1 : k7 < w6.heap.size := P6.lt
  have lz0 : w.heap.size < w6.heap.size := HF6.out.lt
  clear P6 HV5 HP5 HQ5 HB5 HF5 hk0
  go_wp2_with fail
  generalize hW7 : w6.alloc (.cells #[.int .i64 x2, .int .i64 y2, .int .i64 p2, .int .i64 q2, .slice aa2 n2 k2] 36) = W7 at *
  have B7 : Below w6.heap.size w6 W7 := by subst hW7; exact (by repeat (first | with_reducible exact Below.refl _ _ | with_reducible apply Below.drew | with_reducible refine below_drewN ?_ _ | (with_reducible refine Below.setCell ?_ ?_ _; rotate_left; focus (first | omega | (simp <;> omega))) | (with_reducible refine Below.alloc ?_ ?_ _; rotate_left; focus (first | omega | (simp <;> omega)))))
  have HB7 := Lib.hid (HB6.out.trans (B7.mono HB6.out.size))
  have HV7 := Lib.hid (HV6.out.below B7)
  have HU7 := Lib.hid (HU6.out.below B7)
  clear hW7 B7 HB6 HV6 HU6 HP6 HF6 d0 d1 d2 d3 d4
  refine (same_out HV7.out HU7.out HS.out).mono ?_
  rintro e w8 ⟨rfl, b8⟩
  have HB8 := Lib.hid (HB7.out.trans (b8.mono HB7.out.size))
  clear b8 HV7 HU7 HB7 HS P1 P2 HML
  go_wp2_with fail
  go_loopw [43] (fun i wr => ∃ k : Nat, k ≤ L.length ∧ i = .int .i64 k ∧ Below w.heap.size w wr) (fun i _ => L.length - (intOf i).toNat)
  case atStart => exact ⟨0, by omega, rfl, HB8.out⟩
  case round =>
    clear HB8
    obtain ⟨k, hk, rfl, B⟩ := hrel
    have HB := Lib.hid B
    by_cases hlt : k < L.length
    · rcases HRW.out.2 with hnil | ⟨g9, og, rfl, hg, hc⟩
      · subst hnil; exact absurd hlt (by simp)
      obtain ⟨h0, h1, h2, h3, h4⟩ := hc k hlt
      have m0 := (B.cell (p := ⟨g9, og + k * 5, none⟩) (by simpa using hg)).trans h0
      have m1 := (B.cell (p := ⟨g9, og + k * 5 + 1, none⟩) (by simpa using hg)).trans h1
      have m2 := (B.cell (p := ⟨g9, og + k * 5 + 2, none⟩) (by simpa using hg)).trans h2
      have m3 := (B.cell (p := ⟨g9, og + k * 5 + 3, none⟩) (by simpa using hg)).trans h3
      have m4 := (B.cell (p := ⟨g9, og + k * 5 + 4, none⟩) (by simpa using hg)).trans h4
      have hz := B.size
      have hH := HRW.out.1.2 _ (faAt_mem hlt)
      have KL1 := Lib.hid (fun w => Throw_any (faAt L k).A (faAt L k).B (faAt L k).C (faAt L k).W (faAt L k).T x y w hH)
      have KL2 := Lib.hid (fun w => refThrow_any (faAt L k).A (faAt L k).B (faAt L k).C (faAt L k).W (faAt L k).T x y w hH)
      have KC1 := Lib.hid (fun w => check_fault (faAt L k).A (faAt L k).B (faAt L k).C (faAt L k).W (faAt L k).T w hH)
      have KC2 := Lib.hid (fun w => refcheck_fault (faAt L k).A (faAt L k).B (faAt L k).C (faAt L k).W (faAt L k).T w hH)
      have KO := Lib.hid (fun w => one_same (throwV (faAt L k).A (faAt L k).B (faAt L k).C (faAt L k).W (faAt L k).T x y) (throwC (faAt L k).A (faAt L k).B (faAt L k).C (faAt L k).W (faAt L k).T x y) (throwV_zero _ _ _ _ _ _ _) w)
      have l5 : g9 < wr.heap.size := by omega
      clear h0 h1 h2 h3 h4 hg hc hH B hk
      generalize throwV (faAt L k).A (faAt L k).B (faAt L k).C (faAt L k).W (faAt L k).T x y = lv at *
      generalize throwC (faAt L k).A (faAt L k).B (faAt L k).C (faAt L k).W (faAt L k).T x y = lc at *
      generalize faultE (faAt L k).A (faAt L k).B (faAt L k).C (faAt L k).W (faAt L k).T = fe at *
      generalize (faAt L k).A = fA at *
      generalize (faAt L k).B = fB at *
      generalize (faAt L k).C = fC at *
      generalize (faAt L k).W = fW at *
      generalize (faAt L k).T = fT at *
      go_wp2_with fail
      generalize hW9 : wr.alloc (.cells #[.int .i64 fA, .int .i64 fB, .int .i64 fC, .int .i64 fW, .float .f32 fT] 95) = W9 at *
      have P9 : Blk W9 wr.heap.size #[.int .i64 fA, .int .i64 fB, .int .i64 fC, .int .i64 fW, .float .f32 fT] 95 := by subst hW9; exact Blk.new _ _ _
      have B9 : Below wr.heap.size wr W9 := by subst hW9; exact (by repeat (first | with_reducible exact Below.refl _ _ | with_reducible apply Below.drew | with_reducible refine below_drewN ?_ _ | (with_reducible refine Below.setCell ?_ ?_ _; rotate_left; focus (first | omega | (simp <;> omega))) | (with_reducible refine Below.alloc ?_ ?_ _; rotate_left; focus (first | omega | (simp <;> omega)))))
      clear hW9
      refine (KL1.out _).mono ?_
      rintro e w10 ⟨rfl, b10⟩
      have HP10 := Lib.hid (P9.below b10 P9.lt)
      have HB10 := Lib.hid (HB.out.trans ((B9.trans (b10.mono B9.size)).mono hz))
      clear b10 P9 B9 m0 m1 m2 m3 m4 l5 HB
      generalize wr.heap.size = bk at *
      have t0 : w10.cell? ⟨bk, 0, none⟩ = some (.int .i64 fA) := HP10.out.cell 0
      have t1 : w10.cell? ⟨bk, 1, none⟩ = some (.int .i64 fB) := HP10.out.cell 1
      have t2 : w10.cell? ⟨bk, 2, none⟩ = some (.int .i64 fC) := HP10.out.cell 2
      have t3 : w10.cell? ⟨bk, 3, none⟩ = some (.int .i64 fW) := HP10.out.cell 3
      have t4 : w10.cell? ⟨bk, 4, none⟩ = some (.float .f32 fT) := HP10.out.cell 4
      have l9 : bk < w10.heap.size := HP10.out.lt
      go_wp2_with fail
      refine (KL2.out _).mono ?_
      rintro e w11 ⟨rfl, b11⟩
      have HP11 := Lib.hid (HP10.out.below b11 HP10.out.lt)
      have HB11 := Lib.hid (HB10.out.trans (b11.mono HB10.out.size))
      clear b11 t0 t1 t2 t3 t4 l9 HP10 HB10
      have t0 : w11.cell? ⟨bk, 0, none⟩ = some (.int .i64 fA) := HP11.out.cell 0
      have t1 : w11.cell? ⟨bk, 1, none⟩ = some (.int .i64 fB) := HP11.out.cell 1
      have t2 : w11.cell? ⟨bk, 2, none⟩ = some (.int .i64 fC) := HP11.out.cell 2
      have t3 : w11.cell? ⟨bk, 3, none⟩ = some (.int .i64 fW) := HP11.out.cell 3
      have t4 : w11.cell? ⟨bk, 4, none⟩ = some (.float .f32 fT) := HP11.out.cell 4
      have l9 : bk < w11.heap.size := HP11.out.lt
      go_wp2_with fail
      go_region_held3 (fun w' => w'.cell? ⟨bk, 0, none⟩ = some (.int .i64 fA) ∧ w'.cell? ⟨bk, 1, none⟩ = some (.int .i64 fB) ∧ w'.cell? ⟨bk, 2, none⟩ = some (.int .i64 fC) ∧ w'.cell? ⟨bk, 3, none⟩ = some (.int .i64 fW) ∧ w'.cell? ⟨bk, 4, none⟩ = some (.float .f32 fT) ∧ Below w11.heap.size w11 w')
        (first
          | exact ⟨t0, t1, t2, t3, t4, (Below.refl _ _).drew⟩
          | (go_split_ands
             have hs := hb.size
             have hs2 := (show Below w11.heap.size w11 _ by assumption).size
             refine ⟨?_, ?_, ?_, ?_, ?_, ?_⟩
             all_goals first
               | (rw [hb.cell (by simp; omega)]; assumption)
               | exact Below.trans (by assumption) (hb.mono (by omega)))
          | (go_split_ands; refine ⟨?_, ?_, ?_, ?_, ?_, ?_⟩ <;> assumption))
        (first
          | (go_at_call 41; go_split_ands; refine (KO.out _).mono ?_; rintro e2 w2 ⟨rfl, rfl⟩)
          | (go_at_call 77; go_split_ands; refine (KC1.out _).mono ?_; rintro e2 w2 ⟨rfl, hb⟩)
          | (go_at_call 78; go_split_ands; refine (KC2.out _).mono ?_; rintro e2 w2 ⟨rfl, hb⟩))
      rename_i hHeld
      have HB12 := Lib.hid (HB11.out.trans (hHeld.2.2.2.2.2.mono HB11.out.size))
      clear hHeld t0 t1 t2 t3 t4 l9
      go_wp2_with fail
      go_roundw
      case rel => exact ⟨k + 1, by omega, by go_num, HB12.out⟩
      case measure => simp [intOf]; omega
    · go_wp2_with fail
      go_ret
      exact ⟨rfl, HB.out⟩
end Go.Proofs.Ytnfebeebjelgbaa
