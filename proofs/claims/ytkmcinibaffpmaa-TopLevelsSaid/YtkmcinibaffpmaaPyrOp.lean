import Derived.Test.YtkmcinibaffpmaaPyrF
import Derived.BigQuiet
import Derived.Deep.QuietTactic
import Derived.Deep.DeepCutAuto
namespace Go.Proofs.Ytkmcinibaffpmaa
open Go.ChangeShapes Go.WideShapes Go.ChangeAt Go.RowKit
open Ieee.Format (fin finE htE allFin allHt all_true all_false mulF subF addF Ht Bd divF rootF floorF easeF mixF)
set_option linter.unusedVariables false

/-- what the first n levels are: the slice's fields, each even but the last -/
def Levels (v : Lv) (L : List FE) : Prop := (∀ i, i < L.length → (feAt L i).1 = lv v i) ∧ ∀ i, i + 1 < L.length → (lv v i).ev
def sliceLen : Value → Int
  | .slice _ n _ => n
  | _ => 0
/-- what pyramid gives -/
def PyrP (v : Lv) (most : Int) (w : World) (e : Ending) (w' : World) : Prop :=
  ∃ u L, e = .returned u ∧ PyrInv w w' w.heap.size u L ∧ Levels v L ∧ (L.length : Int) ≤ most ∧ ((L.length : Int) < most → ¬ (lv v (L.length - 1)).ev)
theorem Levels.one (v : Lv) (g c : Nat) : Levels v [(v, g, c)] := ⟨fun i hi => by simp at hi; subst hi; rfl, fun i hi => by simp at hi⟩
theorem Levels.app {v : Lv} {L : List FE} (h : Levels v L) (p : 0 < L.length) (e : (lv v (L.length - 1)).ev) (g c : Nat) : Levels v (L ++ [(nx (lv v (L.length - 1)), g, c)]) := by
  refine ⟨fun i hi => ?_, fun i hi => ?_⟩
  · rw [List.length_append, List.length_singleton] at hi
    rw [feAt_eq (by simp; omega)]
    by_cases t : i < L.length
    · rw [List.getElem_append_left t, ← feAt_eq t]; exact h.1 i t
    · obtain rfl : i = L.length := by omega
      rw [List.getElem_append_right (by omega)]
      simp only [Nat.sub_self, List.getElem_singleton]
      conv => rhs; rw [show L.length = (L.length - 1) + 1 by omega]
      rfl
  · rw [List.length_append, List.length_singleton] at hi
    by_cases t : i + 1 < L.length
    · exact h.2 i t
    · obtain rfl : i = L.length - 1 := by omega
      exact e
set_option maxRecDepth 100000 in
set_option maxHeartbeats 1000000 in
theorem pyramid_any (v : Lv) (m b o c : Nat) (most : Int) (w : World) (hl : SRow w (some ⟨b, o, none⟩) v.l) (h : v.ok) (hm : v.le m) (fm : fin Ieee.single m) (sm : Ieee.single.sgn m = false) (bm : Ieee.single.V m ≤ Ieee.P2 20) (h1 : 1 ≤ most) (h2 : most ≤ 1024) :
    Calls Try.prog 109 #[fldV v.X v.Y v.W v.H (some ⟨b, o, none⟩) v.l.length c, .int .i64 most] w fun e w' => PyrP v most w e w' := by
  have hne : ∀ u : Lv, u.ok → u.l ≠ [] := fun u hu e => by
    have e1 := hu.len; have e2 := Nat.mul_pos hu.h1 hu.w1
    rw [e] at e1; simp only [List.length_nil] at e1; omega
  have KC := Lib.hid (fun W hW => copy_any v.X v.Y v.W v.H b o c v.l W hW (hne v h))
  have KO := Lib.hid (fun k (hk : ∀ j, j < k → (lv v j).ev) => lv_ok h hm fm sm bm k hk)
  have KE := Lib.hid (fun (u : Lv) W => even_any u.X u.Y u.W u.H W)
  have KD := Lib.hid (fun (u : Lv) (g cap : Nat) W hW hg hu he hle => down_any u m g cap W hW hg hu he hle fm sm bm)
  have HNE := Lib.hid hne
  have H0 := Lib.hid h
  have HL := Lib.hid hl
  obtain ⟨i0, hi, hz0, hz1, hz2⟩ := info_parts Try.infoFld
  clear hl hm fm sm bm h hne
  go_enter Try.func109, Try.ntmps109
  go_wp2_with fail
  refine (KC.out _ (HL.out.below (by repeat (first | with_reducible exact Below.refl _ _ | with_reducible apply Below.drew | with_reducible refine below_drewN ?_ _ | (with_reducible refine Below.setCell ?_ ?_ _; rotate_left; focus (first | omega | (simp <;> omega))) | (with_reducible refine Below.alloc ?_ ?_ _; rotate_left; focus (first | omega | (simp <;> omega))))))).mono ?_
  rintro e w1 ⟨g, cap, rfl, ho, b1⟩
  have hN := HNE.out v H0.out
  have hlen := H0.out.len
  have I0 := Lib.hid (PyrInv.start w w1 w.heap.size (v, g, cap) ((show Below w.heap.size w (w.alloc (.cells #[.int .i64 v.X, .int .i64 v.Y, .int .i64 (v.W : Int), .int .i64 (v.H : Int), .slice (some ⟨b, o, none⟩) v.l.length c] 26)) from (by repeat (first | with_reducible exact Below.refl _ _ | with_reducible apply Below.drew | with_reducible refine below_drewN ?_ _ | (with_reducible refine Below.setCell ?_ ?_ _; rotate_left; focus (first | omega | (simp <;> omega))) | (with_reducible refine Below.alloc ?_ ?_ _; rotate_left; focus (first | omega | (simp <;> omega)))))).trans (b1.mono (by simp))) (Nat.le_refl _) (by have := b1.size; simp at this; omega) ⟨hN, ho.lt.2, ho.row (by have := HL.out.1.1; exact this)⟩)
  simp only at I0
  clear ho b1 hN hlen
  go_wp2_with fail
  generalize w1.alloc (.cells #[.int .i64 v.X, .int .i64 v.Y, .int .i64 (v.W : Int), .int .i64 (v.H : Int), .slice (some ⟨g, 0, none⟩) v.l.length cap] 26) = W1 at *
  clear KC HL
  go_loopw [5] (fun u wr => ∃ L, PyrInv w wr w.heap.size u L ∧ Levels v L ∧ (L.length : Int) ≤ most) (fun u _ => (most - sliceLen u).toNat)
  case atStart => exact ⟨_, I0.out, Levels.one _ _ _, h1⟩
  case round =>
    clear I0
    obtain ⟨L, I, hL, hle⟩ := hrel
    obtain ⟨k, hk⟩ : ∃ k, L.length = k + 1 := ⟨L.length - 1, by have := I.pos; omega⟩
    obtain ⟨gr, cr, rfl, hgB, hgl⟩ := I.val
    have hfe := hL.1 k (by omega)
    have hg := fun t ht => I.get rfl (i := k) (by omega) t ht
    have c0 := hg 0 (by omega)
    have c1 := hg 1 (by omega)
    have c2 := hg 2 (by omega)
    have c3 := hg 3 (by omega)
    have c4 := hg 4 (by omega)
    have hR := I.rows (feAt L k) (by rw [feAt_eq (by omega)]; exact List.getElem_mem _)
    have hK := KO.out k (fun j hj => hL.2 j (by omega))
    unfold feC at c0 c1 c2 c3 c4
    rw [hfe] at c0 c1 c2 c3 c4 hR
    simp only [Nat.add_zero] at c0
    generalize hu : lv v k = u at *
    generalize (feAt L k).2.1 = gk at *
    generalize (feAt L k).2.2 = ck at *
    simp at c0 c1 c2 c3 c4
    have KEu := Lib.hid (fun W => KE.out u W)
    have HR := Lib.hid hR
    have HK := Lib.hid hK
    have HI := Lib.hid I
    have HL := Lib.hid hL
    have HU := Lib.hid hu
    have HF := Lib.hid hfe
    clear KE I hL hR hK hu hg hfe
    obtain ⟨X, Y, Wn, Hn, l⟩ := u
    simp only at *
    rw [hk]
    have t1 : wrap64 (((k + 1 : Nat) : Int) - 1) = (k : Int) := by unfold wrap64; omega
    have t2 : wrap64 ((k : Int) + 1 - 1) = (k : Int) := by unfold wrap64; omega
    by_cases hlt : ((k + 1 : Nat) : Int) < most
    · go_wp2_with fail
      by_cases he : (⟨X, Y, Wn, Hn, l⟩ : Lv).ev
      · have hd := decide_eq_true ((ev_iff ⟨X, Y, Wn, Hn, l⟩).2 he)
        simp only at hd
        refine (KEu.out _).mono ?_
        rintro e w2 ⟨rfl, b1⟩
        rw [hd]
        have I2 := Lib.hid (HI.out.call b1)
        have d0 := (b1.cell (p := ⟨gr, k * 5, none⟩) hgl).trans c0
        have d1 := (b1.cell (p := ⟨gr, k * 5 + 1, none⟩) hgl).trans c1
        have d2 := (b1.cell (p := ⟨gr, k * 5 + 2, none⟩) hgl).trans c2
        have d3 := (b1.cell (p := ⟨gr, k * 5 + 3, none⟩) hgl).trans c3
        have d4 := (b1.cell (p := ⟨gr, k * 5 + 4, none⟩) hgl).trans c4
        have HD := Lib.hid (KD.out ⟨X, Y, Wn, Hn, l⟩ gk ck w2 (HR.out.2.2.below b1) (Nat.lt_of_lt_of_le HR.out.2.1 b1.size) HK.out.1 he HK.out.2.1)
        simp only at HD
        have G2 : gr < w2.heap.size := Nat.lt_of_lt_of_le hgl b1.size
        clear c0 c1 c2 c3 c4 hd KEu HR HI b1 hgl
        go_wp2_with fail
        refine HD.out.mono ?_
        rintro e w3 ⟨⟨g3, cap3, rfl, ho⟩, b3⟩
        have I3 := Lib.hid (show PyrInv w w3 w.heap.size (.slice (some ⟨gr, 0, none⟩) (k + 1) cr) L from hk ▸ I2.out.call b3)
        have hokn := KO.out (k + 1) (fun j hj => by
          by_cases t : j < k
          · exact HL.out.2 j (by omega)
          · obtain rfl : j = k := by omega
            rw [HU.out]; exact he)
        have hnx : lv v (k + 1) = nx ⟨X, Y, Wn, Hn, l⟩ := by show nx (lv v k) = _; rw [HU.out]
        rw [hnx] at hokn
        have HO := Lib.hid (show (nx ⟨X, Y, Wn, Hn, l⟩).l ≠ [] ∧ g3 < w3.heap.size ∧ SRow w3 (some ⟨g3, 0, none⟩) (nx ⟨X, Y, Wn, Hn, l⟩).l from ⟨HNE.out _ hokn.1, ho.lt.2, ho.row (by have := hokn.1.len; have := hokn.1.wh; rw [Nat.mul_comm] at this; omega)⟩)
        have HLn : Hid (∀ c, Levels v (L ++ [(nx ⟨X, Y, Wn, Hn, l⟩, g3, c)])) := by
          intro c
          have := HL.out.app (by omega) (show (lv v (L.length - 1)).ev by rw [hk]; show (lv v k).ev; rw [HU.out]; exact he) g3 c
          rw [show lv v (L.length - 1) = ⟨X, Y, Wn, Hn, l⟩ by rw [hk]; exact HU.out] at this
          exact this
        clear ho b3 hokn hnx I2 HD d0 d1 d2 d3 d4 HL HU HF KO
        generalize nx ⟨X, Y, Wn, Hn, l⟩ = nu at *
        obtain ⟨X', Y', Wn', Hn', l'⟩ := nu
        simp only at *
        have G1 : Hid (L.length + 1 ≤ maxLen) := by unfold maxLen Hid; omega
        have G2' : Hid ((L.length + 1) * 56 ≤ 140737488355328) := by unfold Hid; omega
        have G3 : Hid (w.heap.size ≤ (w3.alloc (.cells #[.int .i64 X', .int .i64 Y', .int .i64 (Wn' : Int), .int .i64 (Hn' : Int), .slice (some ⟨g3, 0, none⟩) l'.length cap3] 26)).heap.size) := by have := I3.out.bz; unfold Hid; simp; omega
        go_wp2_with (at_builtin; refine wpList_append_own _ rfl _ _ 41 rfl w.heap.size 26 i0 (.agg #[.int .i64 0, .int .i64 0, .int .i64 0, .int .i64 0, .slice none 0 0]) 5 56 Try.underlying41 hi hz0 hz1 hz2 rfl (by decide) _ L.length (feL L) rfl (I3.out.own.alloc _) ⟨w3.heap.size, 0, none⟩ 1 1 (feC (⟨X', Y', Wn', Hn', l'⟩, g3, cap3)) rfl rfl (World.news_of_block (cs := #[.int .i64 X', .int .i64 Y', .int .i64 (Wn' : Int), .int .i64 (Hn' : Int), .slice (some ⟨g3, 0, none⟩) l'.length cap3]) (t := 26) (fr := (0, 0)) (heap_alloc_new w3 _)) (by simp [feC, Value.oneCell']) G1.out G2'.out G3.out ?_; intro v' w4 hown' hgrow hnil)
        have M := I3.out.app (r := (⟨X', Y', Wn', Hn', l'⟩, g3, cap3)) HO.out hown' hgrow
        obtain ⟨gg, cc, hv, _⟩ := M.val
        refine ⟨⟨_, M, HLn.out cap3, by rw [List.length_append, List.length_singleton, hk]; omega⟩, ?_⟩
        rw [hv]
        simp only [sliceLen, List.length_append, List.length_singleton, hk]
        omega
      · have hd := decide_eq_false (fun h => he ((ev_iff ⟨X, Y, Wn, Hn, l⟩).1 h))
        simp only at hd
        refine (KEu.out _).mono ?_
        rintro e w2 ⟨rfl, b1⟩
        rw [hd]
        have I2 := Lib.hid (HI.out.call b1)
        have HQ : Hid (PyrP v most w (.returned (.slice (some ⟨gr, 0, none⟩) (k + 1) cr)) w2) := by
          refine Lib.hid ⟨_, L, rfl, hk ▸ I2.out, HL.out, hle, fun _ => ?_⟩
          rw [hk]; show ¬ (lv v k).ev; rw [HU.out]; exact he
        clear c0 c1 c2 c3 c4 hd KEu HR HI b1 hgl I2
        go_wp2_with fail
        exact bodyPost_ret (v := .slice (some ⟨gr, 0, none⟩) (k + 1) cr) (by simp [results, Try.results109, go_sem, *]) rfl HQ.out
    · have HQ : Hid (PyrP v most w (.returned (.slice (some ⟨gr, 0, none⟩) (k + 1) cr)) wr) := 
        Lib.hid ⟨_, L, rfl, hk ▸ HI.out, HL.out, hle, fun h => absurd h (by omega)⟩
      clear c0 c1 c2 c3 c4 KEu HR HI hgl
      go_wp2_with fail
      exact bodyPost_ret (v := .slice (some ⟨gr, 0, none⟩) (k + 1) cr) (by simp [results, Try.results109, go_sem, *]) rfl HQ.out
end Go.Proofs.Ytkmcinibaffpmaa
