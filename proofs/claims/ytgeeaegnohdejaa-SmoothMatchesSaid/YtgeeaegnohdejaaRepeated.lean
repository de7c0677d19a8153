import Derived.Test.YtgeeaegnohdejaaRefInner
namespace Go.Proofs.Ytgeeaegnohdejaa
open Go.Shelf
open Go.ChangeShapes Go.WideShapes Go.ChangeAt Go.RowKit
open Ieee.Format (fin finE htE allFin allHt all_true all_false mulF subF addF Ht)
set_option linter.unusedVariables false

/-- the reference's rounds: 'f' -/
structure RepInv (w wr : World) (X Y W H : Int) (m : List Nat) (b o c : Nat) : Prop where
  fo : Fld wr w.heap.size X Y W H (.slice (some ⟨b, o, none⟩) m.length c)
  rz : Fld wr (w.heap.size + 1) 0 0 0 0 (.slice none 0 0)
  row : SRow wr (some ⟨b, o, none⟩) m
  below : Below w.heap.size w wr
theorem RepInv.upto {w wr w2 : World} {X Y W H : Int} {m : List Nat} {b o c : Nat} (h : RepInv w wr X Y W H m b o c) (hb : Below wr.heap.size wr w2) : RepInv w w2 X Y W H m b o c :=
  ⟨h.fo.below hb h.fo.lt, h.rz.below hb h.rz.lt, h.row.below hb, h.below.trans (hb.mono h.below.size)⟩
theorem RepInv.next {w wr : World} {X Y W H : Int} {m : List Nat} {b o c : Nat} (h : RepInv w wr X Y W H m b o c) {X' Y' W' H' : Int} {m' : List Nat} {B g cap : Nat} (ho : OwnF wr B g cap m') (hg : g ≠ w.heap.size) (hm : m'.length ≤ 1099511627776) :
    ∀ W6, W6 = ((((wr.setCell ⟨w.heap.size, 0, none⟩ (.int .i64 X')).setCell ⟨w.heap.size, 1, none⟩ (.int .i64 Y')).setCell ⟨w.heap.size, 2, none⟩ (.int .i64 W')).setCell ⟨w.heap.size, 3, none⟩ (.int .i64 H')).setCell ⟨w.heap.size, 4, none⟩ (.slice (some ⟨g, 0, none⟩) m'.length cap) →
    RepInv w W6 X' Y' W' H' m' g 0 cap := by
  intro W6 e
  obtain ⟨f, bb, oo, ff, z⟩ := fld_store wr w.heap.size X Y W H _ X' Y' W' H' (.slice (some ⟨g, 0, none⟩) m'.length cap) h.fo W6 e
  exact ⟨f, ff _ _ _ _ _ _ h.rz (by omega), (oo _ _ _ _ ho hg).row hm, h.below.trans bb⟩

/-- the reference's rounds: 'next' lies in the block that came first -/
structure NextInv (wo wr : World) (X Y W H : Int) (v : Value) (m : List Nat) : Prop where
  fo : Fld wr wo.heap.size X Y W H v
  own : wr.ownsRow (wo.heap.size + 1) /-T-/24 1 v m.length (fls m)
  wf : ∀ x ∈ m, x < 4294967296
  below : Below wo.heap.size wo wr
theorem NextInv.call {wo wr w2 : World} {X Y W H : Int} {v : Value} {m : List Nat} (h : NextInv wo wr X Y W H v m) (hb : Below wr.drew.heap.size wr.drew w2) : NextInv wo w2 X Y W H v m :=
  ⟨h.fo.drew.below hb h.fo.lt, ownsRow_below (w := wr.drew) h.own hb (fun k hk => (h.own.lt k hk).2), h.wf, (h.below.drew).trans (hb.mono (show wo.heap.size ≤ wr.heap.size from h.below.size))⟩
theorem NextInv.mid {wo w2 w3 : World} {X Y W H : Int} {v : Value} {m : List Nat} {o : Obj} (h : NextInv wo w2 X Y W H v m) (hg : (w2.alloc o).grownBy w3 v.ownBlock) :
    Fld w3 wo.heap.size X Y W H v ∧ Below wo.heap.size wo w3 := by
  have hne : ∀ k, k < wo.heap.size + 1 → some k ≠ v.ownBlock := fun k hk e => by
    have := (h.own.lt k e.symm).1; omega
  refine ⟨(h.fo.alloc o).grown hg (hne _ (by omega)), ?_⟩
  have hz := h.below.size
  refine (h.below.alloc hz o).grown hg (by simp; omega) (fun k hk => ?_)
  have := (h.own.lt k hk).1
  omega
theorem NextInv.app {wo w2 w3 : World} {X Y W H : Int} {v : Value} {m : List Nat} {o : Obj} (h : NextInv wo w2 X Y W H v m) {y g cap : Nat} (hy : y < 4294967296)
    (hown : w3.ownsRow (wo.heap.size + 1) /-T-/24 1 (.slice (some ⟨g, 0, none⟩) (m.length + 1) cap) (m.length + 1) (fls m ++ [.float .f32 y])) (hg : (w2.alloc o).grownBy w3 v.ownBlock) :
    NextInv wo (w3.setCell ⟨wo.heap.size, 4, none⟩ (.slice (some ⟨g, 0, none⟩) (m.length + 1) cap)) X Y W H (.slice (some ⟨g, 0, none⟩) (m.length + 1) cap) (m ++ [y]) := by
  obtain ⟨c, d⟩ := h.mid hg
  have hgl := (hown.lt g rfl).1
  refine ⟨c.set4 _, ?_, ?_, d.setCell (by show wo.heap.size ≤ wo.heap.size; omega) _⟩
  · have e : fls (m ++ [y]) = fls m ++ [.float .f32 y] := by unfold fls; simp
    have e2 : (m ++ [y]).length = m.length + 1 := by simp
    rw [e, e2]
    refine ⟨hown.1, ?_⟩
    rcases hown.2 with h2 | ⟨g', cap', cur, hv, hB, hh, r⟩
    · exact .inl h2
    · have : g' = g := by simp at hv; exact hv.1.symm
      subst this
      exact .inr ⟨g', cap', cur, hv, hB, (Below.heap_setCell w3 _ _ g' (by show g' ≠ wo.heap.size; omega)).trans hh, r⟩
  · intro x hx
    rcases List.mem_append.1 hx with hx | hx
    · exact h.wf x hx
    · have : x = y := by simpa using hx
      rw [this]; exact hy

set_option maxRecDepth 100000 in
theorem repeated_no (fn : Nat) (caps : Array Value) (X Y : Int) (Wn Hn : Nat) (a : Option Addr) (n c N : Nat) (w : World) (hw : 1 ≤ Wn) (hw2 : Wn ≤ 512) (hh : 1 ≤ Hn) (hh2 : Hn ≤ 512) (hN : N ≤ 64) (hx0 : -4000000 ≤ X) (hx1 : X ≤ 4000000) (hy0 : -4000000 ≤ Y) (hy1 : Y ≤ 4000000) (h : Wn < 1 + 2 * N ∨ Hn < 1 + 2 * N) :
    Calls Try.prog 103 #[fldV X Y Wn Hn a n c, .int .i64 N, .func (.func fn) #[] caps] w fun e w' => e = .returned (.tuple #[fldV 0 0 0 0 none 0 0, .int .i64 10]) ∧ Below w.heap.size w w' := by
  have K := Lib.hid (fun w' => refinner_no X Y Wn Hn a n c N w' hw hw2 hh hh2 hN hx0 hx1 hy0 hy1 h)
  clear h
  go_enter Try.func103, Try.ntmps103
  go_wp2_with fail
  generalize hW0 : (w.alloc (.cells #[.int .i64 X, .int .i64 Y, .int .i64 Wn, .int .i64 Hn, .slice a n c] /-T-/66)).alloc (.cells #[.int .i64 0, .int .i64 0, .int .i64 0, .int .i64 0, .slice none 0 0] /-T-/66) = W0 at *
  obtain ⟨_, F0, B0, z0⟩ := two_fields w X Y Wn Hn (.slice a n c) W0 hW0.symm
  clear hW0
  refine (K.out _).mono ?_
  rintro e w1 ⟨rfl, b1⟩
  have F1 := F0.below b1 F0.lt
  have B1 := Lib.hid (B0.trans (b1.mono B0.size))
  clear b1 B0 F0
  obtain ⟨d0, d1, d2, d3, d4⟩ := F1.cells
  have qf0 := F1.frozen 0
  have qf1 := F1.frozen 1
  have qf2 := F1.frozen 2
  have qf3 := F1.frozen 3
  have qf4 := F1.frozen 4
  have l1 := F1.lt
  clear F1
  go_wp2_with fail
  have B2 := B1.out
  exact bodyPost_ret (v := .tuple #[fldV 0 0 0 0 none 0 0, .int .i64 10]) (by simp [results, Try.results103, go_sem, *]) rfl ⟨rfl, (by have hszz := B2.size; repeat (first | with_reducible exact B2 | with_reducible apply Below.drew | with_reducible refine below_drewN ?_ _ | (with_reducible refine Below.setCell ?_ ?_ _; rotate_left; focus (first | omega | (simp <;> omega))) | (with_reducible refine Below.alloc ?_ ?_ _; rotate_left; focus (first | omega | (simp <;> omega)))))⟩

set_option maxRecDepth 100000 in
set_option maxHeartbeats 4000000 in
theorem repeated_yes (fn : Nat) (caps : Array Value) (φ : Nat → Nat → Nat → Nat → Nat → Nat) (P : Nat → Nat → Prop) (N : Nat) (X Y : Int) (Wn Hn : Nat) (b o c : Nat) (l : List Nat) (w : World) (hl : SRow w (some ⟨b, o, none⟩) l) (hn : l.length = Hn * Wn) (hw : 1 + 2 * N ≤ Wn) (hw2 : Wn ≤ 512) (hh : 1 + 2 * N ≤ Hn) (hh2 : Hn ≤ 512) (hN : N ≤ 64) (hx0 : -4000000 ≤ X) (hx1 : X ≤ 4000000) (hy0 : -4000000 ≤ Y) (hy1 : Y ≤ 4000000)
    (eg : ∀ args w, (callFunc fn args).run Try.prog w = .ok (.enter fn args) w)
    (h0 : ∀ i, P i 0) (hl0 : ∀ x ∈ l, P 0 x) (hφ : ∀ i, i < N → ∀ n s e w v, P i n → P i s → P i e → P i w → P i v → P (i + 1) (φ n s e w v)) (hlt : ∀ i x, P i x → x < 4294967296)
    (hf : ∀ (i : Nat) (Xi Yi : Int) (Wi Hi b o c : Nat) (m : List Nat) (x y : Int) (k : Nat) (W' : World), i < N → Below w.heap.size w W' → SRow W' (some ⟨b, o, none⟩) m → m.length = Hi * Wi → (∀ j, P i (m.getD j 0)) → 3 ≤ Wi → Wi ≤ 512 → 3 ≤ Hi → Hi ≤ 512 → -8388000 ≤ Xi → Xi ≤ 8388000 → -8388000 ≤ Yi → Yi ≤ 8388000 →
      Xi + 1 ≤ x → x < Xi + Wi - 1 → Yi + 1 ≤ y → y < Yi + Hi - 1 → cellNo Xi Yi Wi x y = (k : Int) →
      Calls Try.prog fn (#[fldV Xi Yi Wi Hi (some ⟨b, o, none⟩) m.length c, .int .i64 x, .int .i64 y] ++ caps) W' fun e w' => e = .returned (.float .f32 (nbr φ m Wi k)) ∧ Below W'.heap.size W' w') :
    Calls Try.prog 103 #[fldV X Y Wn Hn (some ⟨b, o, none⟩) l.length c, .int .i64 N, .func (.func fn) #[] caps] w fun e w' => ResP (X + N) (Y + N) (Wn - 2 * N : Nat) (Hn - 2 * N : Nat) (stepsL φ X Y Wn Hn l N) w e w' := by
  have K := Lib.hid (fun w' a n c => refinner_ok X Y Wn Hn a n c N w' hw hw2 hh hh2 hN hx0 hx1 hy0 hy1)
  have HF := Lib.hid hf
  have HL := Lib.hid hl
  have HP := Lib.hid (stepsL_all P φ X Y Wn Hn l N h0 hl0 hφ)
  have HQ := Lib.hid (stepsL_len φ X Y Wn Hn l hn)
  have HH := Lib.hid hlt
  have HZ := Lib.hid h0
  have HS := Lib.hid hφ
  have hll : l.length ≤ 1099511627776 := hl.1.1
  obtain ⟨i0, hi, hz0, hz1, hz2⟩ := info_parts info24
  clear hf hl hl0 hφ hlt h0 hn
  go_enter Try.func103, Try.ntmps103
  go_wp2_with fail
  generalize hW0 : (w.alloc (.cells #[.int .i64 X, .int .i64 Y, .int .i64 Wn, .int .i64 Hn, .slice (some ⟨b, o, none⟩) l.length c] /-T-/66)).alloc (.cells #[.int .i64 0, .int .i64 0, .int .i64 0, .int .i64 0, .slice none 0 0] /-T-/66) = W0 at *
  obtain ⟨E0, F0, B0, z0⟩ := two_fields w X Y Wn Hn (.slice (some ⟨b, o, none⟩) l.length c) W0 hW0.symm
  clear hW0
  have J0 : RepInv w W0 X Y Wn Hn l b o c := ⟨E0, F0, HL.out.below B0, B0⟩
  have HJ0 := Lib.hid J0
  clear J0 E0 F0 B0 z0
  refine (K.out _ _ _ _).mono ?_
  rintro e w1 ⟨⟨p1, p2, p3, p4, rfl⟩, b1⟩
  have HJ1 := Lib.hid (HJ0.out.upto b1)
  clear b1 HJ0 K
  go_wp2_with fail
  generalize hW2 : w1.alloc (.cells #[.int .i64 p1, .int .i64 p2, .int .i64 p3, .int .i64 p4] /-T-/30) = W2 at *
  have HJ2 := Lib.hid (HJ1.out.upto (show Below w1.heap.size w1 W2 by subst hW2; exact (by repeat (first | with_reducible exact Below.refl _ _ | with_reducible apply Below.drew | with_reducible refine below_drewN ?_ _ | (with_reducible refine Below.setCell ?_ ?_ _; rotate_left; focus (first | omega | (simp <;> omega))) | (with_reducible refine Below.alloc ?_ ?_ _; rotate_left; focus (first | omega | (simp <;> omega)))))))
  clear hW2 HJ1 HL
  go_loopw [24] (fun vi wr => ∃ i : Nat, i ≤ N ∧ vi = .int .i64 i ∧ ∃ b o c, RepInv w wr (X + i) (Y + i) (Wn - 2 * i : Nat) (Hn - 2 * i : Nat) (stepsL φ X Y Wn Hn l i) b o c) (fun vi _ => (N - intOf vi).toNat)
  case atStart => exact ⟨0, by omega, rfl, b, o, c, by simpa [stepsL] using HJ2.out⟩
  case round =>
    clear HJ2
    obtain ⟨i, hi', rfl, b, o, c, I⟩ := hrel
    have HI := Lib.hid I
    clear I
    by_cases hlt : i < N
    · have hm1 : Hid ((stepsL φ X Y Wn Hn l i).length = (Hn - 2 * i) * (Wn - 2 * i)) := HQ.out i
      have hP : Hid (∀ j, P i ((stepsL φ X Y Wn Hn l i).getD j 0)) := getD_all (HZ.out i) (HP.out i hi')
      have hsu : Hid (stepsL φ X Y Wn Hn l (i + 1) = madeL (fun x y => nbr φ (stepsL φ X Y Wn Hn l i) (Wn - 2 * i) (cellNo (X + i) (Y + i) ((Wn - 2 * i : Nat) : Int) x y).toNat) (X + i + 1) (Y + i + 1) (Wn - 2 * i - 2) ((Hn - 2 * i - 2) * (Wn - 2 * i - 2))) := rfl
      have hw1 : Hid (Wn - 2 * (i + 1) = Wn - 2 * i - 2 ∧ Hn - 2 * (i + 1) = Hn - 2 * i - 2 ∧ X + ((i + 1 : Nat) : Int) = X + i + 1 ∧ Y + ((i + 1 : Nat) : Int) = Y + i + 1) := ⟨by omega, by omega, by omega, by omega⟩
      have x0 : -4000000 ≤ X + (i : Int) := by omega
      have x1 : X + (i : Int) ≤ 4000100 := by omega
      have y0 : -4000000 ≤ Y + (i : Int) := by omega
      have y1 : Y + (i : Int) ≤ 4000100 := by omega
      have w1 : 3 ≤ Wn - 2 * i := by omega
      have w2 : Wn - 2 * i ≤ 512 := by omega
      have h1 : 3 ≤ Hn - 2 * i := by omega
      have h2 : Hn - 2 * i ≤ 512 := by omega
      generalize hm2 : stepsL φ X Y Wn Hn l (i + 1) = m2 at *
      have HM2 := Lib.hid hm2
      clear hm2
      generalize stepsL φ X Y Wn Hn l i = m at *
      generalize X + (i : Int) = Xi at *
      generalize Y + (i : Int) = Yi at *
      generalize Wn - 2 * i = Wi at *
      generalize Hn - 2 * i = Hi at *
      have hml : m.length ≤ 1099511627776 := by rw [hm1.out]; have := Nat.mul_le_mul h2 w2; omega
      have KS : Hid (∀ w', Calls Try.prog 81 #[reg Xi Yi Wi Hi, .int .i64 (-1)] w' fun e w'' => e = .returned (reg (Xi + 1) (Yi + 1) ((Wi - 2 : Nat) : Int) ((Hi - 2 : Nat) : Int)) ∧ Below w'.heap.size w' w'') := by
        intro w'
        have := grown_any Xi Yi Wi Hi (-1) w' (by omega) (by omega) (by omega) (by omega) (by omega) (by omega) (by omega) (by omega) (by omega) (by omega)
        rw [show (Wi : Int) + 2 * -1 = ((Wi - 2 : Nat) : Int) from by omega, show (Hi : Int) + 2 * -1 = ((Hi - 2 : Nat) : Int) from by omega, show Xi - -1 = Xi + 1 from by omega, show Yi - -1 = Yi + 1 from by omega] at this
        exact this
      obtain ⟨c0, c1, c2, c3, c4⟩ := HI.out.fo.cells
      go_wp2_with fail
      refine (KS.out _).mono ?_
      rintro e wo ⟨rfl, b5⟩
      have HI2 := Lib.hid (HI.out.upto b5)
      have kz : Hid (w.heap.size + 1 < wo.heap.size) := HI2.out.rz.lt
      clear b5 HI c0 c1 c2 c3 c4 KS
      go_wp2_with fail
      -- 'next' is empty
      have N0 : NextInv wo (wo.alloc (.cells #[.int .i64 (Xi + 1), .int .i64 (Yi + 1), .int .i64 ((Wi - 2 : Nat) : Int), .int .i64 ((Hi - 2 : Nat) : Int), .slice none 0 0] /-T-/66)) (Xi + 1) (Yi + 1) ((Wi - 2 : Nat) : Int) ((Hi - 2 : Nat) : Int) (.slice none 0 0) [] :=
        ⟨Fld.new _ _ _ _ _ _, World.ownsRow_nil _ _ _ _, by simp, (by repeat (first | with_reducible exact Below.refl _ _ | with_reducible apply Below.drew | with_reducible refine below_drewN ?_ _ | (with_reducible refine Below.setCell ?_ ?_ _; rotate_left; focus (first | omega | (simp <;> omega))) | (with_reducible refine Below.alloc ?_ ?_ _; rotate_left; focus (first | omega | (simp <;> omega)))))⟩
      have HN0 := Lib.hid N0
      clear N0
      generalize hWN : wo.alloc (.cells #[.int .i64 (Xi + 1), .int .i64 (Yi + 1), .int .i64 ((Wi - 2 : Nat) : Int), .int .i64 ((Hi - 2 : Nat) : Int), .slice none 0 0] /-T-/66) = WN at *
      clear hWN
      have HFN : Hid (∀ x y, Xi + 1 ≤ x → x < Xi + 1 + ((Wi - 2 : Nat) : Int) → Yi + 1 ≤ y → y < Yi + 1 + ((Hi - 2 : Nat) : Int) → ∀ W', Below wo.heap.size wo W' → Calls Try.prog fn (#[fldV Xi Yi Wi Hi (some ⟨b, o, none⟩) m.length c, .int .i64 x, .int .i64 y] ++ caps) W' fun e w' => e = .returned (.float .f32 (nbr φ m Wi (cellNo Xi Yi Wi x y).toNat)) ∧ Below W'.heap.size W' w') := by
        intro x y g1 g2 g3 g4 W' hb
        have I' := HI2.out.upto hb
        have hk : cellNo Xi Yi Wi x y = ((cellNo Xi Yi Wi x y).toNat : Int) := by
          have e1 := Int.mul_le_mul_of_nonneg_right (show 1 ≤ y - Yi by omega) (show (0 : Int) ≤ Wi by omega)
          unfold cellNo
          omega
        exact HF.out i Xi Yi Wi Hi b o c m x y _ W' hlt I'.below I'.row hm1.out hP.out w1 w2 h1 h2 (by omega) (by omega) (by omega) (by omega) g1 (by omega) g3 (by omega) hk
      have HPN : Hid (∀ x y : Int, nbr φ m Wi (cellNo Xi Yi Wi x y).toNat < 4294967296) := fun x y => HH.out (i + 1) _ (HS.out i hlt _ _ _ _ _ (hP.out _) (hP.out _) (hP.out _) (hP.out _) (hP.out _))
      obtain ⟨ψ, hψ⟩ : ∃ ψ : Int → Int → Nat, ψ = fun x y => nbr φ m Wi (cellNo Xi Yi Wi x y).toNat := ⟨_, rfl⟩
      have hsu1 := hsu.out
      rw [← hψ] at hsu1
      have HFN2 : Hid (∀ x y, Xi + 1 ≤ x → x < Xi + 1 + ((Wi - 2 : Nat) : Int) → Yi + 1 ≤ y → y < Yi + 1 + ((Hi - 2 : Nat) : Int) → ∀ W', Below wo.heap.size wo W' → Calls Try.prog fn (#[fldV Xi Yi Wi Hi (some ⟨b, o, none⟩) m.length c, .int .i64 x, .int .i64 y] ++ caps) W' fun e w' => e = .returned (.float .f32 (ψ x y)) ∧ Below W'.heap.size W' w') := by rw [hψ]; exact HFN.out
      have HPN2 : Hid (∀ x y : Int, ψ x y < 4294967296) := by rw [hψ]; exact HPN.out
      have HSU := Lib.hid hsu1
      clear HFN HPN hψ hsu1 hsu hP hm1
      have e1 : Hid (Xi + 1 + ((Wi - 2 : Nat) : Int) = Xi + 1 + ((Wi - 2 : Nat) : Int)) := rfl
      obtain ⟨Wa, hWa⟩ : ∃ Wa : Nat, Wi - 2 = Wa := ⟨_, rfl⟩
      obtain ⟨Ha, hHa⟩ : ∃ Ha : Nat, Hi - 2 = Ha := ⟨_, rfl⟩
      have wa1 : 1 ≤ Wa := by omega
      have wa2 : Wa ≤ 510 := by omega
      have ha1 : 1 ≤ Ha := by omega
      have ha2 : Ha ≤ 510 := by omega
      rw [hWa, hHa] at HN0 HFN2 HSU
      have HWH : Hid (Wi - 2 = Wa ∧ Hi - 2 = Ha) := ⟨hWa, hHa⟩
      have xa0 : -4000000 ≤ Xi + 1 := by omega
      have xa1 : Xi + 1 ≤ 4000200 := by omega
      have ya0 : -4000000 ≤ Yi + 1 := by omega
      have ya1 : Yi + 1 ≤ 4000200 := by omega
      rw [hWa, hHa]
      clear e1 hWa hHa
      generalize Xi + 1 = Xa at *
      generalize Yi + 1 = Ya at *
      generalize ((Wi : Nat) : Int) = Wc at *
      generalize ((Hi : Nat) : Int) = Hc at *
      go_loopw [11] (fun vy wr => ∃ j : Nat, j ≤ Ha ∧ vy = .int .i64 (Ya + j) ∧ ∃ v, NextInv wo wr Xa Ya Wa Ha v (madeL ψ Xa Ya Wa (j * Wa))) (fun vy _ => (Ya + Ha - intOf vy).toNat)
      case atStart => exact ⟨0, by omega, by simp, _, by rw [Nat.zero_mul]; exact HN0.out⟩
      case round =>
        clear HN0
        obtain ⟨j, hj, rfl, v, I⟩ := hrel
        obtain ⟨r0, r1, r2, r3, r4⟩ := I.fo.cells
        have IH := Lib.hid I
        clear I
        by_cases hlt2 : j < Ha
        · have b1 : (Ya + j : Int) < Ya + Ha := by omega
          go_wp2
          clear r0 r1 r2 r3 r4 hj
          go_loopw [12] (fun vx wi => ∃ i' : Nat, i' ≤ Wa ∧ vx = .int .i64 (Xa + i') ∧ ∃ v, NextInv wo wi Xa Ya Wa Ha v (madeL ψ Xa Ya Wa (j * Wa + i'))) (fun vx _ => (Xa + Wa - intOf vx).toNat)
          case atStart => exact ⟨0, by omega, by simp, v, by rw [Nat.add_zero]; exact IH.out⟩
          case round =>
            clear IH v
            obtain ⟨i', hi'', rfl, v, I⟩ := hrel
            obtain ⟨r0, r1, r2, r3, r4⟩ := I.fo.cells
            have IH := Lib.hid I
            clear I
            by_cases hlt3 : i' < Wa
            · have b2 : (Xa + i' : Int) < Xa + Wa := by omega
              have HC : Hid (∀ W', Below wo.heap.size wo W' → Calls Try.prog fn (#[fldV Xi Yi Wc Hc (some ⟨b, o, none⟩) m.length c, .int .i64 (Xa + (i' : Int)), .int .i64 (Ya + (j : Int))] ++ caps) W' fun e w' => e = .returned (.float .f32 (ψ (Xa + (i' : Int)) (Ya + (j : Int)))) ∧ Below W'.heap.size W' w') := HFN2.out _ _ (by omega) (by omega) (by omega) (by omega)
              have HY : Hid (ψ (Xa + (i' : Int)) (Ya + (j : Int)) < 4294967296) := HPN2.out _ _
              have HM : Hid (madeL ψ Xa Ya Wa (j * Wa + i') ++ [ψ (Xa + (i' : Int)) (Ya + (j : Int))] = madeL ψ Xa Ya Wa (j * Wa + (i' + 1))) := (madeL_succ ψ Xa Ya Wa i' j hlt3).symm
              have hmk : (madeL ψ Xa Ya Wa (j * Wa + i')).length ≤ 262656 := by
                rw [madeL_len]
                have := Nat.mul_le_mul (show j ≤ 510 by omega) wa2
                omega
              generalize madeL ψ Xa Ya Wa (j * Wa + i') = mm at *
              generalize ψ (Xa + (i' : Int)) (Ya + (j : Int)) = y0 at *
              have HB := Lib.hid IH.out.below
              have FI := HI2.out.upto IH.out.below
              obtain ⟨s0, s1, s2, s3, s4⟩ := FI.fo.cells
              clear FI
              have G1 : Hid (mm.length + 1 ≤ maxLen) := by unfold maxLen Hid; omega
              have G2 : Hid ((mm.length + 1) * 4 ≤ 140737488355328) := by unfold Hid; omega
              go_wp2_with fail
              go_region_law (first
                | (refine step_append_lies _ (by rfl) _ _ _ (by rfl) (wo.heap.size + 1) /-T-/24 i0 (.float .f32 0) 1 4 Try.underlying64 hi hz0 hz1 hz2 rfl (by omega) v mm.length (fls mm) (by rfl) (I2.out.own.alloc _) ⟨w2.heap.size, 0, none⟩ 1 1 [.float .f32 y0] (by rfl) (by rfl) (World.news_of_block (cs := #[.float .f32 y0]) (t := /-T-/24) (fr := (0, 0)) (heap_alloc_new w2 _)) (by simp [Value.oneCell']) (by omega) G1.out G2.out G3.out (w2.heap.size + 1) (by simp) ?_; intro gg cap w3 hown3 hgrow3 hat3 hlt3; obtain ⟨e3, e4⟩ := I2.out.mid hgrow3; have e5 := e3.cells.2.2.2.2; have e6 := e3.frozen 4; have M3 := Lib.hid (I2.out.app HY.out hown3 hgrow3); clear e3 e4 hown3 hgrow3 hat3 hlt3)
                | (go_simp; go_at_fn fn; refine (HC.out _ HB.out.drew).mono ?_; rintro e2 w2 ⟨rfl, hb⟩; have I2 := Lib.hid (IH.out.call hb); have G3 : Hid (wo.heap.size + 1 ≤ (w2.alloc (.cells #[.float .f32 y0] /-T-/24)).heap.size) := (by have := I2.out.fo.lt; unfold Hid; simp; omega); have d4 := I2.out.fo.cells.2.2.2.2; have lz : wo.heap.size < w2.heap.size := I2.out.fo.lt; clear hb))
              all_goals
                go_wp2
                go_roundw
                case rel => exact ⟨i' + 1, by omega, by go_num, _, HM.out ▸ M3.out⟩
                case measure => simp [intOf]; omega
            · have HE : Hid (j * Wa + i' = (j + 1) * Wa) := by
                have : i' = Wa := by omega
                unfold Hid; rw [this, Nat.add_mul, Nat.one_mul]
              have IH1 := IH.out
              rw [HE.out] at IH1
              have IH2 := Lib.hid IH1
              clear IH IH1
              go_wp2
              go_roundw
              case rel => exact ⟨j + 1, by omega, by go_num, _, IH2.out⟩
              case measure => simp [intOf]; omega
        · have HE : Hid (j * Wa = Ha * Wa) := by
            have : j = Ha := by omega
            unfold Hid; rw [this]
          have IH2 : Hid (NextInv wo wr Xa Ya Wa Ha v (madeL ψ Xa Ya Wa (Ha * Wa))) := HE.out ▸ IH.out
          clear IH
          rw [← HSU.out] at IH2
          have hml2 : m2.length = Ha * Wa := by rw [HSU.out, madeL_len]
          have hm3 : 1 ≤ Ha * Wa := Nat.mul_le_mul ha1 wa1
          have hm4 : Ha * Wa ≤ 262144 := by have := Nat.mul_le_mul ha2 wa2; omega
          obtain ⟨g, cap, rfl, hown⟩ : ∃ g cap, v = .slice (some ⟨g, 0, none⟩) m2.length cap ∧ OwnF wr (wo.heap.size + 1) g cap m2 := by
            have ho := IH2.out.own
            rcases ho.2 with ⟨_, h0⟩ | ⟨g, cap, cur, rfl, hB, hh, r⟩
            · exfalso
              omega
            · exact ⟨g, cap, rfl, ⟨ho, IH2.out.wf⟩⟩
          have HO := Lib.hid hown
          have hgk : Hid (g ≠ w.heap.size) := by have := hown.lt; have := kz.out; unfold Hid; omega
          have hml3 : Hid (m2.length ≤ 1099511627776) := by unfold Hid; omega
          clear hown hml2 hm3 hm4
          have I4 := HI2.out.upto IH2.out.below
          have F4 := I4.fo
          have HI4 := Lib.hid I4
          clear I4
          obtain ⟨s0, s1, s2, s3, s4⟩ := F4.cells
          have qf0 := F4.frozen 0
          have qf1 := F4.frozen 1
          have qf2 := F4.frozen 2
          have qf3 := F4.frozen 3
          have qf4 := F4.frozen 4
          have kl4 := F4.lt
          obtain ⟨r0, r1, r2, r3, r4⟩ := IH2.out.fo.cells
          clear F4
          go_wp2
          go_roundw
          case rel =>
            refine ⟨i + 1, by omega, by go_num, g, 0, cap, ?_⟩
            obtain ⟨e1, e2, e3, e4⟩ := hw1.out
            rw [e1, e2, e3, e4, HWH.out.1, HWH.out.2, HM2.out]
            exact HI4.out.next HO.out hgk.out hml3.out _ rfl
          case measure => simp [intOf]; omega
    · obtain rfl : i = N := by omega
      have hm1 := Lib.hid (HQ.out i)
      have hP := Lib.hid (HP.out i hi')
      have hPl := Lib.hid (HH.out i)
      have hp0 := Lib.hid (HZ.out i)
      clear HP HQ HS HF HH HZ
      generalize hmq : stepsL φ X Y Wn Hn l i = m at *
      have HMQ := Lib.hid hmq
      clear hmq
      obtain ⟨Xi, hXi⟩ : ∃ Xi : Int, X + (i : Int) = Xi := ⟨_, rfl⟩
      obtain ⟨Yi, hYi⟩ : ∃ Yi : Int, Y + (i : Int) = Yi := ⟨_, rfl⟩
      obtain ⟨Wi, hWi⟩ : ∃ Wi : Nat, Wn - 2 * i = Wi := ⟨_, rfl⟩
      obtain ⟨Hi, hHi⟩ : ∃ Hi : Nat, Hn - 2 * i = Hi := ⟨_, rfl⟩
      have HI1 := HI.out
      rw [hXi, hYi, hWi, hHi] at HI1
      rw [hWi, hHi] at hm1
      have HXE : Hid (X + (i : Int) = Xi ∧ Y + (i : Int) = Yi ∧ Wn - 2 * i = Wi ∧ Hn - 2 * i = Hi) := ⟨hXi, hYi, hWi, hHi⟩
      have x0 : -4000000 ≤ Xi := by omega
      have x1 : Xi ≤ 4000100 := by omega
      have y0 : -4000000 ≤ Yi := by omega
      have y1 : Yi ≤ 4000100 := by omega
      have w1 : 1 ≤ Wi := by omega
      have w2 : Wi ≤ 512 := by omega
      have h1 : 1 ≤ Hi := by omega
      have h2 : Hi ≤ 512 := by omega
      clear hXi hYi hWi hHi HI
      obtain ⟨c0, c1, c2, c3, c4⟩ := HI1.fo.cells
      have HI := Lib.hid HI1
      clear HI1
      go_wp2_with fail
      have hm2 := Lib.hid (madeL_map id Xi Yi Wi Hi m w1 hm1.out)
      refine (made_any 157 #[.pointer (some ⟨w.heap.size, 0, none⟩)] (fun x y => id (m.getD (cellNo Xi Yi Wi x y).toNat 0)) Xi Yi Wi Hi wr (by omega) (by omega) (by omega) (by omega) (by omega) (by omega) (by omega) (by omega) (enters_of Try.func157 (by kernel_rfl) rfl) ?_ ?_).mono ?_
      · intro x y _ _ _ _
        exact hPl.out _ (getD_all hp0.out hP.out _)
      · intro x y g1 g2 g3 g4 W' hb
        have I' := HI.out.upto hb
        exact lastfn_any Xi Yi Wi Hi x y b o c _ m W' I'.row hm1.out (by omega) (by omega) (by omega) (by omega) (by omega) (by omega) (by omega) (by omega) g1 g2 g3 g4 I'.fo
      rintro e w3 hM
      rw [hm2.out, List.map_id] at hM
      obtain ⟨M1, M2, hb3⟩ := hM.res
      have I3 := HI.out.upto hb3
      have F3b := I3.rz
      have B3 := Lib.hid I3.below
      have hgs : w.heap.size + 1 < wr.heap.size := HI.out.rz.lt
      clear hM hb3 I3 HI c0 c1 c2 c3 c4 hm2 hP hPl hp0 hm1
      cases hh : allHt m with
      | true =>
        have HH := Lib.hid hh
        obtain ⟨g, cap, rfl, ho⟩ := M1 hh
        have HO := Lib.hid (OwnF.base ho (show w.heap.size ≤ wr.heap.size by omega))
        have hgl : Hid (wr.heap.size ≤ g) := ho.lt.1
        clear M1 M2 hh ho
        obtain ⟨d0, d1, d2, d3, d4⟩ := F3b.cells
        have qf0 := F3b.frozen 0
        have qf1 := F3b.frozen 1
        have qf2 := F3b.frozen 2
        have qf3 := F3b.frozen 3
        have qf4 := F3b.frozen 4
        clear F3b
        go_wp2_with fail
        have B4 := B3.out
        have O4 := HO.out
        have hgl' : w.heap.size + 1 < g := by have := hgl.out; omega
        obtain rfl := HMQ.out
        obtain ⟨z1, z2, z3, z4⟩ := HXE.out
        refine bodyPost_ret (v := .tuple #[fldV Xi Yi Wi Hi (some ⟨g, 0, none⟩) (stepsL φ X Y Wn Hn l i).length cap, .int .i64 0]) (by simp [results, Try.results103, go_sem, *]) rfl ⟨fun _ => ⟨g, cap, by rw [z1, z2, z3, z4], (by have hgg := O4.lt; repeat (first | with_reducible exact O4 | with_reducible refine OwnF.drew ?_ | with_reducible refine OwnF.drewN ?_ _ | (with_reducible refine OwnF.setCell ?_ ?_ _; rotate_left; focus (first | omega | (simp <;> omega))) | with_reducible refine OwnF.alloc ?_ _))⟩, fun h => absurd (HH.out.symm.trans h) (by decide), (by have hszz := B4.size; repeat (first | with_reducible exact B4 | with_reducible apply Below.drew | with_reducible refine below_drewN ?_ _ | (with_reducible refine Below.setCell ?_ ?_ _; rotate_left; focus (first | omega | (simp <;> omega))) | (with_reducible refine Below.alloc ?_ ?_ _; rotate_left; focus (first | omega | (simp <;> omega)))))⟩
      | false =>
        have HH := Lib.hid hh
        obtain rfl := M2 hh
        clear M1 M2 hh
        obtain ⟨d0, d1, d2, d3, d4⟩ := F3b.cells
        have qf0 := F3b.frozen 0
        have qf1 := F3b.frozen 1
        have qf2 := F3b.frozen 2
        have qf3 := F3b.frozen 3
        have qf4 := F3b.frozen 4
        clear F3b
        go_wp2_with fail
        have B4 := B3.out
        obtain rfl := HMQ.out
        refine bodyPost_ret (v := .tuple #[fldV 0 0 0 0 none 0 0, .int .i64 3]) (by simp [results, Try.results103, go_sem, *]) rfl ⟨fun h => absurd (HH.out.symm.trans h) (by decide), fun _ => rfl, (by have hszz := B4.size; repeat (first | with_reducible exact B4 | with_reducible apply Below.drew | with_reducible refine below_drewN ?_ _ | (with_reducible refine Below.setCell ?_ ?_ _; rotate_left; focus (first | omega | (simp <;> omega))) | (with_reducible refine Below.alloc ?_ ?_ _; rotate_left; focus (first | omega | (simp <;> omega)))))⟩
end Go.Proofs.Ytgeeaegnohdejaa
