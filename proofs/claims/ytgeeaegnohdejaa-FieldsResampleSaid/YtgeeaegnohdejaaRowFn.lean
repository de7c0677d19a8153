import Derived.Test.YtgeeaegnohdejaaPlaces
namespace Go.Proofs.Ytgeeaegnohdejaa
open Go.Shelf
open Go.ChangeShapes Go.WideShapes Go.ChangeAt Go.RowKit
open Ieee.Format (fin finE htE allFin allHt all_true all_false mulF subF addF Ht Bd mixF mix_bd shareF share_facts)
set_option linter.unusedVariables false

/-- a single is zero -/
def zf (s : Nat) : Bool := Go.FloatKind.f32.format.order s 0 == some .eq
/-- the value between two cells of a row -/
def rowV (X Y : Int) (Wn Hn : Nat) (l : List Nat) (i y : Int) (s : Nat) : Option Nat :=
  if inR X Y Wn Hn i y then
    if zf s = true then some (l.getD (cellNo X Y Wn i y).toNat 0)
    else if inR X Y Wn Hn (i + 1) y then some (mixF (l.getD (cellNo X Y Wn i y).toNat 0) (l.getD (cellNo X Y Wn (i + 1) y).toNat 0) s) else none
  else none
theorem rowV_bd {X Y : Int} {Wn Hn : Nat} {l : List Nat} {i y : Int} {s v : Nat} (hl : ∀ j, Bd 20 (l.getD j 0)) (hs : Bd 0 s) (h : rowV X Y Wn Hn l i y s = some v) : Bd 22 v := by
  unfold rowV at h
  split at h
  · split at h
    · cases h; exact (hl _).mono (by omega)
    · split at h
      · cases h; exact (mix_bd (hl _) (hl _) hs (by omega)).2.2
      · cases h
  · cases h
theorem cell_in {X Y : Int} {Wn Hn : Nat} {i y : Int} (h1 : 1 ≤ Wn) (h2 : Wn ≤ 512) (h3 : 1 ≤ Hn) (h4 : Hn ≤ 512) (h : inR X Y Wn Hn i y) : cellNo X Y Wn i y = ((cellNo X Y Wn i y).toNat : Int) ∧ (cellNo X Y Wn i y).toNat < Hn * Wn := by
  obtain ⟨a1, a2, a3, a4⟩ := h
  obtain ⟨m0, m1, m2, m3⟩ := cellNo_in (show (1 : Int) ≤ Wn by omega) (by omega) (show (1 : Int) ≤ Hn by omega) (by omega) a1 a2 a3 a4
  refine ⟨by omega, ?_⟩
  have e : ((Hn * Wn : Nat) : Int) = (Wn : Int) * Hn := by rw [Int.natCast_mul, Int.mul_comm]
  omega

set_option maxRecDepth 100000 in
theorem row_fn (X Y : Int) (Wn Hn : Nat) (b o c k p q : Nat) (i y : Int) (s : Nat) (l : List Nat) (w : World) (hl : SRow w (some ⟨b, o, none⟩) l) (hn : l.length = Hn * Wn) (hb : ∀ j, Bd 20 (l.getD j 0)) (hs : Bd 0 s) (hw : 1 ≤ Wn) (hw2 : Wn ≤ 512) (hh : 1 ≤ Hn) (hh2 : Hn ≤ 512) (hx0 : -8388608 ≤ X) (hx1 : X ≤ 8388608) (hy0 : -8388608 ≤ Y) (hy1 : Y ≤ 8388608)
    (hi1 : -1099511627776 ≤ i) (hi2 : i ≤ 1099511627776) (hf : Fld w k X Y Wn Hn (.slice (some ⟨b, o, none⟩) l.length c)) (hp : w.cell? ⟨p, 0, none⟩ = some (.int .i64 i)) (pl : p < w.heap.size) (hq : w.cell? ⟨q, 0, none⟩ = some (.float .f32 s)) (ql : q < w.heap.size) :
    Calls Try.prog 158 #[.int .i64 y, .pointer (some ⟨k, 0, none⟩), .pointer (some ⟨p, 0, none⟩), .pointer (some ⟨q, 0, none⟩)] w fun e w' => e = .returned (.tuple #[.float .f32 ((rowV X Y Wn Hn l i y s).getD 0), .bool (rowV X Y Wn Hn l i y s).isSome]) ∧ Below w.heap.size w w' := by
  have kl := hf.lt
  obtain ⟨c0, c1, c2, c3, c4⟩ := hf.cells
  have HFL := Lib.hid hf
  have HL := Lib.hid hl
  clear hf hl
  by_cases h1 : inR X Y Wn Hn i y
  · obtain ⟨e1, e2⟩ := cell_in hw hw2 hh hh2 h1
    have K1 := Lib.hid (fun w' => place_in X Y Wn Hn i y _ w' hw hw2 hh hh2 hx0 hx1 hy0 hy1 h1 e1)
    rw [← hn] at e2
    generalize hk1 : (cellNo X Y Wn i y).toNat = k1 at *
    by_cases hz : zf s = true
    · have HR : Hid (rowV X Y Wn Hn l i y s = some (l.getD k1 0)) := by unfold Hid rowV; rw [if_pos h1, if_pos hz, hk1]
      have zz : (Go.FloatKind.f32.format.order s 0 == some .eq) = true := hz
      clear h1 e1 hz hk1
      generalize rowV X Y Wn Hn l i y s = R at *
      obtain rfl := HR.out
      go_enter Try.func158, Try.ntmps158
      go_wp2_with fail
      refine (K1.out _).mono ?_
      rintro e w1 ⟨rfl, b1⟩
      have F1 := HFL.out.below b1 kl
      have a1 := (HL.out.below b1).at_ e2
      have q1 := (b1.cell (p := ⟨q, 0, none⟩) ql).trans hq
      obtain ⟨d0, d1, d2, d3, d4⟩ := F1.cells
      have B1 := Lib.hid b1
      clear b1 F1 c0 c1 c2 c3 c4 hp hq HFL
      generalize hv : l.getD k1 0 = v at *
      have HV := Lib.hid hv
      clear hv
      go_wp2_with fail
      have hv := HV.out
      refine bodyPost_ret (v := .tuple #[.float .f32 v, .bool true]) (by simp [results, Try.results158, go_sem, *]) rfl ⟨by rw [hv]; rfl, B1.out⟩
    · have zz : (Go.FloatKind.f32.format.order s 0 == some .eq) = false := by simpa [zf] using hz
      by_cases h2 : inR X Y Wn Hn (i + 1) y
      · obtain ⟨e3, e4⟩ := cell_in hw hw2 hh hh2 h2
        have K2 := Lib.hid (fun w' => place_in X Y Wn Hn (i + 1) y _ w' hw hw2 hh hh2 hx0 hx1 hy0 hy1 h2 e3)
        rw [← hn] at e4
        generalize hk2 : (cellNo X Y Wn (i + 1) y).toNat = k2 at *
        have HR : Hid (rowV X Y Wn Hn l i y s = some (mixF (l.getD k1 0) (l.getD k2 0) s)) := by unfold Hid rowV; rw [if_pos h1, if_neg hz, if_pos h2, hk1, hk2]
        have KM := Lib.hid (fun w' => mix_any 20 (l.getD k1 0) (l.getD k2 0) s w' (hb _) (hb _) hs (by omega))
        clear h1 h2 e1 e3 hz hk1 hk2 hb hs
        generalize rowV X Y Wn Hn l i y s = R at *
        obtain rfl := HR.out
        have hlen := HL.out.1.1
        go_enter Try.func158, Try.ntmps158
        go_wp2_with fail
        refine (K1.out _).mono ?_
        rintro e w1 ⟨rfl, b1⟩
        have F1 := HFL.out.below b1 kl
        have HL1 := Lib.hid (HL.out.below b1)
        have q1 := (b1.cell (p := ⟨q, 0, none⟩) ql).trans hq
        have p1 := (b1.cell (p := ⟨p, 0, none⟩) pl).trans hp
        obtain ⟨d0, d1, d2, d3, d4⟩ := F1.cells
        have HF1 := Lib.hid F1
        have B1 := Lib.hid b1
        have kl1 := F1.lt
        have z1 : w.heap.size ≤ w1.heap.size := b1.size
        clear b1 F1 c0 c1 c2 c3 c4 hp hq HFL HL
        go_wp2_with fail
        refine (K2.out _).mono ?_
        rintro e w2 ⟨rfl, b2⟩
        have F2 := HF1.out.below b2 kl1
        have L2 := HL1.out.below b2
        have a1 := L2.at_ e2
        have a2 := L2.at_ e4
        have q2 := (b2.cell (p := ⟨q, 0, none⟩) (by simp; omega)).trans q1
        have B2 := Lib.hid (B1.out.trans (b2.mono B1.out.size))
        clear d0 d1 d2 d3 d4 q1 p1 b2 B1 HF1 HL1 L2
        obtain ⟨d0, d1, d2, d3, d4⟩ := F2.cells
        clear F2
        generalize hzz : mixF (l.getD k1 0) (l.getD k2 0) s = z at *
        have HZ := Lib.hid hzz
        clear hzz
        have a1' := a1
        generalize hv1 : l.getD k1 0 = v1 at *
        generalize hv2 : l.getD k2 0 = v2 at *
        have HV1 := Lib.hid hv1
        have HV2 := Lib.hid hv2
        clear hv1 hv2 a1'
        go_wp2_with fail
        go_quiet ((go_at_call 143; exact Calls.quiet_of_same ((KM.out _).mono fun _ _ h => ⟨h.1, h.2.symm⟩)))
        go_wp2_with fail
        refine bodyPost_ret (v := .tuple #[.float .f32 z, .bool true]) (by simp [results, Try.results158, go_sem, *]) rfl ⟨by rw [HV1.out, HV2.out, HZ.out]; rfl, ?_⟩
        have hB := B2.out
        exact (by have hszz := hB.size; repeat (first | with_reducible exact hB | with_reducible apply Below.drew | with_reducible refine below_drewN ?_ _ | (with_reducible refine Below.setCell ?_ ?_ _; rotate_left; focus (first | omega | (simp <;> omega))) | (with_reducible refine Below.alloc ?_ ?_ _; rotate_left; focus (first | omega | (simp <;> omega)))))
      · have K2 := Lib.hid (fun w' => place_out X Y Wn Hn (i + 1) y w' hw hw2 hh hh2 hx0 hx1 hy0 hy1 h2)
        have HR : Hid (rowV X Y Wn Hn l i y s = none) := by unfold Hid rowV; rw [if_pos h1, if_neg hz, if_neg h2]
        clear h1 h2 e1 hz hk1
        generalize rowV X Y Wn Hn l i y s = R at *
        obtain rfl := HR.out
        go_enter Try.func158, Try.ntmps158
        go_wp2_with fail
        refine (K1.out _).mono ?_
        rintro e w1 ⟨rfl, b1⟩
        have F1 := HFL.out.below b1 kl
        have q1 := (b1.cell (p := ⟨q, 0, none⟩) ql).trans hq
        have p1 := (b1.cell (p := ⟨p, 0, none⟩) pl).trans hp
        obtain ⟨d0, d1, d2, d3, d4⟩ := F1.cells
        have B1 := Lib.hid b1
        clear b1 F1 c0 c1 c2 c3 c4 hp hq HFL
        go_wp2_with fail
        refine (K2.out _).mono ?_
        rintro e w2 ⟨rfl, b2⟩
        have B2 := Lib.hid (B1.out.trans (b2.mono B1.out.size))
        clear b2
        go_wp2_with fail
        refine bodyPost_ret (v := .tuple #[.float .f32 0, .bool false]) (by simp [results, Try.results158, go_sem, *]) rfl ⟨rfl, B2.out⟩
  · have K1 := Lib.hid (fun w' => place_out X Y Wn Hn i y w' hw hw2 hh hh2 hx0 hx1 hy0 hy1 h1)
    have HR : Hid (rowV X Y Wn Hn l i y s = none) := by unfold Hid rowV; rw [if_neg h1]
    clear h1
    generalize rowV X Y Wn Hn l i y s = R at *
    obtain rfl := HR.out
    go_enter Try.func158, Try.ntmps158
    go_wp2_with fail
    refine (K1.out _).mono ?_
    rintro e w1 ⟨rfl, b1⟩
    have B1 := Lib.hid b1
    clear b1
    go_wp2_with fail
    refine bodyPost_ret (v := .tuple #[.float .f32 0, .bool false]) (by simp [results, Try.results158, go_sem, *]) rfl ⟨rfl, B1.out⟩
end Go.Proofs.Ytgeeaegnohdejaa
