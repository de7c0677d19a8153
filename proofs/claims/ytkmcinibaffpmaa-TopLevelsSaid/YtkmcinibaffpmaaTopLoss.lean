import Derived.Test.YtkmcinibaffpmaaLossOp
import Derived.Test.YtkmcinibaffpmaaMaxF
namespace Go.Proofs.Ytkmcinibaffpmaa
open Go.ChangeShapes Go.WideShapes Go.ChangeAt Go.RowKit
open Ieee.Format (fin finE htE allFin allHt all_true all_false mulF subF addF Ht Bd divF rootF floorF easeF mixF)
set_option linter.unusedVariables false

set_option maxRecDepth 100000 in
theorem landedtop_bel (w : World) : Calls Try.prog 22 #[] w fun e w' => e = .returned (.bool true) ∧ Below w.heap.size w w' := by
  go_enter Try.func22, Try.ntmps22
  go_wp2
  go_ret
  exact ⟨rfl, (by repeat (first | with_reducible exact Below.refl _ _ | with_reducible apply Below.drew | with_reducible refine below_drewN ?_ _ | (with_reducible refine Below.setCell ?_ ?_ _; rotate_left; focus (first | omega | (simp <;> omega))) | (with_reducible refine Below.alloc ?_ ?_ _; rotate_left; focus (first | omega | (simp <;> omega)))))⟩

/-- what Losses gives -/
def LosR (m : Nat) (w : World) (e : Ending) (w' : World) : Prop :=
  (∃ (c : Int) (u : Value), e = .returned (.tuple #[u, .int .i64 c]) ∧ (c ≠ 0 ∧ u = .slice none 0 0 ∨ c = 0 ∧ ∃ n g cap Z, u = .slice (some ⟨g, 0, none⟩) n cap ∧ 1 ≤ n ∧ n ≤ 10 ∧ OwnF w' w.heap.size g cap Z ∧ ZOk m n Z)) ∧ Below w.heap.size w w'
set_option maxRecDepth 100000 in
theorem loss_bad (X Y W H : Int) (a : Option Addr) (c : Nat) (l : List Nat) (most : Int) (w : World) (hl : Row63 w a l) (h : chkF X Y W H l ≠ 0) :
    Calls Try.prog 23 #[fldV X Y W H a l.length c, .int .i64 most] w fun e w' => e = .returned (.tuple #[.slice none 0 0, .int .i64 (chkF X Y W H l)]) ∧ Below w.heap.size w w' := by
  have K := Lib.hid (fun W' h' => pyr_bad X Y W H a c l most W' h' h)
  have HL := Lib.hid hl
  have hb : (chkF X Y W H l != 0) = true := by rw [bne_iff_ne]; exact h
  clear h hl
  generalize chkF X Y W H l = q at *
  have BA : Below w.heap.size w (w.alloc (.cells #[.int .i64 X, .int .i64 Y, .int .i64 W, .int .i64 H, .slice a l.length c] 26)) := (by repeat (first | with_reducible exact Below.refl _ _ | with_reducible apply Below.drew | with_reducible refine below_drewN ?_ _ | (with_reducible refine Below.setCell ?_ ?_ _; rotate_left; focus (first | omega | (simp <;> omega))) | (with_reducible refine Below.alloc ?_ ?_ _; rotate_left; focus (first | omega | (simp <;> omega)))))
  go_enter Try.func23, Try.ntmps23
  go_wp2_with fail
  refine (K.out _ (HL.out.below BA)).mono ?_
  rintro e w1 ⟨rfl, b1⟩
  have B1 := BA.trans (b1.mono BA.size)
  clear b1
  go_wp2_with fail
  go_ret2
  exact ⟨rfl, B1⟩
set_option maxRecDepth 100000 in
theorem loss_right (v : Lv) (m b o c : Nat) (most : Int) (w : World) (hl : SRow w (some ⟨b, o, none⟩) v.l) (h : v.ok) (hm : v.le m) (fm : fin Ieee.single m) (sm : Ieee.single.sgn m = false) (bm : Ieee.single.V m ≤ Ieee.P2 20) :
    Calls Try.prog 23 #[fldV v.X v.Y v.W v.H (some ⟨b, o, none⟩) v.l.length c, .int .i64 most] w fun e w' => LosR m w e w' := by
  have BA : Below w.heap.size w (w.alloc (.cells #[.int .i64 v.X, .int .i64 v.Y, .int .i64 (v.W : Int), .int .i64 (v.H : Int), .slice (some ⟨b, o, none⟩) v.l.length c] 26)) := (by repeat (first | with_reducible exact Below.refl _ _ | with_reducible apply Below.drew | with_reducible refine below_drewN ?_ _ | (with_reducible refine Below.setCell ?_ ?_ _; rotate_left; focus (first | omega | (simp <;> omega))) | (with_reducible refine Below.alloc ?_ ?_ _; rotate_left; focus (first | omega | (simp <;> omega)))))
  have HS : Hid (w.heap.size ≤ (w.alloc (.cells #[.int .i64 v.X, .int .i64 v.Y, .int .i64 (v.W : Int), .int .i64 (v.H : Int), .slice (some ⟨b, o, none⟩) v.l.length c] 26)).heap.size) := BA.size
  have KP := Lib.hid (pyr_right v m b o c most _ (hl.below BA) h hm fm sm bm)
  have KL := Lib.hid (fun B gr cr (L : List FE) W0 W hI hL hn => losses_any v m B gr cr L W0 W hI hL hn h hm fm sm bm)
  have KV := Lib.hid (fun g cap l W hW => values_any g cap l W hW)
  clear hl h hm fm sm bm
  go_enter Try.func23, Try.ntmps23
  go_wp2_with fail
  generalize w.alloc (.cells #[.int .i64 v.X, .int .i64 v.Y, .int .i64 (v.W : Int), .int .i64 (v.H : Int), .slice (some ⟨b, o, none⟩) v.l.length c] 26) = W0 at *
  refine KP.out.mono ?_
  rintro e w1 ⟨⟨q, u, rfl, hc⟩, b0⟩
  have b1 := BA.trans (b0.mono BA.size)
  rcases hc with ⟨hq, _, rfl⟩ | ⟨rfl, h1, h2, B, L, hI, hL, hn⟩
  · have hb : (q != 0) = true := by rw [bne_iff_ne]; exact hq
    have HQ : Hid (LosR m w (.returned (.tuple #[.slice none 0 0, .int .i64 q])) w1) := ⟨⟨q, _, rfl, .inl ⟨hq, rfl⟩⟩, b1⟩
    clear b1
    go_wp2_with fail
    go_ret2
    exact HQ.out
  · obtain ⟨gr, cr, rfl, _⟩ := hI.val
    have KL1 := Lib.hid (KL.out B gr cr L W0 w1 hI hL (by omega))
    have HL1 := Lib.hid hI.pos
    have HN : Hid (L.length ≤ 10) := by unfold Hid; omega
    have HB1 := Lib.hid b1
    clear hI hL b1 b0 KL hn BA
    go_wp2_with fail
    refine KL1.out.mono ?_
    rintro e w2 ⟨g, cap, Z, rfl, ho, hz, b2⟩
    have hlen := hz.1
    have HO := Lib.hid ho
    have HZ := Lib.hid hz
    have HB2 := Lib.hid (HB1.out.trans (b2.mono HB1.out.size))
    have KV1 := Lib.hid (KV.out g cap Z w2 (ho.row (by rw [hlen]; have := HN.out; omega)))
    rw [hlen] at KV1
    clear ho hz b2 KL1 KV hlen
    have HB1s := HB1.out.size
    go_wp2_with fail
    refine KV1.out.mono ?_
    rintro e w3 ⟨hcase, rfl⟩
    rcases hcase with rfl | rfl
    · have HQ : Hid (LosR m w (.returned (.tuple #[.slice (some ⟨g, 0, none⟩) L.length cap, .int .i64 0])) w2) := ⟨⟨0, _, rfl, .inr ⟨rfl, L.length, g, cap, Z, rfl, HL1.out, HN.out, HO.out.base HB1s, HZ.out⟩⟩, HB2.out⟩
      go_wp2_with fail
      go_ret2
      exact HQ.out
    · have HQ : Hid (LosR m w (.returned (.tuple #[.slice none 0 0, .int .i64 3])) w2) := ⟨⟨3, _, rfl, .inl ⟨by decide, rfl⟩⟩, HB2.out⟩
      go_wp2_with fail
      go_ret2
      exact HQ.out
end Go.Proofs.Ytkmcinibaffpmaa
