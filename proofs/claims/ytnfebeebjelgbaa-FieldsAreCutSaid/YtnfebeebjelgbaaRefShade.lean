import Derived.Test.YtnfebeebjelgbaaShadeYes
import Derived.BigQuiet
import Derived.Deep.QuietTactic
namespace Go.Proofs.Ytnfebeebjelgbaa
open Go.ChangeShapes Go.WideShapes Go.ChangeAt Go.RowKit
open Ieee.Format (fin finE htE allFin allHt all_true all_false mulF subF addF Ht Bd divF rootF floorF easeF mixF)
set_option linter.unusedVariables false
open Ieee.Format (negF gradF nxF nyF nzF grad_bd normal_bd shade1 shade2 shade_bd)

theorem refgreater_any (x y : Nat) (w : World) : Calls Try.prog 166 #[.float .f32 x, .float .f32 y] w fun e w' => e = .returned (.float .f32 (if gtr y x = true then y else x)) ∧ w = w' := by
  cases h : gtr y x with
  | true =>
    change (FloatKind.f32.format.order y x == some .gt) = true at h
    rw [if_pos rfl]
    go_enter Try.func166, Try.ntmps166
    go_wp2
    go_ret
    exact ⟨rfl, rfl⟩
  | false =>
    change (FloatKind.f32.format.order y x == some .gt) = false at h
    rw [if_neg (by decide)]
    go_enter Try.func166, Try.ntmps166
    go_wp2
    go_ret
    exact ⟨rfl, rfl⟩

set_option maxRecDepth 100000 in
set_option maxHeartbeats 1000000 in
/-- the reference's cells: the light -/
theorem refshade_fn (lx ly lz : Int) (M : Nat) (X Y : Int) (Wn Hn : Nat) (x y : Int) (b o c k q pa pb pc pm : Nat) (l : List Nat) (w : World) (hl : SRow w (some ⟨b, o, none⟩) l) (hr : Right X Y Wn Hn l) (h : InnerAt X Y Wn Hn x y k) (hL : LightOk (cv lx) (cv ly) (cv lz) M) (hq : Fld w q X Y Wn Hn (.slice (some ⟨b, o, none⟩) l.length c))
    (ha : Blk w pa #[.int .i64 lx] 3) (hb : Blk w pb #[.int .i64 ly] 3) (hc : Blk w pc #[.int .i64 lz] 3) (hm : Blk w pm #[.float .f32 M] 37) :
    Calls Try.prog 164 #[.int .i64 x, .int .i64 y, .pointer (some ⟨q, 0, none⟩), .pointer (some ⟨pa, 0, none⟩), .pointer (some ⟨pb, 0, none⟩), .pointer (some ⟨pc, 0, none⟩), .pointer (some ⟨pm, 0, none⟩)] w fun e w' => e = .returned (.float .f32 (nbr (shadeF (cv lx) (cv ly) (cv lz) M) l Wn k)) ∧ Below w.heap.size w w' := by
  have KA := Lib.hid (fun w' hl => refnormal_at X Y Wn Hn x y b o c k l w' hl hr h)
  have HL := Lib.hid hl
  obtain ⟨c0, c1, c2, c3, c4⟩ := hq.cells
  have hn := hr.bd (k - Wn)
  have hs := hr.bd (k + Wn)
  have he := hr.bd (k + 1)
  have hw := hr.bd (k - 1)
  have HE : Hid (nbr (shadeF (cv lx) (cv ly) (cv lz) M) l Wn k = shadeF (cv lx) (cv ly) (cv lz) M (l.getD (k - Wn) 0) (l.getD (k + Wn) 0) (l.getD (k + 1) 0) (l.getD (k - 1) 0) (l.getD k 0)) := rfl
  have HA := Lib.hid ha
  have HB := Lib.hid hb
  have HC := Lib.hid hc
  have HM := Lib.hid hm
  have kx := Lib.hid (fun w' => ref_conv_ok lx w')
  have ky := Lib.hid (fun w' => ref_conv_ok ly w')
  have kz := Lib.hid (fun w' => ref_conv_ok lz w')
  clear hl hr h hq ha hb hc hm
  generalize hA : cv lx = A at *
  generalize hB : cv ly = B at *
  generalize hC : cv lz = C at *
  change floatOfInt .f32 lx = A at hA
  change floatOfInt .f32 ly = B at hB
  change floatOfInt .f32 lz = C at hC
  rw [hA] at kx
  rw [hB] at ky
  rw [hC] at kz
  clear hA hB hC
  generalize nbr (shadeF A B C M) l Wn k = z at *
  generalize l.getD k 0 = v at *
  generalize l.getD (k - Wn) 0 = n at *
  generalize l.getD (k + Wn) 0 = s at *
  generalize l.getD (k + 1) 0 = e at *
  generalize l.getD (k - 1) 0 = wv at *
  obtain ⟨_, _, n1, n2, n3⟩ := normal_bd hn hs he hw
  obtain ⟨b1, b2, b3, b4, b5, b6⟩ := shade_bd hL.a hL.b hL.c hL.m hL.m1 hn hs he hw
  have k1 := Lib.hid (fun w' => ref_mul_ok (nxF n s e wv) A w' n1.1 hL.a.1 b1.1)
  have k2 := Lib.hid (fun w' => ref_mul_ok (nyF n s e wv) B w' n2.1 hL.b.1 b2.1)
  have k3 := Lib.hid (fun w' => ref_add_ok (mulF (nxF n s e wv) A) (mulF (nyF n s e wv) B) w' b1.1 b2.1 b3.1)
  have k4 := Lib.hid (fun w' => ref_mul_ok (nzF n s e wv) C w' n3.1 hL.c.1 b4.1)
  have k5 := Lib.hid (fun w' => ref_add_ok (addF (mulF (nxF n s e wv) A) (mulF (nyF n s e wv) B)) (mulF (nzF n s e wv) C) w' b3.1 b4.1 b5.1)
  have k6 := Lib.hid (fun w' => ref_div_ok (shade1 A B C n s e wv) M w' b5.1 hL.m (one_ne hL.m1) b6.1)
  have k7 := Lib.hid (fun w' => refgreater_any 0 (shade2 A B C M n s e wv) w')
  change Hid (∀ w', Calls Try.prog 131 #[.float .f32 (addF (mulF (nxF n s e wv) A) (mulF (nyF n s e wv) B)), .float .f32 (mulF (nzF n s e wv) C)] w' fun en w2 => en = .returned (.float .f32 (shade1 A B C n s e wv)) ∧ w' = w2) at k5
  change Hid (∀ w', Calls Try.prog 139 #[.float .f32 (shade1 A B C n s e wv), .float .f32 M] w' fun en w2 => en = .returned (.float .f32 (shade2 A B C M n s e wv)) ∧ w' = w2) at k6
  have HE2 : Hid ((if gtr (shade2 A B C M n s e wv) 0 = true then shade2 A B C M n s e wv else 0) = z) := HE.out.symm
  rw [HE2.out] at k7
  clear b1 b2 b3 b4 b5 b6 n1 n2 n3 hn hs he hw hL HE HE2
  generalize shade2 A B C M n s e wv = z6 at *
  generalize shade1 A B C n s e wv = z5 at *
  generalize addF (mulF (nxF n s e wv) A) (mulF (nyF n s e wv) B) = z3 at *
  generalize mulF (nxF n s e wv) A = z1 at *
  generalize mulF (nyF n s e wv) B = z2 at *
  generalize mulF (nzF n s e wv) C = z4 at *
  generalize nxF n s e wv = y1 at *
  generalize nyF n s e wv = y2 at *
  generalize nzF n s e wv = y3 at *
  go_enter Try.func164, Try.ntmps164
  go_wp2_with fail
  refine (KA.out _ HL.out).mono ?_
  rintro en w2 ⟨rfl, b2⟩
  have HB2 := Lib.hid b2
  have a0 : w2.cell? ⟨pa, 0, none⟩ = some (.int .i64 lx) := (HA.out.below HB2.out HA.out.lt).cell 0
  have a1 : w2.cell? ⟨pb, 0, none⟩ = some (.int .i64 ly) := (HB.out.below HB2.out HB.out.lt).cell 0
  have a2 : w2.cell? ⟨pc, 0, none⟩ = some (.int .i64 lz) := (HC.out.below HB2.out HC.out.lt).cell 0
  have a3 : w2.cell? ⟨pm, 0, none⟩ = some (.float .f32 M) := (HM.out.below HB2.out HM.out.lt).cell 0
  clear b2 c0 c1 c2 c3 c4
  go_wp2_with fail
  go_quiet ((first
    | (go_at_call 140; first | with_reducible exact Calls.quiet_of_same ((kx.out _).mono fun _ _ h => ⟨h.1, h.2.symm⟩) | with_reducible exact Calls.quiet_of_same ((ky.out _).mono fun _ _ h => ⟨h.1, h.2.symm⟩) | with_reducible exact Calls.quiet_of_same ((kz.out _).mono fun _ _ h => ⟨h.1, h.2.symm⟩))
    | (go_at_call 136; first | with_reducible exact Calls.quiet_of_same ((k1.out _).mono fun _ _ h => ⟨h.1, h.2.symm⟩) | with_reducible exact Calls.quiet_of_same ((k2.out _).mono fun _ _ h => ⟨h.1, h.2.symm⟩) | with_reducible exact Calls.quiet_of_same ((k4.out _).mono fun _ _ h => ⟨h.1, h.2.symm⟩))
    | (go_at_call 131; first | with_reducible exact Calls.quiet_of_same ((k3.out _).mono fun _ _ h => ⟨h.1, h.2.symm⟩) | with_reducible exact Calls.quiet_of_same ((k5.out _).mono fun _ _ h => ⟨h.1, h.2.symm⟩))
    | (go_at_call 139; with_reducible exact Calls.quiet_of_same ((k6.out _).mono fun _ _ h => ⟨h.1, h.2.symm⟩))
    | (go_at_call 166; with_reducible exact Calls.quiet_of_same ((k7.out _).mono fun _ _ h => ⟨h.1, h.2.symm⟩))))
  go_wp2_with fail
  go_ret
  exact ⟨rfl, (by have h := HB2.out; exact (by have hszz := h.size; repeat (first | with_reducible exact h | with_reducible apply Below.drew | with_reducible refine below_drewN ?_ _ | (with_reducible refine Below.setCell ?_ ?_ _; rotate_left; focus (first | omega | (simp <;> omega))) | (with_reducible refine Below.alloc ?_ ?_ _; rotate_left; focus (first | omega | (simp <;> omega))))))⟩
end Go.Proofs.Ytnfebeebjelgbaa
