import Derived.Test.YtkmcinibaffpmaaDownFn
import Derived.BigQuiet
import Derived.Deep.QuietTactic
import Derived.Deep.DeepCutAuto
namespace Go.Proofs.Ytkmcinibaffpmaa
open Go.ChangeShapes Go.WideShapes Go.ChangeAt Go.RowKit
open Ieee.Format (fin finE htE allFin allHt all_true all_false mulF subF addF Ht Bd divF rootF floorF easeF mixF)
set_option linter.unusedVariables false
open Ieee.Format (downF down_bd bits_add bits_mul const_qtr)

/-- a field that is made -/
def LvP (u : Lv) (w : World) (e : Ending) (w' : World) : Prop :=
  (∃ g cap, e = .returned (fldV u.X u.Y u.W u.H (some ⟨g, 0, none⟩) u.l.length cap) ∧ OwnF w' w.heap.size g cap u.l) ∧ Below w.heap.size w w'
theorem downF_lt (a b c d : Nat) : downF a b c d < 4294967296 := Ieee.Format.mulF_lt _ _
theorem dn_world (w : World) (X Y W H : Int) (v : Value) (A B P Q : Int) : ∀ W0, W0 = ((w.alloc (.cells #[.int .i64 X, .int .i64 Y, .int .i64 W, .int .i64 H, v] 26)).alloc (.cells #[.int .i64 0, .int .i64 0, .int .i64 0, .int .i64 0, .slice none 0 0] 26)).alloc (.cells #[.int .i64 A, .int .i64 B, .int .i64 P, .int .i64 Q] 23) →
    Fld W0 w.heap.size X Y W H v ∧ Fld W0 (w.heap.size + 1) 0 0 0 0 (.slice none 0 0) ∧ Reg W0 (w.heap.size + 1 + 1) A B P Q ∧ Below w.heap.size w W0 := by
  rintro _ rfl
  refine ⟨((Fld.new w X Y W H v).alloc _).alloc _, ?_, ?_, (by repeat (first | with_reducible exact Below.refl _ _ | with_reducible apply Below.drew | with_reducible refine below_drewN ?_ _ | (with_reducible refine Below.setCell ?_ ?_ _; rotate_left; focus (first | omega | (simp <;> omega))) | (with_reducible refine Below.alloc ?_ ?_ _; rotate_left; focus (first | omega | (simp <;> omega)))))⟩
  · have := (Fld.new (w.alloc (.cells #[.int .i64 X, .int .i64 Y, .int .i64 W, .int .i64 H, v] 26)) 0 0 0 0 (.slice none 0 0)).alloc (.cells #[.int .i64 A, .int .i64 B, .int .i64 P, .int .i64 Q] 23)
    simpa using this
  · have := Reg.new ((w.alloc (.cells #[.int .i64 X, .int .i64 Y, .int .i64 W, .int .i64 H, v] 26)).alloc (.cells #[.int .i64 0, .int .i64 0, .int .i64 0, .int .i64 0, .slice none 0 0] 26)) A B P Q
    simpa using this
theorem lv_fin {v : Lv} {m : Nat} (hm : v.le m) {j : Nat} (h : j < v.l.length) : fin Ieee.single (v.l.getD j 0) ∧ Ieee.single.V (v.l.getD j 0) ≤ Ieee.single.V m ∧ -Ieee.single.V m ≤ Ieee.single.V (v.l.getD j 0) := by
  rw [List.getD_eq_getElem?_getD, List.getElem?_eq_getElem h]
  exact hm _ (List.getElem_mem h)
set_option maxRecDepth 100000 in
set_option maxHeartbeats 1000000 in
theorem down_any (v : Lv) (m b c : Nat) (w : World) (hl : SRow w (some ⟨b, 0, none⟩) v.l) (hb : b < w.heap.size) (h : v.ok) (e : v.ev) (hm : v.le m) (fm : fin Ieee.single m) (sm : Ieee.single.sgn m = false) (bm : Ieee.single.V m ≤ Ieee.P2 20) :
    Calls Try.prog 206 #[fldV v.X v.Y v.W v.H (some ⟨b, 0, none⟩) v.l.length c] w fun e w' => LvP (nx v) w e w' := by
  obtain ⟨hn, _⟩ := nx_ok h e hm fm sm bm
  have w1 := hn.w1; have w2 := hn.w2; have h1 := hn.h1; have h2 := hn.h2; have x1 := hn.x1; have x2 := hn.x2; have y1 := hn.y1; have y2 := hn.y2
  have vw2 := h.w2; have vx1 := h.x1; have vx2 := h.x2; have vy1 := h.y1; have vy2 := h.y2
  have p99 := Ieee.P2_lt (show (20 : Int) < 99 by omega)
  have KM := Lib.hid (fun (W : World) (pf : Nat) (hf : Fld W pf v.X v.Y v.W v.H (.slice (some ⟨b, 0, none⟩) v.l.length c)) (hr : SRow W (some ⟨b, 0, none⟩) v.l) (hbW : b < W.heap.size) =>
    make_any 272 #[.pointer (some ⟨pf, 0, none⟩)] (dnV v) (nx v).X (nx v).Y (nx v).W (nx v).H W w1 w2 h1 h2 (by omega) (by omega) (by omega) (by omega)
      (enters_of Try.func272 (by kernel_rfl) rfl) (fun x y _ _ _ _ => downF_lt _ _ _ _)
      (fun x y hx hx2 hy hy2 W' hb' => by
        obtain ⟨k0, k1, k2, k3⟩ := dnK_in h e hx hx2 hy hy2
        have g0 := lv_fin hm (j := dnK v x y) (by omega)
        have g1 := lv_fin hm (j := dnK v x y + 1) (by omega)
        have g2 := lv_fin hm (j := dnK v x y + v.W) (by omega)
        have g3 := lv_fin hm (j := dnK v x y + v.W + 1) (by omega)
        obtain ⟨s1, s2, s3, _⟩ := down_bd g0.1 g1.1 g2.1 g3.1 fm sm (by grind) g0.2.1 g0.2.2 g1.2.1 g1.2.2 g2.2.1 g2.2.2 g3.2.1 g3.2.2
        exact downfn_any v.X v.Y v.W v.H b c pf (dnK v x y) v.l x y _ W' (hf.below hb' hf.lt) (hr.below hb') (Nat.lt_of_lt_of_le hbW hb'.size) rfl k2 k3 k0 k1 vw2 (by omega) (by omega) (by omega) (by omega) (by omega) (by omega) (by omega) (by omega) g0.1 g1.1 g2.1 g3.1 s1 s2 s3))
  change Hid (∀ (W : World) (pf : Nat) (hf : Fld W pf v.X v.Y v.W v.H (.slice (some ⟨b, 0, none⟩) v.l.length c)) (hr : SRow W (some ⟨b, 0, none⟩) v.l) (hbW : b < W.heap.size), Calls Try.prog 181 #[reg (nx v).X (nx v).Y (nx v).W (nx v).H, .func (.func 272) #[] #[.pointer (some ⟨pf, 0, none⟩)]] W fun e w' => MakeP (nx v).X (nx v).Y (nx v).W (nx v).H (nx v).l W e w') at KM
  obtain ⟨e1, e2, e3, e4⟩ := e
  have t1 : v.X.tdiv 2 = (nx v).X := Int.tdiv_eq_ediv_of_dvd (Int.dvd_of_emod_eq_zero e1)
  have t2 : v.Y.tdiv 2 = (nx v).Y := Int.tdiv_eq_ediv_of_dvd (Int.dvd_of_emod_eq_zero e2)
  have t3 : (v.W : Int).tdiv 2 = ((nx v).W : Int) := (Int.ofNat_tdiv v.W 2).symm
  have t4 : (v.H : Int).tdiv 2 = ((nx v).H : Int) := (Int.ofNat_tdiv v.H 2).symm
  have u1 : wrap64 (nx v).X = (nx v).X := by unfold wrap64; omega
  have u2 : wrap64 (nx v).Y = (nx v).Y := by unfold wrap64; omega
  have u3 : wrap64 ((nx v).W : Int) = ((nx v).W : Int) := by unfold wrap64; omega
  have u4 : wrap64 ((nx v).H : Int) = ((nx v).H : Int) := by unfold wrap64; omega
  have HL := Lib.hid hl
  have HB := Lib.hid hb
  clear hl hb hm fm sm bm e1 e2 e3 e4 h hn w1 w2 h1 h2 x1 x2 y1 y2 vw2 vx1 vx2 vy1 vy2 p99
  unfold LvP
  generalize (nx v).X = X' at *
  generalize (nx v).Y = Y' at *
  generalize (nx v).W = W' at *
  generalize (nx v).H = H' at *
  generalize (nx v).l = l' at *
  obtain ⟨X, Y, Wn, Hn, l⟩ := v
  simp only at *
  go_enter Try.func206, Try.ntmps206
  go_upto_region 2 with fail
  generalize hW0 : ((w.alloc (.cells #[.int .i64 X, .int .i64 Y, .int .i64 Wn, .int .i64 Hn, .slice (some ⟨b, 0, none⟩) l.length c] 26)).alloc (.cells #[.int .i64 0, .int .i64 0, .int .i64 0, .int .i64 0, .slice none 0 0] 26)).alloc (.cells #[.int .i64 X', .int .i64 Y', .int .i64 W', .int .i64 H'] 23) = W0 at *
  obtain ⟨E0, Z0, R0, B0⟩ := dn_world w X Y Wn Hn (.slice (some ⟨b, 0, none⟩) l.length c) X' Y' W' H' W0 hW0.symm
  have C0 := Lib.hid (KM.out _ _ E0 (HL.out.below B0) (Nat.lt_of_lt_of_le HB.out B0.size))
  obtain ⟨r0, r1, r2, r3⟩ := R0.cells
  have lr := R0.lt
  have HZ0 := Lib.hid Z0
  have HB0 := Lib.hid B0
  clear KM HL HB hW0 E0 Z0 R0 B0 t1 t2 t3 t4 u1 u2 u3 u4
  go_wp2_with fail
  refine C0.out.mono ?_
  rintro e w1 ⟨⟨gg, cap, rfl, ho⟩, b1⟩
  have HZ1 := Lib.hid (HZ0.out.below b1 HZ0.out.lt)
  have HB1 := Lib.hid (HB0.out.trans (b1.mono HB0.out.size))
  have HO1 := Lib.hid (ho.base HB0.out.size)
  have HG1 : Hid (w.heap.size + 1 < gg) := by have := ho.lt.1; have := HZ0.out.lt; unfold Hid; omega
  clear ho b1 C0 HZ0 r0 r1 r2 r3 lr
  obtain ⟨d0, d1, d2, d3, d4⟩ := HZ1.out.cells
  have qf0 := HZ1.out.frozen 0
  have qf1 := HZ1.out.frozen 1
  have qf2 := HZ1.out.frozen 2
  have qf3 := HZ1.out.frozen 3
  have qf4 := HZ1.out.frozen 4
  have lz := HZ1.out.lt
  go_wp2_with fail
  generalize hW5 : ((((w1.setCell ⟨w.heap.size + 1, 0, none⟩ (.int .i64 X')).setCell ⟨w.heap.size + 1, 1, none⟩ (.int .i64 Y')).setCell ⟨w.heap.size + 1, 2, none⟩ (.int .i64 W')).setCell ⟨w.heap.size + 1, 3, none⟩ (.int .i64 H')).setCell ⟨w.heap.size + 1, 4, none⟩ (.slice (some ⟨gg, 0, none⟩) l'.length cap) = W5 at *
  obtain ⟨h5, bb5, oo5, _, zz5⟩ := fld_store w1 (w.heap.size + 1) 0 0 0 0 _ X' Y' W' H' (.slice (some ⟨gg, 0, none⟩) l'.length cap) HZ1.out W5 hW5.symm
  have hO5 := oo5 _ _ _ _ HO1.out (by have := HG1.out; omega)
  have hB5 := HB1.out.trans (bb5.mono (by omega))
  clear d0 d1 d2 d3 d4 qf0 qf1 qf2 qf3 qf4 hW5 oo5
  obtain ⟨d0, d1, d2, d3, d4⟩ := h5.cells
  exact bodyPost_ret (v := fldV X' Y' W' H' (some ⟨gg, 0, none⟩) l'.length cap) (by simp [results, Try.results206, go_sem, *]) rfl ⟨⟨gg, cap, rfl, hO5⟩, hB5⟩
end Go.Proofs.Ytkmcinibaffpmaa
