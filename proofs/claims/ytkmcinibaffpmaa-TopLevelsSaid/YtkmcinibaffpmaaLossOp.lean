import Derived.Test.YtkmcinibaffpmaaLossM
import Derived.BigQuiet
import Derived.Deep.QuietTactic
import Derived.Deep.DeepCutAuto
namespace Go.Proofs.Ytkmcinibaffpmaa
open Go.ChangeShapes Go.WideShapes Go.ChangeAt Go.RowKit
open Ieee.Format (fin finE htE allFin allHt all_true all_false mulF subF addF Ht Bd divF rootF floorF easeF mixF)
set_option linter.unusedVariables false
open Ieee.Format (subF_spec bits_sub)

set_option maxRecDepth 10000 in
theorem make_zeros (i0 : TypeInfo) (hi : Try.prog.info? 29 = some i0) (hz0 : i0.zero = some (.float .f32 0)) (hz1 : i0.size = 1) (hz2 : i0.bytes = 4) (N : Nat) (hN : N ≤ 4294967296) (w : World) :
    (Instr.makeSlice 24 (.int .i64 (N : Int)) (.int .i64 (N : Int))).run Try.prog w = .ok (.slice (some ⟨w.heap.size, 0, none⟩) N N) (w.alloc (.cells (fls (List.replicate N 0)).toArray 29)) := by
  have hr := run_make (P := Try.prog) w 24 29 i0 (.float .f32 0) (by rfl) hi hz0 .i64 .i64 (N : Int) (N : Int) (by omega) (Int.le_refl _) (by rw [hz2]; omega) (by omega)
  simp only [Int.toNat_natCast] at hr
  rw [hr, hz1]
  have e : madeCells (Value.cells (.float .f32 0)) (N * 1) = (fls (List.replicate N 0)).toArray := by
    apply Array.toList_inj.1
    rw [made_zero rfl]
  rw [e]
theorem sub_self0 {a : Nat} (fa : fin Ieee.single a) : Ieee.single.V (mag (subF a a)) = 0 := by
  have h := (subF_spec fa fa).2.bound Ieee.Format.const_0.1 (by decide) (by rw [Ieee.Format.const_0.2.1]; grind) (by rw [Ieee.Format.const_0.2.1]; grind)
  rw [Ieee.Format.const_0.2.1] at h
  rcases (mag_V (subF a a)).2 with e | e <;> rw [e] <;> grind
/-- the losses so far -/
def ZOk (m n : Nat) (Z : List Nat) : Prop := Z.length = n ∧ (∀ z ∈ Z, LossOk m z) ∧ Z.getD 0 0 = 0
theorem ZOk.set {m n : Nat} {Z : List Nat} (h : ZOk m n Z) (i z : Nat) (hz : LossOk m z) (h0 : i ≠ 0) : ZOk m n (Z.set i z) := by
  obtain ⟨a, b, c⟩ := h
  refine ⟨by rw [List.length_set]; exact a, fun x hx => ?_, ?_⟩
  · rcases List.mem_or_eq_of_mem_set hx with hx | rfl
    · exact b x hx
    · exact hz
  · rw [List.getD_eq_getElem?_getD, List.getElem?_set_ne (by omega), ← List.getD_eq_getElem?_getD]; exact c
/-- what losses gives -/
def LosP (m n : Nat) (w : World) (e : Ending) (w' : World) : Prop :=
  ∃ g cap Z, e = .returned (.slice (some ⟨g, 0, none⟩) n cap) ∧ OwnF w' w.heap.size g cap Z ∧ ZOk m n Z ∧ Below w.heap.size w w'
set_option maxRecDepth 100000 in
set_option maxHeartbeats 1000000 in
theorem losses_any (v : Lv) (m B gr cr : Nat) (L : List FE) (W0 w : World) (hI : PyrInv W0 w B (.slice (some ⟨gr, 0, none⟩) L.length cr) L) (hL : Levels v L) (hn : L.length ≤ 10) (h : v.ok) (hm : v.le m) (fm : fin Ieee.single m) (sm : Ieee.single.sgn m = false) (bm : Ieee.single.V m ≤ Ieee.P2 20) :
    Calls Try.prog 108 #[.slice (some ⟨gr, 0, none⟩) L.length cr] w fun e w' => LosP m L.length w e w' := by
  have HI := Lib.hid hI
  have hpos := hI.pos
  have H0 : (feAt L 0).1 = v := hL.1 0 hpos
  have KO := Lib.hid (fun k (hk : k < L.length) => And.intro (hL.1 k hk) (lv_ok h hm fm sm bm k (fun j hj => hL.2 j (by omega))))
  have hg := fun t ht => hI.get rfl (i := 0) hpos t ht
  have c0 := hg 0 (by omega)
  have c1 := hg 1 (by omega)
  have c2 := hg 2 (by omega)
  have c3 := hg 3 (by omega)
  have c4 := hg 4 (by omega)
  unfold feC at c0 c1 c2 c3 c4
  rw [H0] at c0 c1 c2 c3 c4
  simp at c0 c1 c2 c3 c4
  have KR0 := Lib.hid (fun W' (I' : PyrInv W0 W' B (.slice (some ⟨gr, 0, none⟩) L.length cr) L) => show SRow W' (some ⟨(feAt L 0).2.1, 0, none⟩) v.l from by
    have := (I'.rows (feAt L 0) (by rw [feAt_eq hpos]; exact List.getElem_mem _)).2.2
    rwa [H0] at this)
  generalize (feAt L 0).2.1 = gf at *
  generalize (feAt L 0).2.2 = cf at *
  have VF := Lib.hid (fun j (hj : j < v.l.length) => lv_fin hm hj)
  have HVL := Lib.hid h.len
  have vx1 := h.x1; have vx2 := h.x2; have vy1 := h.y1; have vy2 := h.y2; have vw2 := h.w2; have vh2 := h.h2
  have LV := Lib.hid (fun a b fa fb a1 a2 b1 b2 => loss_val (a := a) (b := b) fa fb fm sm bm a1 a2 b1 b2)
  clear hI hg H0
  obtain ⟨i0, hi, hz0, hz1, hz2⟩ := info_parts info24
  have KM := fun w => make_zeros i0 hi hz0 hz1 hz2 L.length (by omega) w
  have HA : OwnF (w.alloc (.cells (fls (List.replicate L.length 0)).toArray 29)) w.heap.size w.heap.size L.length (List.replicate L.length 0) := by
    refine ⟨?_, fun x hx => by rw [List.eq_of_mem_replicate hx]; decide⟩
    have := World.ownsRow_lit (base := w.heap.size) (e := 29) (size := 1) w (fls (List.replicate L.length 0)).toArray L.length (Nat.le_refl _) (by unfold maxLen; omega) (by simp [fls])
    simpa using this
  have vpos : 0 < v.l.length := by have e1 := h.len; have e2 := Nat.mul_pos h.h1 h.w1; omega
  have ⟨_, m1, m2⟩ := hm _ (List.getElem_mem vpos)
  have HZ : ZOk m L.length (List.replicate L.length 0) := ⟨by simp, fun z hz => by rw [List.eq_of_mem_replicate hz]; exact ⟨Ieee.Format.const_0.1, by decide, by rw [Ieee.Format.const_0.2.1]; grind⟩, by rw [List.getD_eq_getElem?_getD, List.getElem?_replicate]; split <;> rfl⟩
  have HB : Below w.heap.size w (w.alloc (.cells (fls (List.replicate L.length 0)).toArray 29)) := (Below.refl _ _).alloc (Nat.le_refl _) _
  have d0 := (HB.cell (p := ⟨gr, 0, none⟩) (HI.out.own.lt gr rfl).2).trans c0
  have d1 := (HB.cell (p := ⟨gr, 1, none⟩) (HI.out.own.lt gr rfl).2).trans c1
  have d2 := (HB.cell (p := ⟨gr, 2, none⟩) (HI.out.own.lt gr rfl).2).trans c2
  have d3 := (HB.cell (p := ⟨gr, 3, none⟩) (HI.out.own.lt gr rfl).2).trans c3
  have d4 := (HB.cell (p := ⟨gr, 4, none⟩) (HI.out.own.lt gr rfl).2).trans c4
  clear c0 c1 c2 c3 c4
  have I0 : LosInv w ((w.alloc (.cells (fls (List.replicate L.length 0)).toArray 29)).alloc (.cells #[.int .i64 v.X, .int .i64 v.Y, .int .i64 (v.W : Int), .int .i64 (v.H : Int), .slice (some ⟨gf, 0, none⟩) v.l.length cf] 26)) (w.heap.size + 1) w.heap.size L.length v gf cf (List.replicate L.length 0) := by
    refine ⟨?_, HA.alloc _, by omega, by omega, HB.alloc (by simp) _⟩
    have := Fld.new (w.alloc (.cells (fls (List.replicate L.length 0)).toArray 29)) v.X v.Y v.W v.H (.slice (some ⟨gf, 0, none⟩) v.l.length cf)
    simpa using this
  have HI0 := Lib.hid I0
  have HHZ := Lib.hid HZ
  clear HA HZ HB I0
  go_enter Try.func108, Try.ntmps108
  go_wp2_with fail
  generalize ((w.alloc (.cells (fls (List.replicate L.length 0)).toArray 29)).alloc (.cells #[.int .i64 v.X, .int .i64 v.Y, .int .i64 (v.W : Int), .int .i64 (v.H : Int), .slice (some ⟨gf, 0, none⟩) v.l.length cf] 26)) = W1 at *
  clear KM d0 d1 d2 d3 d4
  go_loopw [20] (fun iv wr => ∃ (i : Nat) (Z : List Nat), i ≤ L.length ∧ iv = .int .i64 (i : Int) ∧ LosInv w wr (w.heap.size + 1) w.heap.size L.length v gf cf Z ∧ ZOk m L.length Z) (fun iv _ => L.length - (intOf iv).toNat)
  case atStart => exact ⟨0, _, by omega, rfl, HI0.out, HHZ.out⟩
  case round =>
    clear HI0 HHZ
    obtain ⟨i, Z, hi', rfl, I, hZ⟩ := hrel
    by_cases hlt : i < L.length
    · have I' := HI.out.call I.bl
      have hfe := (KO.out i hlt).1
      have hg := fun t ht => I'.get rfl (i := i) hlt t ht
      have c0 := hg 0 (by omega)
      have c1 := hg 1 (by omega)
      have c2 := hg 2 (by omega)
      have c3 := hg 3 (by omega)
      have c4 := hg 4 (by omega)
      have KR := Lib.hid (fun W' (I' : PyrInv W0 W' B (.slice (some ⟨gr, 0, none⟩) L.length cr) L) => show SRow W' (some ⟨(feAt L i).2.1, 0, none⟩) (lv v i).l from by
        have := (I'.rows (feAt L i) (by rw [feAt_eq hlt]; exact List.getElem_mem _)).2.2
        rwa [hfe] at this)
      have hK := (KO.out i hlt).2
      unfold feC at c0 c1 c2 c3 c4
      rw [hfe] at c0 c1 c2 c3 c4
      simp only [Nat.add_zero] at c0
      have I0E : Hid (i = 0 → lv v i = v) := Lib.hid (fun e => by subst e; rfl)
      generalize lv v i = u at *
      generalize (feAt L i).2.1 = gu at *
      generalize (feAt L i).2.2 = cu at *
      simp at c0 c1 c2 c3 c4
      have J := Lib.hid (I.box u gu cu)
      have UF := Lib.hid (fun j (hj : j < u.l.length) => lv_fin hK.2.1 hj)
      have ux1 := hK.1.x1; have ux2 := hK.1.x2; have uy1 := hK.1.y1; have uy2 := hK.1.y2; have uw2 := hK.1.w2; have uh2 := hK.1.h2
      have OV := Lib.hid (fun (x y : Int) hx hx2 hy hy2 => ovK_in (v := v) (u := u) (k := i) (x := x) (y := y) hK.1 hK.2.2.1 hK.2.2.2.1 hK.2.2.2.2.1 hK.2.2.2.2.2 hx hx2 hy hy2)
      have HZ := Lib.hid hZ
      have hi10 : i ≤ 10 := by omega
      clear I' hg hfe hK hZ I
      go_upto_region 7 with fail
      generalize wr.alloc (.cells #[.int .i64 u.X, .int .i64 u.Y, .int .i64 (u.W : Int), .int .i64 (u.H : Int), .slice (some ⟨gu, 0, none⟩) u.l.length cu] 26) = W2 at *
      obtain ⟨a0, a1, a2, a3, a4⟩ := J.out.i.f.cells
      clear c0 c1 c2 c3 c4
      generalize hk6 : wr.heap.size = k6 at *
      go_upto_region 8 with fail
      go_loopw [7, 8] (fun kv yv wi => ∃ (y : Nat) (Z : List Nat), y ≤ v.H ∧ yv = .int .i64 (v.Y + (y : Int)) ∧ kv = .int .i64 (((y * v.W : Nat) : Int) - 1) ∧ LosJ w wi (w.heap.size + 1) w.heap.size L.length v gf cf k6 u gu cu Z ∧ ZOk m L.length Z) (fun _ yv _ => (v.Y + v.H - intOf yv).toNat)
      case atStart => exact ⟨0, Z, by omega, by simp, by simp, J.out, HZ.out⟩
      case round =>
        clear J HZ a0 a1 a2 a3 a4 hk6
        obtain ⟨y, Z, hy, rfl, rfl, Jy, hZ⟩ := hrel
        obtain ⟨a0, a1, a2, a3, a4⟩ := Jy.i.f.cells
        have HJ := Lib.hid Jy
        have HZ := Lib.hid hZ
        clear Jy hZ
        by_cases hlt2 : y < v.H
        · have hyy : v.Y + (y : Int) < v.Y + (v.H : Int) := by omega
          go_upto_region 11 with fail
          go_loopw [7, 9] (fun kv xv wi => ∃ (x : Nat) (Z : List Nat), x ≤ v.W ∧ xv = .int .i64 (v.X + (x : Int)) ∧ kv = .int .i64 (((y * v.W + x : Nat) : Int) - 1) ∧ LosJ w wi (w.heap.size + 1) w.heap.size L.length v gf cf k6 u gu cu Z ∧ ZOk m L.length Z) (fun _ xv _ => (v.X + v.W - intOf xv).toNat)
          case atStart => exact ⟨0, Z, by omega, by simp, by simp, HJ.out, HZ.out⟩
          case round =>
            clear HJ HZ a0 a1 a2 a3 a4
            obtain ⟨x, Z, hx, rfl, rfl, Jx, hZ⟩ := hrel
            obtain ⟨a0, a1, a2, a3, a4⟩ := Jx.i.f.cells
            obtain ⟨b0, b1, b2, b3, b4⟩ := Jx.f6.cells
            have HJ := Lib.hid Jx
            have HZ := Lib.hid hZ
            by_cases hltx : x < v.W
            · have hxx : v.X + (x : Int) < v.X + (v.W : Int) := by omega
              have m1 : (y + 1) * v.W ≤ v.H * v.W := Nat.mul_le_mul_right _ hlt2
              rw [Nat.add_mul] at m1
              have hk : y * v.W + x < v.l.length := by have := HVL.out; omega
              have hk2 : y * v.W + x ≤ 262144 := by have := Nat.mul_le_mul vh2 vw2; omega
              obtain ⟨p1, p2, p3, p4, p5, p6, p7, p8⟩ := OV.out (v.X + (x : Int)) (v.Y + (y : Int)) (by omega) hxx (by omega) hyy
              have d1 := (KR0.out _ (HI.out.call Jx.i.bl)).at_ hk
              have d2 := (KR.out _ (HI.out.call Jx.i.bl)).at_ p2
              rw [Nat.zero_add] at d1 d2
              obtain ⟨f1, g1, g2⟩ := VF.out _ hk
              obtain ⟨f2, g3, g4⟩ := UF.out _ p2
              obtain ⟨f3, lz⟩ := LV.out _ _ f1 f2 g1 g2 g3 g4
              have hi0 : i = 0 → v.l.getD (y * v.W + x) 0 = u.l.getD (ovK u i (v.X + (x : Int)) (v.Y + (y : Int))) 0 := fun e => by
                have eu := I0E.out e
                subst eu
                have : ovK u i (u.X + (x : Int)) (u.Y + (y : Int)) = y * u.W + x := by
                  subst e
                  unfold ovK
                  simp only [Int.pow_zero, Int.ediv_one]
                  rw [show u.Y + (y : Int) - u.Y = (y : Int) by omega, ← Int.natCast_mul]
                  omega
                rw [this]
              have hi1 := hZ.2.1
              have hi2 := hZ.2.2
              have hil : i < Z.length := by rw [hZ.1]; exact hlt
              have d3 := (Jx.i.out.row (by rw [hZ.1]; omega)).at_ hil
              rw [Nat.zero_add] at d3
              have zi := hi1 (Z.getD i 0) (by rw [List.getD_eq_getElem?_getD, List.getElem?_eq_getElem hil]; exact List.getElem_mem _)
              generalize v.l.getD (y * v.W + x) 0 = va at *
              generalize u.l.getD (ovK u i (v.X + (x : Int)) (v.Y + (y : Int))) 0 = vb at *
              generalize ovK u i (v.X + (x : Int)) (v.Y + (y : Int)) = ov at *
              have hgt : gtr (mag (subF va vb)) (Z.getD i 0) = true → i ≠ 0 := by
                intro ht e
                have e2 := hi0 e
                subst e; subst e2
                rw [hi2, gtr_V (mag_fin f3) Ieee.Format.const_0.1, sub_self0 f1, Ieee.Format.const_0.2.1] at ht
                simp at ht
              have ksub := fun w' => run_float_arith (P := Try.prog) w' .sub 29 .f32 _ _ _ (bits_sub f1 f2)
              have KM := Lib.hid (fun w' => magnitude_any (subF va vb) f3 w')
              have SETOK := Lib.hid (fun (h0 : i ≠ 0) => hZ.set i (mag (subF va vb)) lz h0)
              have flg := Jx.i.out
              have hmag := mag_lt (subF va vb)
              generalize mag (subF va vb) = mg at *
              generalize subF va vb = sv at *
              generalize Z.getD i 0 = zv at *
              generalize hqy : (v.Y + (y : Int)) / 2 ^ i = qy at *
              generalize hqx : (v.X + (x : Int)) / 2 ^ i = qx at *
              have hmin : min i 64 = i := by omega
              generalize hMM : (qy - u.Y) * (u.W : Int) = M at *
              have e1 : IntKind.i64.wrap (qy - u.Y) = qy - u.Y := IntWalk.i64_in _ (by omega)
              have e3 : IntKind.i64.wrap M = M := IntWalk.i64_in _ (by omega)
              have e5 : IntKind.i64.wrap (M + qx) = M + qx := IntWalk.i64_in _ (by omega)
              have e6 : IntKind.i64.wrap (M + qx - u.X) = (ov : Int) := by rw [IntWalk.i64_in _ (by omega)]; exact p1
              generalize hkk : y * v.W + x = kk at *
              have lf := Jx.i.f.lt
              have l6 := Jx.f6.lt
              have p2' : (ov : Int) < (u.l.length : Int) := by omega
              have hk' : (kk : Int) < (v.l.length : Int) := by omega
              clear hZ Jx f1 f2 f3 g1 g2 g3 g4 lz hi0 hi1 hi2 zi p3 p4 p5 p6 p7 p8 p1 m1
              have hrel' : ∀ wi' Z', LosJ w wi' (w.heap.size + 1) w.heap.size L.length v gf cf k6 u gu cu Z' → ZOk m L.length Z' → ∃ (x_1 : Nat) (Z_1 : List Nat), x_1 ≤ v.W ∧ Value.int .i64 (v.X + (x : Int) + 1) = .int .i64 (v.X + (x_1 : Int)) ∧ Value.int .i64 (kk : Int) = .int .i64 (((y * v.W + x_1 : Nat) : Int) - 1) ∧ LosJ w wi' (w.heap.size + 1) w.heap.size L.length v gf cf k6 u gu cu Z_1 ∧ ZOk m L.length Z_1 :=
                fun wi' Z' h1 h2 => ⟨x + 1, Z', by omega, by congr 1; omega, by rw [← hkk]; congr 1; omega, h1, h2⟩
              have HREL := Lib.hid hrel'
              clear hrel'
              go_upto_region 14 with fail
              go_quiet (fail)
              generalize nq = n1 at *
              go_upto_region 15 with fail
              go_quiet (first | (go_at_call 124; with_reducible exact (KM.out _).mono fun _ _ h => ⟨h.1, _, h.2.symm⟩))
              generalize nq = n2 at *
              go_upto_region 16 with fail
              unfold gtr at hgt
              have HJ2 := Lib.hid (fun a => HJ.out.call (w2 := wr.drewN a) (below_drewN (Below.refl _ _) _))
              have fr := (flg.at_ hil).2
              have lg := flg.lt
              by_cases hg : (FloatKind.f32.format.order mg zv == some .gt) = true
              · have h0 := hgt hg
                have HZ2 := SETOK.out h0
                clear hgt flg
                go_wp2_with fail
                have HJ3 := (HJ2.out (n1 + n2)).put i mg hmag
                go_roundw
                case rel => exact HREL.out _ _ HJ3 HZ2
                case measure => simp [intOf]; omega
              · have hg' : (FloatKind.f32.format.order mg zv == some .gt) = false := by simpa using hg
                clear hgt flg
                go_wp2_with fail
                have HJ3 := HJ2.out (n1 + n2)
                go_roundw
                case rel => exact HREL.out _ _ HJ3 HZ.out
                case measure => simp [intOf]; omega
            · obtain rfl : x = v.W := by omega
              have hxx : ¬ (v.X + (v.W : Int) < v.X + (v.W : Int)) := by omega
              have hrel' : ∃ (y_1 : Nat) (Z_1 : List Nat), y_1 ≤ v.H ∧ Value.int .i64 (v.Y + (y : Int) + 1) = .int .i64 (v.Y + (y_1 : Int)) ∧ Value.int .i64 (((y * v.W + v.W : Nat) : Int) - 1) = .int .i64 (((y_1 * v.W : Nat) : Int) - 1) ∧ LosJ w wr (w.heap.size + 1) w.heap.size L.length v gf cf k6 u gu cu Z_1 ∧ ZOk m L.length Z_1 :=
                ⟨y + 1, Z, by omega, by congr 1; omega, by rw [Nat.add_mul, Nat.one_mul], Jx, hZ⟩
              have HREL := Lib.hid hrel'
              clear hrel' Jx hZ HJ HZ b0 b1 b2 b3 b4
              go_wp2_with fail
              go_roundw
              case rel => exact HREL.out
              case measure => simp [intOf]; omega
        · obtain rfl : y = v.H := by omega
          have hyy : ¬ (v.Y + (v.H : Int) < v.Y + (v.H : Int)) := by omega
          have hrel' : ∃ (i_1 : Nat) (Z_1 : List Nat), i_1 ≤ L.length ∧ Value.int .i64 ((i : Int) + 1) = .int .i64 (i_1 : Int) ∧ LosInv w wr (w.heap.size + 1) w.heap.size L.length v gf cf Z_1 ∧ ZOk m L.length Z_1 := ⟨i + 1, Z, by omega, by congr 1, HJ.out.i, HZ.out⟩
          have HREL := Lib.hid hrel'
          clear hrel' HJ HZ
          go_wp2_with fail
          go_roundw
          case rel => exact HREL.out
          case measure => simp [intOf]; omega
    · obtain rfl : i = L.length := by omega
      have HQ : Hid (LosP m L.length w (.returned (.slice (some ⟨w.heap.size, 0, none⟩) L.length L.length)) wr) := Lib.hid ⟨_, _, Z, rfl, I.out, hZ, I.bl⟩
      clear I hZ
      go_wp2_with fail
      exact bodyPost_ret (v := .slice (some ⟨w.heap.size, 0, none⟩) L.length L.length) (by simp [results, Try.results108, go_sem, *]) rfl HQ.out
end Go.Proofs.Ytkmcinibaffpmaa
