import Derived.Test.YtfmbekdfigbfiaaKScatY
import Derived.Deep.DeepCutAuto
import Derived.OwnWalk
import Derived.Lib.SliceRun
import Derived.Lib.LazyBuf
namespace Go.Proofs.Ytfmbekdfigbfiaa
open Go.ChangeShapes Go.WideShapes Go.ChangeAt Go.RowKit
open Ieee.Format (fin finE htE allFin allHt all_true all_false mulF subF addF Ht Bd divF rootF floorF easeF mixF)
set_option linter.unusedVariables false
open Wide

/-! ### DeleteFunc at places -/
theorem set_list {F J D : List (Int × Int)} {a p : Int × Int} : (F ++ (a :: J) ++ (p :: D)).set F.length p = (F ++ [p]) ++ (J ++ [p]) ++ D := by
  rw [List.append_assoc, List.set_append_right _ _ (Nat.le_refl _), Nat.sub_self]
  simp
/-- the memory of DeleteFunc's loop -/
structure DfI (w wr : World) (B g : Nat) (L F J : List (Int × Int)) (j : Nat) : Prop where
  le : j ≤ L.length
  len : F.length + J.length = j
  pos : 1 ≤ J.length
  row : PtsF wr g (F ++ J ++ L.drop j)
  gb : B ≤ g
  bz : B ≤ wr.heap.size
  b : Below B w wr
section
variable {w wr w2 : World} {B g : Nat} {L F J : List (Int × Int)} {j : Nat}
theorem DfI.call (h : DfI w wr B g L F J j) (hb : Below wr.heap.size wr w2) : DfI w w2 B g L F J j :=
  ⟨h.le, h.len, h.pos, h.row.below hb, h.gb, Nat.le_trans h.bz hb.size, h.b.trans (hb.mono h.bz)⟩
theorem DfI.alloc (h : DfI w wr B g L F J j) (o : Obj) : DfI w (wr.alloc o) B g L F J j := h.call ((Below.refl _ _).alloc (Nat.le_refl _) _)
theorem DfI.skip {p : Int × Int} (h : DfI w wr B g L F J j) (hp : L[j]? = some p) : DfI w wr B g L F (J ++ [p]) (j + 1) := by
  have hj : j < L.length := (List.getElem?_eq_some_iff.1 hp).1
  have hd : L.drop j = p :: L.drop (j + 1) := by
    rw [List.drop_eq_getElem_cons hj]
    congr 1
    rw [List.getElem?_eq_getElem hj] at hp
    exact Option.some.inj hp
  refine ⟨hj, by rw [List.length_append, List.length_singleton]; have := h.len; omega, by rw [List.length_append, List.length_singleton]; omega, ?_, h.gb, h.bz, h.b⟩
  have := h.row
  rw [hd] at this
  simpa using this
theorem DfI.keep {x y : Int} (h : DfI w wr B g L F J j) (hp : L[j]? = some (x, y)) :
    ∃ J', DfI w ((wr.setCell ⟨g, F.length * 2, none⟩ (.int .i64 x)).setCell ⟨g, F.length * 2 + 1, none⟩ (.int .i64 y)) B g L (F ++ [(x, y)]) J' (j + 1) := by
  have hj : j < L.length := (List.getElem?_eq_some_iff.1 hp).1
  have hd : L.drop j = (x, y) :: L.drop (j + 1) := by
    rw [List.drop_eq_getElem_cons hj]
    congr 1
    rw [List.getElem?_eq_getElem hj] at hp
    exact Option.some.inj hp
  have hl := h.len
  have hpo := h.pos
  cases J with
  | nil => simp at hpo
  | cons a J =>
    have hr := h.row.set (i := F.length) (x := x) (y := y) (by simp <;> omega)
    rw [hd, set_list] at hr
    refine ⟨J ++ [(x, y)], hj, by simp at hl ⊢ <;> omega, by simp, hr, h.gb, by have := h.bz; simpa using this, ?_⟩
    exact (h.b.setCell (p := ⟨g, F.length * 2, none⟩) h.gb _).setCell (p := ⟨g, F.length * 2 + 1, none⟩) h.gb _
end
set_option maxHeartbeats 8000000 in
set_option maxRecDepth 100000 in
theorem pts_delete (v : Value) (L : List (Int × Int)) (X Y : Int) (P Q : Nat) (kb B : Nat) (w : World) (hn : L.length ≤ 1000000) (own : w.ownsRow B 36 2 v L.length (ptsV L)) (hB : B ≤ w.heap.size) (hr : Reg w kb X Y P Q) (hkb : kb < B) (hP : 1 ≤ P) (hP2 : P ≤ 32) (hQ : 1 ≤ Q) (hQ2 : Q ≤ 32) (hX : -4194304 ≤ X) (hX2 : X ≤ 4194304) (hY : -4194304 ≤ Y) (hY2 : Y ≤ 4194304) :
    Calls Try.prog 51 #[v, outF kb] w fun e w' => ∃ v', e = .returned v' ∧ PtsV w' v' (L.filter (insR X Y P Q)) ∧ Below B w w' := by
  have eg : ∀ args w, (callFunc 53 args).run Try.prog w = .ok (.enter 53 args) w := enters_of Try.func53 (by kernel_rfl) rfl
  have KS := Lib.hid (fun x y w hr => struck_any X Y P Q kb x y w hr hP hP2 hQ hQ2 hX hX2 hY hY2)
  have hX : ∃ p cap g, v = .slice p L.length cap ∧ L.length ≤ cap ∧ (L = [] ∧ p = none ∨ p = some ⟨g, 0, none⟩ ∧ PtsF w g L ∧ B ≤ g) := by
    rcases own.2 with ⟨hv, h0⟩ | ⟨g, cap, cur, hv, hg, hh, hcap, _⟩
    · have hm : L = [] := List.length_eq_zero_iff.1 h0
      subst hm
      exact ⟨none, 0, 0, hv, Nat.le_refl _, .inl ⟨rfl, rfl⟩⟩
    · rw [hv] at own
      exact ⟨some ⟨g, 0, none⟩, cap, g, hv, hcap, .inr ⟨rfl, PtsF.of own, hg⟩⟩
  obtain ⟨p, cap, g, rfl, hcap, hX⟩ := hX
  have hIx : L ≠ [] → p = some ⟨g, 0, none⟩ ∧ PtsR w g L := fun e => by
    rcases hX with ⟨h, _⟩ | ⟨h1, h2, _⟩
    · exact absurd h e
    · exact ⟨h1, h2.1, fun n p hp => ⟨(h2.2 n p hp).1, (h2.2 n p hp).2.1⟩⟩
  have KI := Lib.hid (pts_index p cap g L X Y P Q kb w hn hIx hr hP hP2 hQ hQ2 ‹_› ‹_› ‹_› ‹_›)
  have HX := Lib.hid hX
  have HR := Lib.hid hr
  clear hX hIx own hr
  unfold outF at *
  go_enter Try.func51, Try.ntmps51
  go_wp2_with fail
  refine KI.out.mono ?_
  rintro e w1 ⟨he, b1⟩
  rcases he with ⟨j, hj, rfl, ⟨q, hq, hqf⟩, hall⟩ | ⟨rfl, hall⟩
  · have hne : L ≠ [] := fun e => by rw [e] at hj; simp at hj
    obtain ⟨rfl, hF, hgB⟩ : p = some ⟨g, 0, none⟩ ∧ PtsF w g L ∧ B ≤ g := by
      rcases HX.out with ⟨h, _⟩ | h
      · exact absurd h hne
      · exact h
    have hFl : (L.take j).filter (insR X Y P Q) = L.take j := List.filter_eq_self.2 (fun a ha => by
      obtain ⟨m, hm, rfl⟩ := List.mem_iff_getElem.1 ha
      have hm2 : m < j := by rw [List.length_take] at hm; omega
      refine hall m _ hm2 ?_
      rw [List.getElem_take]
      exact List.getElem?_eq_getElem (by omega))
    have hqe : L[j] = q := by rw [List.getElem?_eq_getElem hj] at hq; exact Option.some.inj hq
    have hT1 : L.take (j + 1) = L.take j ++ [q] := by rw [List.take_add_one, hq]; rfl
    have hFl1 : (L.take (j + 1)).filter (insR X Y P Q) = L.take j := by
      rw [hT1, List.filter_append, hFl, List.filter_cons, hqf]; simp
    have hrow : PtsF w1 g (L.take j ++ [q] ++ L.drop (j + 1)) := by
      rw [← hT1, List.take_append_drop]
      exact hF.below b1
    have hlt : (L.take j).length = j := by rw [List.length_take]; omega
    have HI1 : Hid (DfI w w1 B g L ((L.take (j + 1)).filter (insR X Y P Q)) [q] (j + 1)) := Lib.hid
      ⟨hj, by rw [hFl1, hlt]; rfl, Nat.le_refl _, by rw [hFl1]; exact hrow, hgB, Nat.le_trans hB b1.size, b1.mono hB⟩
    have HL1 : Hid (((L.take (j + 1)).filter (insR X Y P Q)).length = j) := by rw [hFl1]; exact hlt
    have hjm : ((j : Int) == -1) = false := beq_eq_false_iff_ne.2 (by omega)
    clear hall hFl hqe hT1 hFl1 hrow hlt hF b1 hq hqf hne KI
    go_upto_region 5 with fail
    go_loopw [5, 6, 7] (fun iv jv _ wr => ∃ (j : Nat) (J : List (Int × Int)), jv = .int .i64 (j : Int) ∧ iv = .int .i64 ((((L.take j).filter (insR X Y P Q)).length : Nat) : Int) ∧ DfI w wr B g L ((L.take j).filter (insR X Y P Q)) J j) (fun _ jv _ _ => L.length - (intOf jv).toNat)
    case atStart => exact ⟨j + 1, [q], by go_num, by rw [HL1.out], HI1.out⟩
    case round =>
      clear HI1 HL1
      obtain ⟨jj, J, rfl, rfl, I⟩ := hrel
      have HI := Lib.hid I
      have hle := I.le
      have hlen := I.len
      have hpos := I.pos
      clear I
      obtain ⟨F, hF⟩ : ∃ F, F = (L.take jj).filter (insR X Y P Q) := ⟨_, rfl⟩
      rw [← hF] at HI hlen ⊢
      have HFe := Lib.hid hF
      clear hF
      by_cases hlt : jj < L.length
      · obtain ⟨q, hq⟩ : ∃ q : Int × Int, L[jj]? = some q := ⟨_, List.getElem?_eq_getElem hlt⟩
        have hgt : (F ++ J ++ L.drop jj)[jj]? = some q := by
          rw [List.getElem?_append_right (by rw [List.length_append]; omega), List.length_append, List.getElem?_drop, show jj + (jj - (F.length + J.length)) = jj by omega]
          exact hq
        obtain ⟨c0, c1, _, _⟩ := HI.out.row.2 jj q hgt
        have lg := HI.out.row.1
        have HQ := Lib.hid hq
        have HN : Hid ((L.take (jj + 1)).filter (insR X Y P Q) = F ++ (if insR X Y P Q q = true then [q] else [])) := by
          unfold Hid
          rw [List.take_add_one, hq, List.filter_append, ← HFe.out]
          congr 1
          show [q].filter _ = _
          by_cases h : insR X Y P Q q = true
          · rw [if_pos h, List.filter_cons, if_pos h]; rfl
          · rw [if_neg h, List.filter_cons, if_neg h]; rfl
        clear hq hgt
        obtain ⟨x, y⟩ := q
        obtain ⟨b, hbi⟩ : ∃ b, b = insR X Y P Q (x, y) := ⟨_, rfl⟩
        have HK := Lib.hid (fun w hr => KS.out x y w hr)
        rw [← hbi] at HK HN
        clear hbi
        simp only at c0 c1
        have HI2 := Lib.hid (HI.out.alloc (.cells #[.int .i64 x, .int .i64 y] 36))
        have HD2 := Lib.hid (Blk.new wr #[.int .i64 x, .int .i64 y] 36)
        have HR2 : Hid (Reg (wr.alloc (.cells #[.int .i64 x, .int .i64 y] 36)) kb X Y P Q) := Lib.hid (by
          exact (HI2.out.b.block _ hkb).trans HR.out)
        have hkd : g < wr.heap.size := lg
        go_upto_region 8 with fail
        generalize wr.alloc (.cells #[.int .i64 x, .int .i64 y] 36) = W2 at *
        generalize wr.heap.size = kd at *
        clear c0 c1 lg HI
        have x0 := HD2.out.cell 0
        have x1 := HD2.out.cell 1
        simp at x0 x1
        have lx := HD2.out.lt
        cases b with
        | true =>
          have HN1 : Hid ((L.take (jj + 1)).filter (insR X Y P Q) = F ++ [(x, y)]) := HN.out.trans (by simp)
          go_wp2_with fail
          refine (HK.out _ HR2.out).mono ?_
          rintro e w3 ⟨rfl, b3⟩
          have HI3 := Lib.hid (HI2.out.call b3)
          have HD3 := Lib.hid (HD2.out.below b3 HD2.out.lt)
          clear b3 x0 x1 lx HI2 HD2 HR2
          have x0 := HD3.out.cell 0
          have x1 := HD3.out.cell 1
          simp at x0 x1
          have lx := HD3.out.lt
          have hFi : F.length < (F ++ J ++ L.drop jj).length := by rw [List.length_append, List.length_append]; omega
          obtain ⟨f0, f1, f2, f3⟩ := HI3.out.row.2 F.length _ (List.getElem?_eq_getElem hFi)
          have lg := HI3.out.row.1
          generalize (F ++ J ++ L.drop jj)[F.length] = old at f0 f1
          obtain ⟨o0, o1⟩ := old
          simp only at f0 f1
          obtain ⟨J', hK⟩ := HI3.out.keep HQ.out
          have HK4 := Lib.hid hK
          clear hK
          have hFL : Hid ((F ++ [(x, y)]).length = F.length + 1) := by unfold Hid; simp
          have hFl : F.length < L.length := by omega
          generalize F.length = fl at *
          go_wp2_with fail
          go_roundw
          case rel => exact ⟨jj + 1, J', by go_num, by rw [HN1.out, hFL.out]; go_num, by rw [HN1.out]; exact HK4.out⟩
          case measure => simp [intOf]; omega
        | false =>
          go_wp2_with fail
          refine (HK.out _ HR2.out).mono ?_
          rintro e w3 ⟨rfl, b3⟩
          have HI3 := Lib.hid (HI2.out.call b3)
          clear b3 x0 x1 lx HI2 HD2 HR2
          go_wp2_with fail
          go_roundw
          case rel => exact ⟨jj + 1, _, by go_num, by rw [HN.out]; simp, by rw [HN.out]; simpa using HI3.out.skip HQ.out⟩
          case measure => simp [intOf]; omega
      · obtain rfl : jj = L.length := by omega
        have hFf : Hid (F = L.filter (insR X Y P Q)) := by unfold Hid; rw [HFe.out, List.take_of_length_le (Nat.le_refl _)]
        have HV := HI.out.row
        rw [List.drop_length, List.append_nil] at HV
        have hcz : ∀ j, j < (L.length - F.length) * 2 → (wr.cell? ⟨g, F.length * 2 + j, none⟩).isSome = true ∧ wr.frozen? ⟨g, F.length * 2 + j, none⟩ = false := fun j hj => by
          have hm : F.length + j / 2 < (F ++ J).length := by rw [List.length_append]; omega
          obtain ⟨a, b, c, d⟩ := HV.2 (F.length + j / 2) _ (List.getElem?_eq_getElem hm)
          rcases (show j % 2 = 0 ∨ j % 2 = 1 by omega) with h | h
          · rw [show F.length * 2 + j = (F.length + j / 2) * 2 by omega]
            exact ⟨by rw [a]; rfl, c⟩
          · rw [show F.length * 2 + j = (F.length + j / 2) * 2 + 1 by omega]
            exact ⟨by rw [b]; rfl, d⟩
        obtain ⟨vs, hvl, hcl⟩ := clear_pts wr g (F.length * 2) (L.length - F.length) (cap - F.length) (by omega) (fun j hj => (hcz j hj).1) (fun j hj => (hcz j hj).2)
        have hfl : F.length < L.length := by omega
        have HVV : Hid (PtsV (wr.setCells g (F.length * 2) vs) (.slice (some ⟨g, 0, none⟩) F.length cap) (L.filter (insR X Y P Q))) := by
          unfold Hid
          rw [← hFf.out]
          refine ⟨some ⟨g, 0, none⟩, cap, rfl, by omega, .inr ⟨g, rfl, by simpa using HV.1, fun n p hp => ?_⟩⟩
          have hnl : n < F.length := (List.getElem?_eq_some_iff.1 hp).1
          obtain ⟨a, b, _, _⟩ := HV.2 n p (by rw [List.getElem?_append_left hnl]; exact hp)
          exact ⟨(World.cell?_setCells_out g vs _ wr ⟨g, n * 2, none⟩ (fun _ _ => .inl (by show n * 2 < F.length * 2; omega))).trans a, (World.cell?_setCells_out g vs _ wr ⟨g, n * 2 + 1, none⟩ (fun _ _ => .inl (by show n * 2 + 1 < F.length * 2; omega))).trans b⟩
        have HBB : Hid (Below B w (wr.setCells g (F.length * 2) vs)) := Lib.hid (below_setCells hgB vs _ wr HI.out.b)
        clear hcz HV HI
        generalize hfe : F.length = fl at *
        go_wp2_with fail
        go_ret
        exact ⟨_, rfl, HVV.out, HBB.out⟩
  · have hfa : L.filter (insR X Y P Q) = L := List.filter_eq_self.2 (fun a ha => by
      obtain ⟨m, hm, rfl⟩ := List.mem_iff_getElem.1 ha
      exact hall m _ (List.getElem?_eq_getElem hm))
    have HV : Hid (PtsV w1 (.slice p L.length cap) (L.filter (insR X Y P Q))) := by
      unfold Hid
      rw [hfa]
      refine ⟨p, cap, rfl, hcap, ?_⟩
      rcases HX.out with h | ⟨h1, h2, _⟩
      · exact .inl h
      · have h3 := h2.below b1
        exact .inr ⟨g, h1, h3.1, fun n p hp => ⟨(h3.2 n p hp).1, (h3.2 n p hp).2.1⟩⟩
    have HB1 := Lib.hid (b1.mono hB)
    clear b1 hall hfa
    go_wp2_with fail
    go_ret
    exact ⟨_, rfl, HV.out, HB1.out⟩
end Go.Proofs.Ytfmbekdfigbfiaa
