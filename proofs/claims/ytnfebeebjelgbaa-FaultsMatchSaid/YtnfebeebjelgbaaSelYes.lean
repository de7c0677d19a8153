import Derived.Test.YtnfebeebjelgbaaSelOp
import Derived.Deep.RegionHeld3
namespace Go.Proofs.Ytnfebeebjelgbaa
open Go.ChangeShapes Go.WideShapes Go.ChangeAt Go.RowKit
open Ieee.Format (fin finE htE allFin allHt all_true all_false mulF subF addF Ht Bd divF rootF floorF easeF mixF)
set_option linter.unusedVariables false

theorem SRow.blt {w : World} {b o : Nat} {l : List Nat} (h : SRow w (some ⟨b, o, none⟩) l) (hn : 0 < l.length) : b < w.heap.size := by
  have := h.at_ hn
  rcases Nat.lt_or_ge b w.heap.size with hlt | hge
  · exact hlt
  · simp [World.cell?, Array.getElem?_eq_none hge] at this
theorem Right.pos {X Y : Int} {Wn Hn : Nat} {l : List Nat} (h : Right X Y Wn Hn l) : 0 < l.length := by
  have := Nat.mul_le_mul h.h1 h.w1
  rw [← h.len] at this; omega
theorem Right.small {X Y : Int} {Wn Hn : Nat} {l : List Nat} (h : Right X Y Wn Hn l) : l.length ≤ 1099511627776 := by
  have h1 := Nat.mul_le_mul h.h2 h.w2
  rw [← h.len] at h1; omega

theorem sel_zero {lo hi soft : Nat} (h : selC lo hi soft = 0) : htE [lo, hi, soft] = 0 ∧ gtr lo hi = false ∧ lss soft 0 = false := by
  unfold selC at h
  by_cases h1 : htE [lo, hi, soft] = 0
  · rw [if_neg (by omega)] at h
    cases h2 : gtr lo hi with
    | true => rw [h2, if_pos rfl] at h; omega
    | false =>
      rw [h2, if_neg (by decide)] at h
      cases h3 : lss soft 0 with
      | true => rw [h3, if_pos rfl] at h; omega
      | false => exact ⟨h1, rfl, rfl⟩
  · rw [if_pos h1] at h; exact absurd h h1
theorem sel_hts {lo hi soft : Nat} (h : htE [lo, hi, soft] = 0) : Ht lo ∧ Ht hi ∧ Ht soft := by
  have := Ieee.Format.allHt_iff.1 (Ieee.Format.htE_zero h)
  exact ⟨this _ (by simp), this _ (by simp), this _ (by simp)⟩
theorem map_ht {φ : Nat → Nat} {l : List Nat} (h : ∀ x ∈ l, Ht (φ x)) : resC (l.map φ) = 0 := by
  unfold resC
  rw [if_pos]
  exact Ieee.Format.allHt_iff.2 (fun x hx => by obtain ⟨y, hy, rfl⟩ := List.mem_map.1 hx; exact h y hy)

theorem cnt_world (w : World) (cs : Array Value) (t : TypeId) : ∀ W0, W0 = (w.alloc (.cells cs t)).alloc (.cells #[.int .i64 (-1)] 3) → CntAt W0 (w.heap.size + 1) (-1) ∧ Below w.heap.size w W0 ∧ W0.heap.size = w.heap.size + 2 := by
  rintro _ rfl
  refine ⟨?_, (by repeat (first | with_reducible exact Below.refl _ _ | with_reducible apply Below.drew | with_reducible refine below_drewN ?_ _ | (with_reducible refine Below.setCell ?_ ?_ _; rotate_left; focus (first | omega | (simp <;> omega))) | (with_reducible refine Below.alloc ?_ ?_ _; rotate_left; focus (first | omega | (simp <;> omega))))), by simp⟩
  have := Blk.new (w.alloc (.cells cs t)) #[.int .i64 (-1)] 3
  simpa using this

set_option maxRecDepth 100000 in
set_option maxHeartbeats 1000000 in
theorem select_ok (X Y : Int) (Wn Hn : Nat) (b o c : Nat) (l : List Nat) (lo hi soft : Nat) (w : World) (hl : SRow w (some ⟨b, o, none⟩) l) (hr : Right X Y Wn Hn l) (h1 : lo < 4294967296) (h2 : hi < 4294967296) (h3 : soft < 4294967296) (h : selC lo hi soft = 0) :
    Calls Try.prog 69 #[fldV X Y Wn Hn (some ⟨b, o, none⟩) l.length c, .float .f32 lo, .float .f32 hi, .float .f32 soft] w fun e w' => OpP 0 X Y Wn Hn (l.map (selF lo hi soft)) w e w' := by
  obtain ⟨hh, hg, hs⟩ := sel_zero h
  obtain ⟨t1, t2, t3⟩ := sel_hts hh
  have K := Lib.hid (fun w h => check_field X Y Wn Hn (some ⟨b, o, none⟩) c l w h)
  rw [hr.chk] at K
  have HL := Lib.hid hl
  have KH := Lib.hid (fun W g c0 c1 c2 => heights_three W g lo hi soft h1 h2 h3 c0 c1 c2)
  rw [hh] at KH
  have HBL : Hid (b < w.heap.size) := SRow.blt hl hr.pos
  have KM := Lib.hid (fun p q pa pb pc w (hl : SRow w (some ⟨b, o, none⟩) l) (hq : Fld w q X Y Wn Hn (.slice (some ⟨b, o, none⟩) l.length c)) (ha : Blk w pa #[.float .f32 lo] 37) (hb : Blk w pb #[.float .f32 hi] 37) (hc : Blk w pc #[.float .f32 soft] 37) (hp : CntAt w p (-1)) (qp : q ≠ p) (bp : b ≠ p) (pap : pa ≠ p) (pbp : pb ≠ p) (pcp : pc ≠ p) =>
    make_map 167 #[.pointer (some ⟨p, 0, none⟩), .pointer (some ⟨q, 0, none⟩), .pointer (some ⟨pa, 0, none⟩), .pointer (some ⟨pb, 0, none⟩), .pointer (some ⟨pc, 0, none⟩)] p (selF lo hi soft) X Y Wn Hn l w hr (enters_of Try.func167 (by kernel_rfl) rfl) hp (selF_lt lo hi soft)
      (fun x y k hk W' hb' hcnt => selectfn_any lo hi soft x y p q b o c pa pb pc k X Y Wn Hn l W' ⟨hcnt, hq.but hb' hq.lt qp, SRow.but hl hb' (SRow.blt hl hr.pos) bp, qp, bp, hk, by have := hb'.size; have := SRow.blt hl hr.pos; omega⟩ (hr.getD k) t1 t2 t3 (ha.but hb' ha.lt pap) (hb.but hb' hb.lt pbp) (hc.but hb' hc.lt pcp) pap pbp pcp))
  change (FloatKind.f32.format.order lo hi == some .gt) = false at hg
  change (FloatKind.f32.format.order soft 0 == some .lt) = false at hs
  clear hl hr h1 h2 h3 h hh t1 t2 t3
  generalize hS : l.map (selF lo hi soft) = S at *
  clear hS
  go_enter Try.func69, Try.ntmps69
  go_wp2_with fail
  generalize hW0 : ((((w.alloc (.cells #[.int .i64 X, .int .i64 Y, .int .i64 Wn, .int .i64 Hn, .slice (some ⟨b, o, none⟩) l.length c] 36)).alloc (.cells #[.float .f32 lo] 37)).alloc (.cells #[.float .f32 hi] 37)).alloc (.cells #[.float .f32 soft] 37)).alloc (.cells #[.int .i64 0, .int .i64 0, .int .i64 0, .int .i64 0, .slice none 0 0] 36) = W0 at *
  obtain ⟨E0, P0, Q0, R0, F0, B0⟩ := box_f3c w X Y Wn Hn (.slice (some ⟨b, o, none⟩) l.length c) #[.float .f32 lo] #[.float .f32 hi] #[.float .f32 soft] 37 W0 hW0.symm
  clear hW0
  refine (K.out _ (HL.out.below B0)).mono ?_
  rintro e w1 ⟨rfl, b1⟩
  have HE1 := Lib.hid (E0.below b1 E0.lt)
  have HP1 := Lib.hid (P0.below b1 P0.lt)
  have HQ1 := Lib.hid (Q0.below b1 Q0.lt)
  have HC1 := Lib.hid (R0.below b1 R0.lt)
  have HF1 := Lib.hid (F0.below b1 F0.lt)
  have HL1 := Lib.hid ((HL.out.below B0).below b1)
  have HB1 := Lib.hid (B0.trans (b1.mono B0.size))
  clear b1 B0 F0 E0 P0 Q0 R0 K HL
  have p0 : w1.cell? ⟨w.heap.size + 1, 0, none⟩ = some (.float .f32 lo) := HP1.out.cell 0
  have p1 : w1.cell? ⟨w.heap.size + 1 + 1, 0, none⟩ = some (.float .f32 hi) := HQ1.out.cell 0
  have p2 : w1.cell? ⟨w.heap.size + 1 + 1 + 1, 0, none⟩ = some (.float .f32 soft) := HC1.out.cell 0
  have l4 : w.heap.size + 1 + 1 + 1 + 1 < w1.heap.size := HF1.out.lt
  have l3 : w.heap.size + 1 + 1 + 1 < w1.heap.size := by omega
  have l2 : w.heap.size + 1 + 1 < w1.heap.size := by omega
  have l1 : w.heap.size + 1 < w1.heap.size := by omega
  have l0 : w.heap.size < w1.heap.size := by omega
  go_wp2_with fail
  refine (KH.out _ _ (by simp [go_sem]) (by simp [go_sem]) (by simp [go_sem])).mono ?_
  rintro e w2 ⟨rfl, rfl⟩
  obtain ⟨c0, c1, c2, c3, c4⟩ := HE1.out.cells
  go_wp2_with fail
  generalize hW2 : (w1.alloc (.cells #[.float .f32 lo, .float .f32 hi, .float .f32 soft] 37)).alloc (.cells #[.int .i64 (-1)] 3) = W2 at *
  obtain ⟨n2, B2, z2⟩ := cnt_world w1 _ _ W2 hW2.symm
  clear hW2
  have HN2 := Lib.hid n2
  have HZ2 := Lib.hid z2
  clear n2 z2
  have HE2 := Lib.hid (HE1.out.below B2 HE1.out.lt)
  have HP2 := Lib.hid (HP1.out.below B2 HP1.out.lt)
  have HQ2 := Lib.hid (HQ1.out.below B2 HQ1.out.lt)
  have HC2 := Lib.hid (HC1.out.below B2 HC1.out.lt)
  have HF2 := Lib.hid (HF1.out.below B2 HF1.out.lt)
  have HL2 := Lib.hid (HL1.out.below B2)
  have HB2 := Lib.hid (HB1.out.trans (B2.mono HB1.out.size))
  have HBS : Hid (w.heap.size ≤ w1.heap.size) := HB1.out.size
  refine (KM.out _ _ _ _ _ _ HL2.out HE2.out HP2.out HQ2.out HC2.out HN2.out (by omega) (by have := HBL.out; omega) (by omega) (by omega) (by omega)).mono ?_
  rintro e w3 ⟨⟨g, cap, rfl, ho⟩, b3⟩
  have HFZ := Lib.hid (HF2.out.below b3 (by omega))
  have HBZ := Lib.hid (HB2.out.trans (b3.mono (by have := HBS.out; omega)))
  have HO3 := Lib.hid ho
  have HZB : Hid (w.heap.size + 1 + 1 + 1 + 1 < W2.heap.size) := HF2.out.lt
  have HBB : Hid (w.heap.size ≤ W2.heap.size) := HB2.out.size
  clear ho b3 KM HE2 HP2 HQ2 HC2 HF2 HL2 HB2 HE1 HP1 HQ1 HC1 HF1 HL1 HB1 B2 p0 p1 p2 l4 l3 l2 l1 l0 c0 c1 c2 c3 c4 HN2
  obtain ⟨d0, d1, d2, d3, d4⟩ := HFZ.out.cells
  have qf0 := HFZ.out.frozen 0
  have qf1 := HFZ.out.frozen 1
  have qf2 := HFZ.out.frozen 2
  have qf3 := HFZ.out.frozen 3
  have qf4 := HFZ.out.frozen 4
  have lz := HFZ.out.lt
  go_wp2_with fail
  generalize hW5 : ((((w3.setCell ⟨w.heap.size + 1 + 1 + 1 + 1, 0, none⟩ (.int .i64 X)).setCell ⟨w.heap.size + 1 + 1 + 1 + 1, 1, none⟩ (.int .i64 Y)).setCell ⟨w.heap.size + 1 + 1 + 1 + 1, 2, none⟩ (.int .i64 Wn)).setCell ⟨w.heap.size + 1 + 1 + 1 + 1, 3, none⟩ (.int .i64 Hn)).setCell ⟨w.heap.size + 1 + 1 + 1 + 1, 4, none⟩ (.slice (some ⟨g, 0, none⟩) S.length cap) = W5 at *
  obtain ⟨f5, bb5, oo5, _, z5⟩ := fld_store w3 (w.heap.size + 1 + 1 + 1 + 1) 0 0 0 0 _ X Y Wn Hn (.slice (some ⟨g, 0, none⟩) S.length cap) HFZ.out W5 hW5.symm
  have hg : g ≠ w.heap.size + 1 + 1 + 1 + 1 := by have := HO3.out.lt.1; have := HZB.out; omega
  have hO5 := (oo5 _ _ _ _ HO3.out hg).base HBB.out
  have hB5 := HBZ.out.trans (bb5.mono (by omega))
  clear d0 d1 d2 d3 d4 qf0 qf1 qf2 qf3 qf4 hW5 oo5
  obtain ⟨d0, d1, d2, d3, d4⟩ := f5.cells
  exact bodyPost_ret (v := .tuple #[fldV X Y Wn Hn (some ⟨g, 0, none⟩) S.length cap, .int .i64 0]) (by simp [results, Try.results69, go_sem, *]) rfl ⟨⟨_, _, _, _, _, _, _, rfl, .inr ⟨rfl, rfl, rfl, rfl, rfl, g, rfl, rfl, hO5⟩⟩, hB5⟩
end Go.Proofs.Ytnfebeebjelgbaa
