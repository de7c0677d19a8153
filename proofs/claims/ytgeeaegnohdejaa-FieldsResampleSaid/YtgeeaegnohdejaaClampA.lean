import Derived.Test.YtgeeaegnohdejaaRefScale
namespace Go.Proofs.Ytgeeaegnohdejaa
open Go.Shelf
open Go.ChangeShapes Go.WideShapes Go.ChangeAt Go.RowKit
open Ieee.Format (fin finE htE allFin allHt all_true all_false finE_ok finE_bad htE_ok htE_far htE_bad mulF subF addF Ht scaleF)
set_option linter.unusedVariables false

/-- a value held within two bounds -/
def clampF (a d x : Nat) : Nat := if (Ieee.single.order x a == some .lt) = true then a else if (Ieee.single.order x d == some .gt) = true then d else x
theorem clampF_ht {a d x : Nat} (ha : Ht a) (hd : Ht d) (hx : Ht x) : Ht (clampF a d x) := by
  unfold clampF; split
  · exact ha
  · split
    · exact hd
    · exact hx
theorem clampF_lt {a d x : Nat} (ha : a < 4294967296) (hd : d < 4294967296) (hx : x < 4294967296) : clampF a d x < 4294967296 := by
  unfold clampF; split
  · exact ha
  · split
    · exact hd
    · exact hx

theorem clampfn_any (x a d p q : Nat) (w : World) (c1 : w.cell? ⟨p, 0, none⟩ = some (.float .f32 a)) (c2 : w.cell? ⟨q, 0, none⟩ = some (.float .f32 d)) :
    Calls Try.prog 98 #[.float .f32 x, .pointer (some ⟨p, 0, none⟩), .pointer (some ⟨q, 0, none⟩)] w fun e w' => e = .returned (.float .f32 (clampF a d x)) ∧ w = w' := by
  go_enter Try.func98, Try.ntmps98
  go_wp2_with fail
  all_goals
    go_ret
    refine ⟨ret_f32 ?_, rfl⟩
    unfold clampF
    simp only [show Go.FloatKind.f32.format = Ieee.single from rfl] at *
    simp [*]

theorem clamped_any (x a d : Nat) (w : World) :
    Calls Try.prog 100 #[.float .f32 x, .float .f32 a, .float .f32 d] w fun e w' => e = .returned (.float .f32 (clampF a d x)) ∧ w = w' := by
  go_enter Try.func100, Try.ntmps100
  go_wp2_with fail
  all_goals
    go_ret
    refine ⟨ret_f32 ?_, rfl⟩
    unfold clampF
    simp only [show Go.FloatKind.f32.format = Ieee.single from rfl] at *
    simp [*]
set_option maxRecDepth 100000 in
theorem refclamp_fn (X Y : Int) (Wn Hn : Nat) (x y : Int) (b o c k p q a d : Nat) (l : List Nat) (w : World) (hl : SRow w (some ⟨b, o, none⟩) l) (hr : Right X Y Wn Hn l) (hx : X ≤ x) (hx' : x < X + Wn) (hy : Y ≤ y) (hy' : y < Y + Hn)
    (hk : Fld w k X Y Wn Hn (.slice (some ⟨b, o, none⟩) l.length c)) (hp : w.cell? ⟨p, 0, none⟩ = some (.float .f32 a)) (hq : w.cell? ⟨q, 0, none⟩ = some (.float .f32 d)) (hpl : p < w.heap.size) (hql : q < w.heap.size) (ha : Ht a) (hd : Ht d) :
    Calls Try.prog 99 #[.int .i64 x, .int .i64 y, .pointer (some ⟨k, 0, none⟩), .pointer (some ⟨p, 0, none⟩), .pointer (some ⟨q, 0, none⟩)] w fun e w' => e = .returned (.float .f32 (clampF a d (l.getD (cellNo X Y Wn x y).toNat 0))) ∧ Below w.heap.size w w' := by
  have K1 := Lib.hid (fun w' hl => at_right X Y Wn Hn x y b o c l w' hl hr hx hx' hy hy')
  have hz := hr.getD (cellNo X Y Wn x y).toNat
  generalize l.getD (cellNo X Y Wn x y).toNat 0 = z at *
  have K2 := Lib.hid (fun w' => clamped_any z a d w')
  have HL := Lib.hid hl
  have hkl := hk.lt
  obtain ⟨c0, c1, c2, c3, c4⟩ := hk.cells
  clear hk hr hl hx hx' hy hy' ha hd hz
  go_enter Try.func99, Try.ntmps99
  go_wp2_with fail
  go_region_held3 (fun w' => w'.cell? ⟨k, 0, none⟩ = some (.int .i64 X) ∧ w'.cell? ⟨k, 1, none⟩ = some (.int .i64 Y) ∧ w'.cell? ⟨k, 2, none⟩ = some (.int .i64 Wn) ∧ w'.cell? ⟨k, 3, none⟩ = some (.int .i64 Hn) ∧ w'.cell? ⟨k, 4, none⟩ = some (.slice (some ⟨b, o, none⟩) l.length c) ∧ w'.cell? ⟨p, 0, none⟩ = some (.float .f32 a) ∧ w'.cell? ⟨q, 0, none⟩ = some (.float .f32 d) ∧ Below w.heap.size w w')
    (first
      | exact ⟨c0, c1, c2, c3, c4, hp, hq, (Below.refl _ _).drew⟩
      | (go_split_ands
         have hs := (show Below w.heap.size w _ by assumption).size
         refine ⟨?_, ?_, ?_, ?_, ?_, ?_, ?_, ?_⟩
         all_goals first
           | (rw [hb.cell (by simp; omega)]; assumption)
           | exact Below.trans (by assumption) (hb.mono (by omega)))
      | (go_split_ands; refine ⟨?_, ?_, ?_, ?_, ?_, ?_, ?_, ?_⟩ <;> assumption))
    (first
      | (go_at_call 97; go_split_ands; refine (K1.out _ (HL.out.below (by assumption))).mono ?_; rintro e2 w2 ⟨rfl, hb⟩)
      | (go_at_call 100; refine (K2.out _).mono ?_; rintro e2 w2 ⟨rfl, rfl⟩))
  rename_i hHeld
  obtain ⟨_, _, _, _, _, _, _, hB⟩ := hHeld
  go_wp2_with fail
  go_ret
  exact ⟨rfl, hB⟩

set_option maxHeartbeats 1000000 in
theorem clamp_no (X Y W H : Int) (a : Option Addr) (c : Nat) (l : List Nat) (x y : Nat) (w : World) (hl : SRow w a l) (h0 : chkF X Y W H l = 0) (hx : x < 4294967296) (hy : y < 4294967296) (hn : htE [x, y] ≠ 0) :
    Calls Try.prog 50 #[fldV X Y W H a l.length c, .float .f32 x, .float .f32 y] w fun e w' => e = .returned (.tuple #[fldV 0 0 0 0 none 0 0, .int .i64 (htE [x, y])]) ∧ Below w.heap.size w w' := by
  have K := Lib.hid (fun w h => check_field X Y W H a c l w h)
  rw [h0] at K
  have HL := Lib.hid hl
  have K2 := Lib.hid (fun w c => heights_any (some ⟨w.heap.size, 0, none⟩) c [x, y] (w.alloc (.cells #[.float .f32 x, .float .f32 y] /-T-/24)) (row_two w x y hx hy _))
  have hb : (htE [x, y] != 0) = true := by rw [bne_iff_ne]; exact hn
  clear hl h0 hx hy hn
  generalize htE [x, y] = q at *
  have hA : Below w.heap.size w ((((w.alloc (.cells #[.int .i64 X, .int .i64 Y, .int .i64 W, .int .i64 H, .slice a l.length c] /-T-/66)).alloc (.cells #[.float .f32 x] /-T-/24)).alloc (.cells #[.float .f32 y] /-T-/24)).alloc (.cells #[.int .i64 0, .int .i64 0, .int .i64 0, .int .i64 0, .slice none 0 0] /-T-/66)) := (by repeat (first | with_reducible exact Below.refl _ _ | with_reducible apply Below.drew | with_reducible refine below_drewN ?_ _ | (with_reducible refine Below.setCell ?_ ?_ _; rotate_left; focus (first | omega | (simp <;> omega))) | (with_reducible refine Below.alloc ?_ ?_ _; rotate_left; focus (first | omega | (simp <;> omega)))))
  have HA := Lib.hid hA
  clear hA
  go_enter Try.func50, Try.ntmps50
  go_wp2_with fail
  refine (K.out _ (HL.out.below HA.out)).mono ?_
  rintro e w1 ⟨rfl, b1⟩
  have B1 := Lib.hid (HA.out.trans (b1.mono HA.out.size))
  obtain ⟨hcc, hf⟩ := bcell b1
  have hs := b1.size
  simp at hs
  have lta0 : w.heap.size < w1.heap.size := by omega
  have lta1 : w.heap.size + 1 < w1.heap.size := by omega
  have lta2 : w.heap.size + 1 + 1 < w1.heap.size := by omega
  have lta3 : w.heap.size + 1 + 1 + 1 < w1.heap.size := by omega
  clear b1
  go_wp2_with fail
  refine (K2.out _ _).mono ?_
  rintro e w2 ⟨rfl, rfl⟩
  go_wp2
  have B2 := B1.out
  exact bodyPost_ret (v := .tuple #[fldV 0 0 0 0 none 0 0, .int .i64 q]) (by simp [results, Try.results50, go_sem, *]) rfl ⟨rfl, (by have hszz := B2.size; repeat (first | with_reducible exact B2 | with_reducible apply Below.drew | with_reducible refine below_drewN ?_ _ | (with_reducible refine Below.setCell ?_ ?_ _; rotate_left; focus (first | omega | (simp <;> omega))) | (with_reducible refine Below.alloc ?_ ?_ _; rotate_left; focus (first | omega | (simp <;> omega)))))⟩

set_option maxHeartbeats 1000000 in
theorem refclamp_no (X Y W H : Int) (a : Option Addr) (n c : Nat) (x y : Nat) (w : World) (hx : x < 4294967296) (hy : y < 4294967296) (hn : htE [x, y] ≠ 0) :
    Calls Try.prog 51 #[fldV X Y W H a n c, .float .f32 x, .float .f32 y] w fun e w' => e = .returned (.tuple #[fldV 0 0 0 0 none 0 0, .int .i64 (htE [x, y])]) ∧ Below w.heap.size w w' := by
  have K2 := Lib.hid (fun W g h0 h1 => refheight_two W g x y hx hy h0 h1)
  have hb : (htE [x, y] != 0) = true := by rw [bne_iff_ne]; exact hn
  clear hx hy hn
  generalize htE [x, y] = q at *
  go_enter Try.func51, Try.ntmps51
  go_wp2_with fail
  refine (K2.out _ _ (by simp [go_sem]) (by simp [go_sem])).mono ?_
  rintro e w2 ⟨rfl, rfl⟩
  go_wp2
  exact bodyPost_ret (v := .tuple #[fldV 0 0 0 0 none 0 0, .int .i64 q]) (by simp [results, Try.results51, go_sem, *]) rfl ⟨rfl, (by repeat (first | with_reducible exact Below.refl _ _ | with_reducible apply Below.drew | with_reducible refine below_drewN ?_ _ | (with_reducible refine Below.setCell ?_ ?_ _; rotate_left; focus (first | omega | (simp <;> omega))) | (with_reducible refine Below.alloc ?_ ?_ _; rotate_left; focus (first | omega | (simp <;> omega)))))⟩


end Go.Proofs.Ytgeeaegnohdejaa
