import Derived.Test.YtnfebeebjelgbaaPasteWalk
namespace Go.Proofs.Ytnfebeebjelgbaa
open Go.ChangeShapes Go.WideShapes Go.ChangeAt Go.RowKit
open Ieee.Format (fin finE htE allFin allHt all_true all_false mulF subF addF Ht Bd divF rootF floorF easeF mixF)
set_option linter.unusedVariables false

theorem bitsfnF_any (a b : Nat) (w : World) : Calls Try.prog 112 #[.float .f32 a, .float .f32 b] w fun e w' => e = .returned (.bool (decide (a = b))) ∧ w = w' := by
  have ka := fun w => run_f32bits a w
  have kb := fun w => run_f32bits b w
  go_enter Try.func112, Try.ntmps112
  go_wp2
  go_ret
  exact ⟨congrArg (fun b => Ending.returned (.bool b)) (beq_cast a b), rfl⟩

set_option maxHeartbeats 1000000 in
theorem eqfuncF_any (b o c b' o' c' : Nat) (l m : List Nat) (w : World) (hl : SRow w (some ⟨b, o, none⟩) l) (hm : SRow w (some ⟨b', o', none⟩) m) :
    Calls Try.prog 103 #[.slice (some ⟨b, o, none⟩) l.length c, .slice (some ⟨b', o', none⟩) m.length c', .func (.func 112) #[] #[]] w fun e w' => e = .returned (.bool (decide (l = m))) ∧ w = w' := by
  have HL := Lib.hid hl
  have HM := Lib.hid hm
  have l1 := hl.1.1
  have l2 := hm.1.1
  clear hl hm
  by_cases hn : l.length = m.length
  · have HN := Lib.hid hn
    have hb : ((l.length : Int) != (m.length : Int)) = false := by rw [bne_eq_false_iff_eq]; omega
    have HR : Hid (∀ r, r = decide (l = m) → Ending.returned (.bool r) = .returned (.bool (decide (l = m)))) := fun r hr => by rw [hr]
    have hgl : m.length ≤ l.length := by omega
    have hgm : l.length ≤ m.length := by omega
    clear hn
    go_enter Try.func103, Try.ntmps103
    go_wp2
    go_loop [7, 8, 9, 17] (fun _ _ _ i => ∃ k : Nat, k ≤ l.length ∧ i = .int .i64 k ∧ ∀ j, j < k → l.getD j 0 = m.getD j 0) (fun _ _ _ i => l.length - (intOf i).toNat)
    case atStart => exact ⟨0, by omega, rfl, by omega⟩
    case round =>
      obtain ⟨k, hk, rfl, hf⟩ := hrel
      have HF := Lib.hid hf
      clear hf
      by_cases hlt : k < l.length
      · have hlt2 : k < m.length := by omega
        have hc1 := HL.out.at_ hlt
        have hc2 := HM.out.at_ hlt2
        by_cases hx : l.getD k 0 = m.getD k 0
        · have HE : Hid (∀ j, j < k + 1 → l.getD j 0 = m.getD j 0) := by
            have HX := hx
            intro j hj
            by_cases c : j = k
            · subst c; exact HX
            · exact HF.out j (by omega)
          rw [← hx] at hc2
          clear hx
          generalize l.getD k 0 = x at *
          have KB := Lib.hid (fun w => bitsfnF_any x x w)
          rw [show decide (x = x) = true from decide_eq_true rfl] at KB
          go_wp2_with (go_at_call 112; refine (KB.out _).mono ?_; rintro e w' ⟨rfl, rfl⟩)
          go_round
          case rel => exact ⟨k + 1, by omega, by go_num, HE.out⟩
          case measure => simp [intOf]; omega
        · have HE : Hid (false = decide (l = m)) := by
            refine (decide_eq_false ?_).symm
            rintro rfl
            exact hx rfl
          have KB := Lib.hid (fun w => bitsfnF_any (l.getD k 0) (m.getD k 0) w)
          rw [show decide (l.getD k 0 = m.getD k 0) = false from decide_eq_false hx] at KB
          clear hx
          generalize l.getD k 0 = x at *
          generalize m.getD k 0 = y at *
          go_wp2_with (go_at_call 112; refine (KB.out _).mono ?_; rintro e w' ⟨rfl, rfl⟩)
          go_ret
          exact ⟨HR.out _ HE.out, rfl⟩
      · have HE : Hid (true = decide (l = m)) := by
          have hke : k = l.length := by omega
          refine (decide_eq_true ?_).symm
          exact list_eq_of HN.out (fun j hj => HF.out j (by omega))
        go_wp2
        go_ret
        exact ⟨HR.out _ HE.out, rfl⟩
  · have hb : ((l.length : Int) != (m.length : Int)) = true := by rw [bne_iff_ne]; omega
    have HE : Hid (false = decide (l = m)) := by
      refine (decide_eq_false ?_).symm
      rintro rfl
      exact hn rfl
    have HR : Hid (∀ r, r = decide (l = m) → Ending.returned (.bool r) = .returned (.bool (decide (l = m)))) := fun r hr => by rw [hr]
    clear hn
    go_enter Try.func103, Try.ntmps103
    go_wp2
    go_ret
    exact ⟨HR.out _ HE.out, rfl⟩

/-- are two fields the same -/
def smB (X Y W H X' Y' W' H' : Int) (l m : List Nat) : Bool := decide (X = X' ∧ Y = Y' ∧ W = W' ∧ H = H') && decide (l = m)
set_option maxHeartbeats 1000000 in
theorem refsame_any (X Y W H : Int) (b o c : Nat) (l : List Nat) (X' Y' W' H' : Int) (b' o' c' : Nat) (m : List Nat) (w : World) (hl : SRow w (some ⟨b, o, none⟩) l) (hm : SRow w (some ⟨b', o', none⟩) m) :
    Calls Try.prog 29 #[fldV X Y W H (some ⟨b, o, none⟩) l.length c, fldV X' Y' W' H' (some ⟨b', o', none⟩) m.length c'] w fun e w' => e = .returned (.bool (smB X Y W H X' Y' W' H' l m)) ∧ Below w.heap.size w w' := by
  have HL := Lib.hid hl
  have HM := Lib.hid hm
  clear hl hm
  have hA : Below w.heap.size w ((w.alloc (.cells #[.int .i64 X, .int .i64 Y, .int .i64 W, .int .i64 H, .slice (some ⟨b, o, none⟩) l.length c] 36)).alloc (.cells #[.int .i64 X', .int .i64 Y', .int .i64 W', .int .i64 H', .slice (some ⟨b', o', none⟩) m.length c'] 36)) := (by repeat (first | with_reducible exact Below.refl _ _ | with_reducible apply Below.drew | with_reducible refine below_drewN ?_ _ | (with_reducible refine Below.setCell ?_ ?_ _; rotate_left; focus (first | omega | (simp <;> omega))) | (with_reducible refine Below.alloc ?_ ?_ _; rotate_left; focus (first | omega | (simp <;> omega)))))
  have HA := Lib.hid hA
  clear hA
  by_cases hr : X = X' ∧ Y = Y' ∧ W = W' ∧ H = H'
  · obtain ⟨rfl, rfl, rfl, rfl⟩ := hr
    have hv : smB X Y W H X Y W H l m = decide (l = m) := by unfold smB; simp
    rw [hv]
    clear hv
    have KE := Lib.hid (fun W h1 h2 => eqfunc_any b o c b' o' c' l m W h1 h2)
    generalize decide (l = m) = r at *
    have kn := fun w => eqlReg X Y W H X Y W H w
    have kg := fun x y w => eqGuardReg .eql x y X Y W H X Y W H w
    go_enter Try.func29, Try.ntmps29
    go_wp2_with fail
    refine (KE.out _ (HL.out.below HA.out) (HM.out.below HA.out)).mono ?_
    rintro e w1 ⟨rfl, rfl⟩
    go_wp2_with fail
    go_ret
    exact ⟨rfl, HA.out⟩
  · have hv : smB X Y W H X' Y' W' H' l m = false := by unfold smB; simp only [hr]; simp
    rw [hv]
    clear hv
    have hb : (X == X' && Y == Y' && W == W' && H == H') = false := by
      rw [Bool.eq_false_iff]
      intro h
      simp only [Bool.and_eq_true, beq_iff_eq] at h
      exact hr ⟨h.1.1.1, h.1.1.2, h.1.2, h.2⟩
    have kn := fun w => eqlReg X Y W H X' Y' W' H' w
    rw [hb] at kn
    have kg := fun x y w => eqGuardReg .eql x y X Y W H X' Y' W' H' w
    clear hr hb
    go_enter Try.func29, Try.ntmps29
    go_wp2_with fail
    go_ret
    exact ⟨rfl, HA.out⟩
set_option maxHeartbeats 1000000 in
theorem fieldsame_any (X Y W H : Int) (b o c : Nat) (l : List Nat) (X' Y' W' H' : Int) (b' o' c' : Nat) (m : List Nat) (w : World) (hl : SRow w (some ⟨b, o, none⟩) l) (hm : SRow w (some ⟨b', o', none⟩) m) :
    Calls Try.prog 34 #[fldV X Y W H (some ⟨b, o, none⟩) l.length c, fldV X' Y' W' H' (some ⟨b', o', none⟩) m.length c'] w fun e w' => e = .returned (.bool (smB X Y W H X' Y' W' H' l m)) ∧ Below w.heap.size w w' := by
  have HL := Lib.hid hl
  have HM := Lib.hid hm
  clear hl hm
  have hA : Below w.heap.size w ((w.alloc (.cells #[.int .i64 X, .int .i64 Y, .int .i64 W, .int .i64 H, .slice (some ⟨b, o, none⟩) l.length c] 36)).alloc (.cells #[.int .i64 X', .int .i64 Y', .int .i64 W', .int .i64 H', .slice (some ⟨b', o', none⟩) m.length c'] 36)) := (by repeat (first | with_reducible exact Below.refl _ _ | with_reducible apply Below.drew | with_reducible refine below_drewN ?_ _ | (with_reducible refine Below.setCell ?_ ?_ _; rotate_left; focus (first | omega | (simp <;> omega))) | (with_reducible refine Below.alloc ?_ ?_ _; rotate_left; focus (first | omega | (simp <;> omega)))))
  have HA := Lib.hid hA
  clear hA
  by_cases hr : X = X' ∧ Y = Y' ∧ W = W' ∧ H = H'
  · obtain ⟨rfl, rfl, rfl, rfl⟩ := hr
    have hv : smB X Y W H X Y W H l m = decide (l = m) := by unfold smB; simp
    rw [hv]
    clear hv
    have KE := Lib.hid (fun W h1 h2 => eqfuncF_any b o c b' o' c' l m W h1 h2)
    generalize decide (l = m) = r at *
    have kn := fun w => eqlReg X Y W H X Y W H w
    have kg := fun x y w => eqGuardReg .eql x y X Y W H X Y W H w
    go_enter Try.func34, Try.ntmps34
    go_wp2_with fail
    refine (KE.out _ (HL.out.below HA.out) (HM.out.below HA.out)).mono ?_
    rintro e w1 ⟨rfl, rfl⟩
    go_wp2_with fail
    go_ret
    exact ⟨rfl, HA.out⟩
  · have hv : smB X Y W H X' Y' W' H' l m = false := by unfold smB; simp only [hr]; simp
    rw [hv]
    clear hv
    have hb : (X == X' && Y == Y' && W == W' && H == H') = false := by
      rw [Bool.eq_false_iff]
      intro h
      simp only [Bool.and_eq_true, beq_iff_eq] at h
      exact hr ⟨h.1.1.1, h.1.1.2, h.1.2, h.2⟩
    have kn := fun w => eqlReg X Y W H X' Y' W' H' w
    rw [hb] at kn
    have kg := fun x y w => eqGuardReg .eql x y X Y W H X' Y' W' H' w
    clear hr hb
    go_enter Try.func34, Try.ntmps34
    go_wp2_with fail
    go_ret
    exact ⟨rfl, HA.out⟩
/-- a bit-by-bit test of the law -/
theorem fillbits_any (h x : Nat) (p : Nat) (w : World) (hp : Blk w p #[.float .f32 h] 37) :
    Calls Try.prog 26 #[.float .f32 x, .pointer (some ⟨p, 0, none⟩)] w fun e w' => e = .returned (.bool (!decide (x = h))) ∧ w = w' := by
  have KB := Lib.hid (fun w => bits_any x h w)
  have c0 : w.cell? ⟨p, 0, none⟩ = some (.float .f32 h) := hp.cell 0
  have l0 := hp.lt
  clear hp
  generalize decide (x = h) = r at *
  go_enter Try.func26, Try.ntmps26
  go_wp2_with fail
  refine (KB.out _).mono ?_
  rintro e w1 ⟨rfl, rfl⟩
  go_wp2_with fail
  go_ret
  exact ⟨rfl, rfl⟩
/-- no cell of a filled field is another one -/
theorem fill_contains (h : Nat) (L : List Nat) (hL : ∀ x ∈ L, x = h) (a : Option Addr) (c p : Nat) (w : World) (hl : SRow w a L) (hp : Blk w p #[.float .f32 h] 37) :
    Calls Try.prog 25 #[.slice a L.length c, .func (.func 26) #[] #[.pointer (some ⟨p, 0, none⟩)]] w fun e w' => e = .returned (.bool false) ∧ w = w' := by
  have := contains_any 26 #[.pointer (some ⟨p, 0, none⟩)] (fun x => !decide (x = h)) a c L w hl (enters_of Try.func26 (by kernel_rfl) rfl) (fun x => fillbits_any h x p w hp)
  refine this.mono ?_
  rintro e w' ⟨rfl, rfl⟩
  refine ⟨?_, rfl⟩
  have : L.any (fun x => !decide (x = h)) = false := by
    rw [List.any_eq_false]
    intro x hx
    rw [hL x hx]; simp
  rw [this]

theorem pas_all (f g : List Nat) (X Y : Int) (Wn Hn : Nat) (X' Y' : Int) (Wn' Hn' : Nat) (cx cy : Int) (cw ch : Nat) (h1 : mx X X' = cx) (h2 : mx Y Y' = cy) (h3 : mn (X + Wn) (X' + Wn') - cx = cw) (h4 : mn (Y + Hn) (Y' + Hn') - cy = ch) :
    pasL f g X Y Wn Hn X' Y' Wn' cx cy cw ch = pasRL f g X Y Wn Hn X' Y' Wn' Hn' := by
  unfold pasL pasRL
  refine madeL_congr fun x y a b c d => ?_
  unfold pasV pasR
  unfold mx at h1 h2
  unfold mn at h3 h4
  by_cases hc : inR X' Y' Wn' Hn' x y
  · rw [if_pos hc, if_pos]
    unfold inR at hc
    split at h1 <;> split at h2 <;> split at h3 <;> split at h4 <;> omega
  · rw [if_neg hc, if_neg]
    unfold inR at hc
    split at h1 <;> split at h2 <;> split at h3 <;> split at h4 <;> omega
end Go.Proofs.Ytnfebeebjelgbaa
