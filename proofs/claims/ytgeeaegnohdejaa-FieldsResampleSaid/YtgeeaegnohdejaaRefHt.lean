import Derived.Test.YtgeeaegnohdejaaHts
namespace Go.Proofs.Ytgeeaegnohdejaa
open Go.ChangeShapes Go.WideShapes Go.ChangeAt Go.RowKit
open Ieee.Format (fin finE htE allFin allHt all_true all_false finE_ok finE_bad htE_ok htE_far htE_bad dmag heightE heightsE easeF ease1 ease2 ease3 mulF subF addF)
set_option linter.unusedVariables false

/-- how the reference's first test goes at a single -/
theorem finite_ways (x : Nat) : (¬ fin Ieee.single x ∧ (FloatKind.f32.format.order x x != some .eq) = true) ∨
    ((FloatKind.f32.format.order x x != some .eq) = false ∧ ∃ X, (∀ w, (convert /-T-/24 /-T-/105 (.float .f32 x)).run Try.prog w = .ok (.float .f64 X) w) ∧
      (∀ w, Calls Try.prog 84 #[.float .f64 X, .int .i64 0] w fun e w' => e = .returned (.bool (decide (¬ fin Ieee.single x))) ∧ w = w')) := by
  have t := Ieee.Format.is_nan_test x
  by_cases h : 2139095040 < x % 2147483648
  · left
    refine ⟨by rw [Ieee.Format.fin_lit]; omega, ?_⟩
    change (Ieee.single.order x x != some .eq) = true
    rw [t]; exact decide_eq_true h
  · right
    refine ⟨?_, ?_⟩
    · change (Ieee.single.order x x != some .eq) = false
      rw [t]; exact decide_eq_false h
    · obtain ⟨X, a, b, c, d⟩ := Ieee.Format.widen_any (x := x) (by omega)
      refine ⟨X, fun w => run_convert_float_float (P := Try.prog) w 24 105 .f32 .f64 x X (by kernel_rfl) Try.underlying105 a, fun w => ?_⟩
      have := isinf_any X b c w
      rw [show decide (Ieee.double.rung X = Ieee.double.infRung) = decide (¬ fin Ieee.single x) from by rw [Bool.eq_iff_iff, decide_eq_true_iff, decide_eq_true_iff]; exact d] at this
      exact this

theorem mag_gt_ht (x : Nat) (hx : fin Ieee.single x) : (FloatKind.f32.format.order (x % 2147483648) 1233125376 == some .gt) = !decide (x % 2147483648 ≤ 1233125376) := by
  change (Ieee.single.order (x % 2147483648) 1233125376 == some .gt) = _
  have hl : x % 2147483648 < 2147483648 := Nat.mod_lt _ (by decide)
  have e : x % 2147483648 = Ieee.single.word false (x % 2147483648) := rfl
  have hr : Ieee.single.rung (x % 2147483648) = x % 2147483648 := by rw [Ieee.Format.rung_lit]; omega
  have hs : Ieee.single.sgn (x % 2147483648) = false := by
    rw [Ieee.Format.sgn_lit, Nat.div_eq_of_lt hl]; rfl
  rw [Ieee.Format.fin_lit] at hx
  rw [Ieee.Format.mag_gt' Ieee.single Ieee.Format.single_bi hs (by rw [hr, Ieee.Format.single_inf]; omega) (c := 1233125376) (by decide) (by decide), hr, Bool.eq_iff_iff, show Ieee.single.rung 1233125376 = 1233125376 from by decide]
  simp

theorem refheight_any (a : Option Addr) (cap : Nat) (l : List Nat) (w : World) (hl : SRow w a l) :
    Calls Try.prog 39 #[.slice a l.length cap] w fun e w' => e = .returned (.int .i64 (htE l)) ∧ w = w' := by
  obtain ⟨⟨hm, hwf⟩, hl⟩ := hl
  have HWF := Lib.hid hwf
  clear hwf
  rcases hl with rfl | ⟨b, o, rfl, hc⟩
  · go_enter Try.func39, Try.ntmps39
    go_wp2
    refine wp_loop_rounds 1 ?_
    rw [rounds_succ]
    go_wp2
    refine wp_loop_rounds 1 ?_
    rw [rounds_succ]
    go_wp2
    go_ret
    exact ⟨rfl, rfl⟩
  · have HC := Lib.hid hc
    clear hc
    go_enter Try.func39, Try.ntmps39
    go_wp2
    go_loop [4, 9] (fun _ i => ∃ k : Nat, k ≤ l.length ∧ i = .int .i64 k ∧ ∀ j, j < k → fin Ieee.single (l.getD j 0)) (fun _ i => l.length - (intOf i).toNat)
    case atStart => exact ⟨0, by omega, rfl, by omega⟩
    case round =>
      obtain ⟨k, hk, rfl, hf⟩ := hrel
      have HF := Lib.hid hf
      clear hf
      by_cases hlt : k < l.length
      · have hcell := HC.out k hlt
        obtain ⟨x, hxe⟩ : ∃ x, x = l.getD k 0 := ⟨_, rfl⟩
        rw [← hxe] at hcell
        have HE := Lib.hid hxe
        clear hxe
        rcases finite_ways x with ⟨hx, hn⟩ | ⟨hn, X, hcv, hinf⟩
        · have hfin := Lib.hid (htE_bad <| all_false (p := fun x => fin Ieee.single x) hlt (by rw [← HE.out]; exact hx))
          clear hx
          go_wp2
          go_ret
          exact ⟨ret_i64 hfin.out.symm, rfl⟩
        · have HI := Lib.hid hinf
          clear hinf
          by_cases hx : fin Ieee.single x
          · have HX := Lib.hid hx
            have hxb : decide (¬ fin Ieee.single x) = false := decide_eq_false (fun h => h hx)
            rw [hxb] at HI
            clear hx hxb
            go_wp2_with (go_at_call 84; refine (HI.out _).mono ?_; rintro e w' ⟨rfl, rfl⟩)
            go_round
            case rel => exact ⟨k + 1, by omega, by go_num, fun j hj => by by_cases c : j = k; (subst c; rw [← HE.out]; exact HX.out); exact HF.out j (by omega)⟩
            case measure => simp [intOf]; omega
          · have hxb : decide (¬ fin Ieee.single x) = true := decide_eq_true hx
            have hfin := Lib.hid (htE_bad <| all_false (p := fun x => fin Ieee.single x) hlt (by rw [← HE.out]; exact hx))
            rw [hxb] at HI
            clear hx hxb
            go_wp2_with (go_at_call 84; refine (HI.out _).mono ?_; rintro e w' ⟨rfl, rfl⟩)
            go_ret
            exact ⟨ret_i64 hfin.out.symm, rfl⟩
      · have hke : k = l.length := by omega
        have hall0 := HF.out
        rw [hke] at hall0
        have hall := Lib.hid (all_true (p := fun x => fin Ieee.single x) (l := l) hall0)
        have HALL := Lib.hid hall0
        clear hke HF hall0
        go_wp2
        go_loop [6, 24] (fun _ i => ∃ k : Nat, k ≤ l.length ∧ i = .int .i64 k ∧ ∀ j, j < k → (l.getD j 0) % 2147483648 ≤ 1233125376) (fun _ i => l.length - (intOf i).toNat)
        case atStart => exact ⟨0, by omega, rfl, by omega⟩
        case round =>
          clear hlt hk
          obtain ⟨k, hk, rfl, hf⟩ := hrel
          have HF := Lib.hid hf
          clear hf
          by_cases hlt : k < l.length
          · have hcell := HC.out k hlt
            have hxw : l.getD k 0 < 4294967296 := HWF.out _ (by rw [List.getD_eq_getElem?_getD, List.getElem?_eq_getElem hlt]; exact List.getElem_mem hlt)
            have hfx := HALL.out k hlt
            obtain ⟨x, hxe⟩ : ∃ x, x = l.getD k 0 := ⟨_, rfl⟩
            rw [← hxe] at hcell hxw hfx
            have HE := Lib.hid hxe
            clear hxe
            have hg := mag_gt_ht x hfx
            have KA := Lib.hid (fun w => refabs_any x hxw w)
            clear hfx hxw
            by_cases hx : x % 2147483648 ≤ 1233125376
            · have HX : Hid ((l.getD k 0) % 2147483648 ≤ 1233125376) := by rw [← HE.out]; exact hx
              rw [show decide (x % 2147483648 ≤ 1233125376) = true from decide_eq_true hx] at hg
              clear hx
              generalize x % 2147483648 = y at *
              go_wp2_with (go_at_call 85; refine (KA.out _).mono ?_; rintro e w' ⟨rfl, rfl⟩)
              go_round
              case rel => exact ⟨k + 1, by omega, by go_num, fun j hj => by by_cases c : j = k; (subst c; exact HX.out); exact HF.out j (by omega)⟩
              case measure => simp [intOf]; omega
            · rw [show decide (x % 2147483648 ≤ 1233125376) = false from decide_eq_false hx] at hg
              have hfin := Lib.hid (htE_far hall.out <| all_false (p := fun x => x % 2147483648 ≤ 1233125376) hlt (by rw [← HE.out]; exact hx))
              clear hx
              generalize x % 2147483648 = y at *
              go_wp2_with (go_at_call 85; refine (KA.out _).mono ?_; rintro e w' ⟨rfl, rfl⟩)
              go_ret
              exact ⟨ret_i64 hfin.out.symm, rfl⟩
          · have hke : k = l.length := by omega
            have hfin := Lib.hid (htE_ok hall.out <| all_true (p := fun x => x % 2147483648 ≤ 1233125376) (l := l) (by rw [← hke]; exact HF.out))
            clear hke
            go_wp2
            go_ret
            exact ⟨ret_i64 hfin.out.symm, rfl⟩

def outE (l : List Nat) : Int := if htE l = 0 then 0 else 3
theorem out_any (a : Option Addr) (cap : Nat) (l : List Nat) (w : World) (hl : SRow w a l) :
    Calls Try.prog 60 #[.slice a l.length cap] w fun e w' => e = .returned (.int .i64 (outE l)) ∧ w = w' := by
  have K := Lib.hid (fun w (h : SRow w a l) => refheight_any a cap l w h)
  have HL := Lib.hid hl
  clear hl
  have e1 : Hid (outE l = if htE l = 0 then 0 else 3) := rfl
  generalize outE l = r at *
  generalize htE l = c at *
  by_cases hc : c = 0
  · subst hc
    go_enter Try.func60, Try.ntmps60
    go_wp2_with (go_at_call 39; refine (K.out _ HL.out).mono ?_; rintro e w' ⟨rfl, rfl⟩)
    go_ret
    exact ⟨ret_i64 (by rw [e1.out]; rfl), rfl⟩
  · have hb : (c != 0) = true := by rw [bne_iff_ne]; exact hc
    have HC := Lib.hid hc
    clear hc
    go_enter Try.func60, Try.ntmps60
    go_wp2_with (go_at_call 39; refine (K.out _ HL.out).mono ?_; rintro e w' ⟨rfl, rfl⟩)
    go_ret
    exact ⟨ret_i64 (by rw [e1.out, if_neg HC.out]), rfl⟩
end Go.Proofs.Ytgeeaegnohdejaa
