import Derived.Test.YtnfebeebjelgbaaWholeFn
namespace Go.Proofs.Ytnfebeebjelgbaa
open Go.ChangeShapes Go.WideShapes Go.ChangeAt Go.RowKit
open Ieee.Format (fin finE htE allFin allHt all_true all_false mulF subF addF Ht Bd divF rootF floorF easeF mixF)
set_option linter.unusedVariables false
open Ieee.Format (const_40 frac_bd frac_zero conv_exact)

theorem finites_two (W : World) (g x y : Nat) (hx : x < 4294967296) (hy : y < 4294967296) (h0 : W.cell? ⟨g, 0, none⟩ = some (.float .f32 x)) (h1 : W.cell? ⟨g, 1, none⟩ = some (.float .f32 y)) :
    Calls Try.prog 123 #[.slice (some ⟨g, 0, none⟩) 2 2] W fun e w' => e = .returned (.int .i64 (finE [x, y])) ∧ W = w' := finites_any (some ⟨g, 0, none⟩) 2 [x, y] W (row_two_at W g x y hx hy h0 h1)
theorem finE_two {x y : Nat} (h : finE [x, y] = 0) : fin Ieee.single x ∧ fin Ieee.single y := by
  cases ha : allFin [x, y] with
  | true =>
    unfold allFin at ha
    simpa using ha
  | false => have := Ieee.Format.finE_bad ha; omega
theorem finE_two_bad {x y : Nat} (h : finE [x, y] ≠ 0) : finE [x, y] = 2 ∧ (¬ fin Ieee.single x ∨ ¬ fin Ieee.single y) := by
  cases ha : allFin [x, y] with
  | true => exact absurd (Ieee.Format.finE_ok ha) h
  | false =>
    refine ⟨Ieee.Format.finE_bad ha, ?_⟩
    apply Classical.byContradiction
    intro hn
    have h1 : fin Ieee.single x ∧ fin Ieee.single y := ⟨Classical.byContradiction fun c => hn (.inl c), Classical.byContradiction fun c => hn (.inr c)⟩
    have : allFin [x, y] = true := by unfold allFin; simpa using h1
    rw [this] at ha; cases ha

theorem Right.bd' {X Y : Int} {Wn Hn : Nat} {l : List Nat} (h : Right X Y Wn Hn l) (i : Nat) : Bd 20 (l.getD i 0) := Ieee.Format.Ht.bd (h.getD i)
def bilCode (x y : Nat) (R : Option Nat) : Int := if finE [x, y] ≠ 0 then finE [x, y] else bilC R
def bilVal (c : Int) (R : Option Nat) : Nat := if c = 0 then R.getD 0 else 0
theorem bilC_ne {v : Nat} (h : ¬ Ht v) (hf : fin Ieee.single v) : bilC (some v) = 3 := by
  show outE [v] = 3
  unfold outE
  have : htE [v] = 3 := Ieee.Format.htE_far (by unfold allFin; simp [hf]) (by cases hh : allHt [v]; rfl; exact absurd (Ieee.Format.allHt_iff.1 hh v (by simp)) h)
  rw [this]; rfl
theorem bilC_ok {v : Nat} (h : Ht v) : bilC (some v) = 0 := by
  show outE [v] = 0
  unfold outE
  rw [Ieee.Format.htE_of_ht (Ieee.Format.allHt_iff.2 (by simpa using h))]; rfl

set_option maxRecDepth 100000 in
theorem Bilinear_any (X Y : Int) (Wn Hn : Nat) (b o c : Nat) (l : List Nat) (x y : Nat) (w : World) (hl : SRow w (some ⟨b, o, none⟩) l) (hr : Right X Y Wn Hn l) (lx : x < 4294967296) (ly : y < 4294967296) :
    Calls Try.prog 50 #[fldV X Y Wn Hn (some ⟨b, o, none⟩) l.length c, .float .f32 x, .float .f32 y] w fun e w' => e = .returned (.tuple #[.float .f32 (bilVal (bilCode x y (betR X Y Wn Hn l x y)) (betR X Y Wn Hn l x y)), .int .i64 (bilCode x y (betR X Y Wn Hn l x y))]) ∧ Below w.heap.size w w' := by
  have K := Lib.hid (fun w h => check_field X Y Wn Hn (some ⟨b, o, none⟩) c l w h)
  rw [hr.chk] at K
  have HL := Lib.hid hl
  have KH := Lib.hid (fun W g h h' => finites_two W g x y lx ly h h')
  by_cases h : finE [x, y] = 0
  · obtain ⟨hx, hy⟩ := finE_two h
    have hc : bilCode x y (betR X Y Wn Hn l x y) = bilC (betR X Y Wn Hn l x y) := by unfold bilCode; rw [if_neg (by omega)]
    rw [hc]
    rw [h] at KH
    have KB := Lib.hid (fun w hl => Between_any X Y Wn Hn b o c l x y w hl hr hx hy lx ly)
    have hbd : ∀ v, betR X Y Wn Hn l x y = some v → fin Ieee.single v := fun v hv => (bilV_bd hr.bd' (frac_bd hx lx).1 (frac_bd hy ly).1 hv).1
    clear hc h hl hr lx ly hx hy
    generalize betR X Y Wn Hn l x y = R at *
    cases R with
    | none =>
      have e1 : bilC none = 5 := rfl
      have e2 : bilVal 5 none = 0 := rfl
      rw [e1, e2]
      simp only [Option.getD_none, Option.isSome_none] at KB
      clear e1 e2 hbd
      go_enter Try.func50, Try.ntmps50
      go_wp2_with fail
      generalize hW0 : w.alloc (.cells #[.int .i64 X, .int .i64 Y, .int .i64 Wn, .int .i64 Hn, .slice (some ⟨b, o, none⟩) l.length c] 36) = W0 at *
      have E0 : Fld W0 w.heap.size X Y Wn Hn (.slice (some ⟨b, o, none⟩) l.length c) := by subst hW0; exact Fld.new _ _ _ _ _ _
      have B0 : Below w.heap.size w W0 := by subst hW0; exact (by repeat (first | with_reducible exact Below.refl _ _ | with_reducible apply Below.drew | with_reducible refine below_drewN ?_ _ | (with_reducible refine Below.setCell ?_ ?_ _; rotate_left; focus (first | omega | (simp <;> omega))) | (with_reducible refine Below.alloc ?_ ?_ _; rotate_left; focus (first | omega | (simp <;> omega)))))
      clear hW0
      refine (K.out _ (HL.out.below B0)).mono ?_
      rintro e w1 ⟨rfl, b1⟩
      have E1 := E0.below b1 E0.lt
      have HL1 := Lib.hid ((HL.out.below B0).below b1)
      have B1 := Lib.hid (B0.trans (b1.mono B0.size))
      clear b1 B0 E0 K HL
      have l1 := E1.lt
      have HE1 := Lib.hid E1
      clear E1
      go_wp2_with fail
      refine (KH.out _ _ (by simp [go_sem]) (by simp [go_sem])).mono ?_
      rintro e w2 ⟨rfl, rfl⟩
      have HE2 := Lib.hid (HE1.out.alloc (.cells #[.float .f32 x, .float .f32 y] 37))
      have b2 : Below w1.heap.size w1 (w1.alloc (.cells #[.float .f32 x, .float .f32 y] 37)) := (by repeat (first | with_reducible exact Below.refl _ _ | with_reducible apply Below.drew | with_reducible refine below_drewN ?_ _ | (with_reducible refine Below.setCell ?_ ?_ _; rotate_left; focus (first | omega | (simp <;> omega))) | (with_reducible refine Below.alloc ?_ ?_ _; rotate_left; focus (first | omega | (simp <;> omega)))))
      have HL2 := Lib.hid (HL1.out.below b2)
      have B2 := Lib.hid (B1.out.trans (b2.mono B1.out.size))
      obtain ⟨c0, c1, c2, c3, c4⟩ := HE2.out.cells
      clear b2 HE1 HL1 B1
      go_wp2_with fail
      refine (KB.out _ HL2.out).mono ?_
      rintro e w3 ⟨rfl, b3⟩
      have HB3 := Lib.hid (B2.out.trans (b3.mono B2.out.size))
      clear b3
      go_wp2_with fail
      go_ret2
      exact ⟨rfl, HB3.out⟩
    | some v =>
      have hfv := hbd v rfl
      simp only [Option.getD_some, Option.isSome_some] at KB
      by_cases hv : Ht v
      · have e2 : bilVal 0 (some v) = v := rfl
        rw [bilC_ok hv, e2]
        have KV := Lib.hid (fun w => value_any v w hv)
        clear hbd hfv hv e2
        go_enter Try.func50, Try.ntmps50
        go_wp2_with fail
        generalize hW0 : w.alloc (.cells #[.int .i64 X, .int .i64 Y, .int .i64 Wn, .int .i64 Hn, .slice (some ⟨b, o, none⟩) l.length c] 36) = W0 at *
        have E0 : Fld W0 w.heap.size X Y Wn Hn (.slice (some ⟨b, o, none⟩) l.length c) := by subst hW0; exact Fld.new _ _ _ _ _ _
        have B0 : Below w.heap.size w W0 := by subst hW0; exact (by repeat (first | with_reducible exact Below.refl _ _ | with_reducible apply Below.drew | with_reducible refine below_drewN ?_ _ | (with_reducible refine Below.setCell ?_ ?_ _; rotate_left; focus (first | omega | (simp <;> omega))) | (with_reducible refine Below.alloc ?_ ?_ _; rotate_left; focus (first | omega | (simp <;> omega)))))
        clear hW0
        refine (K.out _ (HL.out.below B0)).mono ?_
        rintro e w1 ⟨rfl, b1⟩
        have E1 := E0.below b1 E0.lt
        have HL1 := Lib.hid ((HL.out.below B0).below b1)
        have B1 := Lib.hid (B0.trans (b1.mono B0.size))
        clear b1 B0 E0 K HL
        have l1 := E1.lt
        have HE1 := Lib.hid E1
        clear E1
        go_wp2_with fail
        refine (KH.out _ _ (by simp [go_sem]) (by simp [go_sem])).mono ?_
        rintro e w2 ⟨rfl, rfl⟩
        have HE2 := Lib.hid (HE1.out.alloc (.cells #[.float .f32 x, .float .f32 y] 37))
        have b2 : Below w1.heap.size w1 (w1.alloc (.cells #[.float .f32 x, .float .f32 y] 37)) := (by repeat (first | with_reducible exact Below.refl _ _ | with_reducible apply Below.drew | with_reducible refine below_drewN ?_ _ | (with_reducible refine Below.setCell ?_ ?_ _; rotate_left; focus (first | omega | (simp <;> omega))) | (with_reducible refine Below.alloc ?_ ?_ _; rotate_left; focus (first | omega | (simp <;> omega)))))
        have HL2 := Lib.hid (HL1.out.below b2)
        have B2 := Lib.hid (B1.out.trans (b2.mono B1.out.size))
        obtain ⟨c0, c1, c2, c3, c4⟩ := HE2.out.cells
        clear b2 HE1 HL1 B1
        go_wp2_with fail
        refine (KB.out _ HL2.out).mono ?_
        rintro e w3 ⟨rfl, b3⟩
        have HB3 := Lib.hid (B2.out.trans (b3.mono B2.out.size))
        clear b3
        go_wp2_with fail
        refine (KV.out _).mono ?_
        rintro e w4 ⟨rfl, rfl⟩
        go_wp2_with fail
        go_ret2
        exact ⟨rfl, HB3.out⟩
      · have e2 : bilVal 3 (some v) = 0 := rfl
        rw [bilC_ne hv hfv, e2]
        have KV := Lib.hid (fun w => value_no v w hv)
        clear hbd hfv hv e2
        go_enter Try.func50, Try.ntmps50
        go_wp2_with fail
        generalize hW0 : w.alloc (.cells #[.int .i64 X, .int .i64 Y, .int .i64 Wn, .int .i64 Hn, .slice (some ⟨b, o, none⟩) l.length c] 36) = W0 at *
        have E0 : Fld W0 w.heap.size X Y Wn Hn (.slice (some ⟨b, o, none⟩) l.length c) := by subst hW0; exact Fld.new _ _ _ _ _ _
        have B0 : Below w.heap.size w W0 := by subst hW0; exact (by repeat (first | with_reducible exact Below.refl _ _ | with_reducible apply Below.drew | with_reducible refine below_drewN ?_ _ | (with_reducible refine Below.setCell ?_ ?_ _; rotate_left; focus (first | omega | (simp <;> omega))) | (with_reducible refine Below.alloc ?_ ?_ _; rotate_left; focus (first | omega | (simp <;> omega)))))
        clear hW0
        refine (K.out _ (HL.out.below B0)).mono ?_
        rintro e w1 ⟨rfl, b1⟩
        have E1 := E0.below b1 E0.lt
        have HL1 := Lib.hid ((HL.out.below B0).below b1)
        have B1 := Lib.hid (B0.trans (b1.mono B0.size))
        clear b1 B0 E0 K HL
        have l1 := E1.lt
        have HE1 := Lib.hid E1
        clear E1
        go_wp2_with fail
        refine (KH.out _ _ (by simp [go_sem]) (by simp [go_sem])).mono ?_
        rintro e w2 ⟨rfl, rfl⟩
        have HE2 := Lib.hid (HE1.out.alloc (.cells #[.float .f32 x, .float .f32 y] 37))
        have b2 : Below w1.heap.size w1 (w1.alloc (.cells #[.float .f32 x, .float .f32 y] 37)) := (by repeat (first | with_reducible exact Below.refl _ _ | with_reducible apply Below.drew | with_reducible refine below_drewN ?_ _ | (with_reducible refine Below.setCell ?_ ?_ _; rotate_left; focus (first | omega | (simp <;> omega))) | (with_reducible refine Below.alloc ?_ ?_ _; rotate_left; focus (first | omega | (simp <;> omega)))))
        have HL2 := Lib.hid (HL1.out.below b2)
        have B2 := Lib.hid (B1.out.trans (b2.mono B1.out.size))
        obtain ⟨c0, c1, c2, c3, c4⟩ := HE2.out.cells
        clear b2 HE1 HL1 B1
        go_wp2_with fail
        refine (KB.out _ HL2.out).mono ?_
        rintro e w3 ⟨rfl, b3⟩
        have HB3 := Lib.hid (B2.out.trans (b3.mono B2.out.size))
        clear b3
        go_wp2_with fail
        refine (KV.out _).mono ?_
        rintro e w4 ⟨rfl, rfl⟩
        go_wp2_with fail
        go_ret2
        exact ⟨rfl, HB3.out⟩
  · have hc : bilCode x y (betR X Y Wn Hn l x y) = 2 := by unfold bilCode; rw [if_pos h]; exact (finE_two_bad h).1
    have hv : bilVal 2 (betR X Y Wn Hn l x y) = 0 := rfl
    rw [hc, hv]
    rw [(finE_two_bad h).1] at KH
    clear hc hv h hl hr lx ly
    go_enter Try.func50, Try.ntmps50
    go_wp2_with fail
    generalize hW0 : w.alloc (.cells #[.int .i64 X, .int .i64 Y, .int .i64 Wn, .int .i64 Hn, .slice (some ⟨b, o, none⟩) l.length c] 36) = W0 at *
    have E0 : Fld W0 w.heap.size X Y Wn Hn (.slice (some ⟨b, o, none⟩) l.length c) := by subst hW0; exact Fld.new _ _ _ _ _ _
    have B0 : Below w.heap.size w W0 := by subst hW0; exact (by repeat (first | with_reducible exact Below.refl _ _ | with_reducible apply Below.drew | with_reducible refine below_drewN ?_ _ | (with_reducible refine Below.setCell ?_ ?_ _; rotate_left; focus (first | omega | (simp <;> omega))) | (with_reducible refine Below.alloc ?_ ?_ _; rotate_left; focus (first | omega | (simp <;> omega)))))
    clear hW0
    refine (K.out _ (HL.out.below B0)).mono ?_
    rintro e w1 ⟨rfl, b1⟩
    have E1 := E0.below b1 E0.lt
    have HL1 := Lib.hid ((HL.out.below B0).below b1)
    have B1 := Lib.hid (B0.trans (b1.mono B0.size))
    clear b1 B0 E0 K HL
    have l1 := E1.lt
    have HE1 := Lib.hid E1
    clear E1
    go_wp2_with fail
    refine (KH.out _ _ (by simp [go_sem]) (by simp [go_sem])).mono ?_
    rintro e w2 ⟨rfl, rfl⟩
    have HE2 := Lib.hid (HE1.out.alloc (.cells #[.float .f32 x, .float .f32 y] 37))
    have b2 : Below w1.heap.size w1 (w1.alloc (.cells #[.float .f32 x, .float .f32 y] 37)) := (by repeat (first | with_reducible exact Below.refl _ _ | with_reducible apply Below.drew | with_reducible refine below_drewN ?_ _ | (with_reducible refine Below.setCell ?_ ?_ _; rotate_left; focus (first | omega | (simp <;> omega))) | (with_reducible refine Below.alloc ?_ ?_ _; rotate_left; focus (first | omega | (simp <;> omega)))))
    have HL2 := Lib.hid (HL1.out.below b2)
    have B2 := Lib.hid (B1.out.trans (b2.mono B1.out.size))
    obtain ⟨c0, c1, c2, c3, c4⟩ := HE2.out.cells
    clear b2 HE1 HL1 B1
    go_wp2_with fail
    go_ret2
    exact ⟨rfl, B2.out⟩
end Go.Proofs.Ytnfebeebjelgbaa
