import Derived.Test.YtgeeaegnohdejaaSmoothFn
import Derived.Test.YtgeeaegnohdejaaSmaller
import Derived.Deep.RegionHeld3
namespace Go.Proofs.Ytgeeaegnohdejaa
open Go.Shelf
open Go.ChangeShapes Go.WideShapes Go.ChangeAt Go.RowKit
set_option linter.unusedVariables false

set_option maxRecDepth 100000 in
theorem stepfn_any (fn : Nat) (caps : Array Value) (φ : Nat → Nat → Nat → Nat → Nat → Nat) (X Y : Int) (Wn Hn : Nat) (x y : Int) (b o c k p q : Nat) (l : List Nat) (w : World) (hl : SRow w (some ⟨b, o, none⟩) l) (hw : 1 ≤ Wn) (hw2 : Wn ≤ 512) (hx0 : -8388608 ≤ X) (hx1 : X ≤ 8388608) (hy0 : -8388608 ≤ Y) (hy1 : Y ≤ 8388608) (hx : X ≤ x) (hx' : x < X + 512) (hy : Y ≤ y) (hy' : y < Y + 512)
    (hk : cellNo X Y Wn x y = (k : Int)) (k1 : Wn ≤ k) (k2 : k + Wn < l.length)
    (eg : ∀ args w, (callFunc fn args).run Try.prog w = .ok (.enter fn args) w)
    (hq : Fld w q X Y Wn Hn (.slice (some ⟨b, o, none⟩) l.length c)) (hp : w.cell? ⟨p, 0, none⟩ = some (.func (.func fn) #[] caps)) (pl : p < w.heap.size)
    (hf : ∀ W', Below w.heap.size w W' → Calls Try.prog fn (#[.agg #[.float .f32 (l.getD (k - Wn) 0), .float .f32 (l.getD (k + Wn) 0), .float .f32 (l.getD (k + 1) 0), .float .f32 (l.getD (k - 1) 0), .float .f32 (l.getD k 0)]] ++ caps) W' fun e w' => e = .returned (.float .f32 (nbr φ l Wn k)) ∧ Below W'.heap.size W' w') :
    Calls Try.prog 154 #[.int .i64 x, .int .i64 y, .pointer (some ⟨p, 0, none⟩), .pointer (some ⟨q, 0, none⟩)] w fun e w' => e = .returned (.float .f32 (nbr φ l Wn k)) ∧ Below w.heap.size w w' := by
  have K1 := Lib.hid (fun w' hl => around_any X Y Wn Hn x y b o c k l w' hl hw hw2 hx0 hx1 hy0 hy1 hx hx' hy hy' hk k1 k2)
  have HF := Lib.hid hf
  have HL := Lib.hid hl
  have ql := hq.lt
  obtain ⟨c0, c1, c2, c3, c4⟩ := hq.cells
  clear hf hl hq hk hx hx' hy hy' k1 k2
  generalize nbr φ l Wn k = z at *
  generalize l.getD k 0 = v at *
  generalize l.getD (k - Wn) 0 = n at *
  generalize l.getD (k + Wn) 0 = s at *
  generalize l.getD (k + 1) 0 = e at *
  generalize l.getD (k - 1) 0 = wv at *
  go_enter Try.func154, Try.ntmps154
  go_wp2_with fail
  go_region_held3 (fun w' => w'.cell? ⟨q, 0, none⟩ = some (.int .i64 X) ∧ w'.cell? ⟨q, 1, none⟩ = some (.int .i64 Y) ∧ w'.cell? ⟨q, 2, none⟩ = some (.int .i64 Wn) ∧ w'.cell? ⟨q, 3, none⟩ = some (.int .i64 Hn) ∧ w'.cell? ⟨q, 4, none⟩ = some (.slice (some ⟨b, o, none⟩) l.length c) ∧ w'.cell? ⟨p, 0, none⟩ = some (.func (.func fn) #[] caps) ∧ Below w.heap.size w w')
    (first
      | exact ⟨c0, c1, c2, c3, c4, hp, (Below.refl _ _).drew⟩
      | (go_split_ands
         have hs := (show Below w.heap.size w _ by assumption).size
         refine ⟨?_, ?_, ?_, ?_, ?_, ?_, ?_⟩
         all_goals first
           | (rw [hb.cell (by simp; omega)]; assumption)
           | exact Below.trans (by assumption) (hb.mono (by omega)))
      | (go_split_ands; refine ⟨?_, ?_, ?_, ?_, ?_, ?_, ?_⟩ <;> assumption))
    (first
      | (go_at_call 155; go_split_ands; refine (K1.out _ (HL.out.below (by assumption))).mono ?_; rintro e2 w2 ⟨rfl, hb⟩)
      | (go_at_fn fn; go_split_ands; refine (HF.out _ (by assumption)).mono ?_; rintro e2 w2 ⟨rfl, hb⟩))
  rename_i hHeld
  obtain ⟨_, _, _, _, _, _, hB⟩ := hHeld
  go_wp2_with fail
  go_ret
  exact ⟨rfl, hB⟩
end Go.Proofs.Ytgeeaegnohdejaa
