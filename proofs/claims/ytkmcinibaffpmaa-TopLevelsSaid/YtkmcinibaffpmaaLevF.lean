import Derived.Test.YtkmcinibaffpmaaRefBil
import Derived.Test.YtkmcinibaffpmaaFloatD
namespace Go.Proofs.Ytkmcinibaffpmaa
open Go.ChangeShapes Go.WideShapes Go.ChangeAt Go.RowKit
open Ieee.Format (fin finE htE allFin allHt all_true all_false mulF subF addF Ht Bd divF rootF floorF easeF mixF)
set_option linter.unusedVariables false
open Ieee.Format (downF down_bd)

/-! ### levels of detail, in plain Lean -/
structure Lv where
  X : Int
  Y : Int
  W : Nat
  H : Nat
  l : List Nat
def Lv.ok (v : Lv) : Prop := Right v.X v.Y v.W v.H v.l
def Lv.ev (v : Lv) : Prop := v.X % 2 = 0 ∧ v.Y % 2 = 0 ∧ v.W % 2 = 0 ∧ v.H % 2 = 0
def dnK (v : Lv) (x y : Int) : Nat := ((2 * y - v.Y) * (v.W : Int) + 2 * x - v.X).toNat
def dnV (v : Lv) (x y : Int) : Nat := downF (v.l.getD (dnK v x y) 0) (v.l.getD (dnK v x y + 1) 0) (v.l.getD (dnK v x y + v.W) 0) (v.l.getD (dnK v x y + v.W + 1) 0)
def nx (v : Lv) : Lv := ⟨v.X / 2, v.Y / 2, v.W / 2, v.H / 2, madeL (dnV v) (v.X / 2) (v.Y / 2) (v.W / 2) (v.H / 2 * (v.W / 2))⟩
def lv (v : Lv) : Nat → Lv
  | 0 => v
  | k + 1 => nx (lv v k)
/-- all values are at most m in magnitude -/
def Lv.le (v : Lv) (m : Nat) : Prop := ∀ x ∈ v.l, fin Ieee.single x ∧ Ieee.single.V x ≤ Ieee.single.V m ∧ -Ieee.single.V m ≤ Ieee.single.V x
theorem dnK_in {v : Lv} (h : v.ok) (e : v.ev) {x y : Int} (hx : v.X / 2 ≤ x) (hx2 : x < v.X / 2 + (v.W / 2 : Nat)) (hy : v.Y / 2 ≤ y) (hy2 : y < v.Y / 2 + (v.H / 2 : Nat)) :
    (2 * y - v.Y) * (v.W : Int) + 2 * x - v.X = (dnK v x y : Int) ∧ dnK v x y + v.W + 1 < v.l.length ∧ 0 ≤ (2 * y - v.Y) * (v.W : Int) ∧ (2 * y - v.Y) * (v.W : Int) ≤ 65536 := by
  obtain ⟨e1, e2, e3, e4⟩ := e
  have l := h.len
  have wh := h.wh
  obtain ⟨j, hj⟩ : ∃ j : Nat, 2 * y - v.Y = (j : Int) := ⟨(2 * y - v.Y).toNat, by omega⟩
  have j2 : j + 2 ≤ v.H := by omega
  have m1 : (j + 2) * v.W ≤ v.H * v.W := Nat.mul_le_mul_right _ j2
  rw [Nat.add_mul] at m1
  have m2 : v.H * v.W = v.W * v.H := Nat.mul_comm _ _
  have c : (j : Int) * (v.W : Int) = ((j * v.W : Nat) : Int) := (Int.natCast_mul _ _).symm
  unfold dnK
  rw [hj, c, l]
  generalize j * v.W = z at *
  generalize v.H * v.W = z2 at *
  omega
theorem nx_le {v : Lv} {m : Nat} (h : v.ok) (e : v.ev) (hm : v.le m) (fm : fin Ieee.single m) (sm : Ieee.single.sgn m = false) (bm : Ieee.single.V m ≤ Ieee.P2 99) {x y : Int} (hx : v.X / 2 ≤ x) (hx2 : x < v.X / 2 + (v.W / 2 : Nat)) (hy : v.Y / 2 ≤ y) (hy2 : y < v.Y / 2 + (v.H / 2 : Nat)) :
    fin Ieee.single (dnV v x y) ∧ Ieee.single.V (dnV v x y) ≤ Ieee.single.V m ∧ -Ieee.single.V m ≤ Ieee.single.V (dnV v x y) := by
  obtain ⟨_, k1, _, _⟩ := dnK_in h e hx hx2 hy hy2
  have g : ∀ j, j < v.l.length → fin Ieee.single (v.l.getD j 0) ∧ Ieee.single.V (v.l.getD j 0) ≤ Ieee.single.V m ∧ -Ieee.single.V m ≤ Ieee.single.V (v.l.getD j 0) := fun j hj => by
    rw [List.getD_eq_getElem?_getD, List.getElem?_eq_getElem hj]
    exact hm _ (List.getElem_mem hj)
  have g0 := g (dnK v x y) (by omega)
  have g1 := g (dnK v x y + 1) (by omega)
  have g2 := g (dnK v x y + v.W) (by omega)
  have g3 := g (dnK v x y + v.W + 1) (by omega)
  have := down_bd g0.1 g1.1 g2.1 g3.1 fm sm bm g0.2.1 g0.2.2 g1.2.1 g1.2.2 g2.2.1 g2.2.2 g3.2.1 g3.2.2
  exact this.2.2.2
theorem nx_ok {v : Lv} {m : Nat} (h : v.ok) (e : v.ev) (hm : v.le m) (fm : fin Ieee.single m) (sm : Ieee.single.sgn m = false) (bm : Ieee.single.V m ≤ Ieee.P2 20) : (nx v).ok ∧ (nx v).le m := by
  have p99 := Ieee.P2_lt (show (20 : Int) < 99 by omega)
  have hall : (nx v).le m := by
    intro z hz
    unfold nx madeL at hz
    obtain ⟨k, hk, rfl⟩ := List.mem_map.1 hz
    have hk := List.mem_range.1 hk
    obtain ⟨e1, e2, e3, e4⟩ := e
    have w1 := h.w1
    have h1 := h.h1
    have hw : 0 < v.W / 2 := by omega
    have a1 := Nat.mod_lt k hw
    have a2 : k / (v.W / 2) < v.H / 2 := (Nat.div_lt_iff_lt_mul hw).2 hk
    generalize k / (v.W / 2) = b at *
    generalize k % (v.W / 2) = a at *
    exact nx_le h ⟨e1, e2, e3, e4⟩ hm fm sm (by grind) (by omega) (by omega) (by omega) (by omega)
  refine ⟨?_, hall⟩
  obtain ⟨e1, e2, e3, e4⟩ := e
  have w1 := h.w1; have w2 := h.w2; have h1 := h.h1; have h2 := h.h2; have x1 := h.x1; have x2 := h.x2; have y1 := h.y1; have y2 := h.y2; have wh := h.wh
  have wh2 : v.W / 2 * (v.H / 2) ≤ v.W * v.H := Nat.mul_le_mul (by omega) (by omega)
  refine ⟨by show 1 ≤ v.W / 2; omega, by show v.W / 2 ≤ 512; omega, by show 1 ≤ v.H / 2; omega, by show v.H / 2 ≤ 512; omega, by show v.W / 2 * (v.H / 2) ≤ 65536; omega, by show -4194304 ≤ v.X / 2; omega, by show v.X / 2 ≤ 4194304 - ((v.W / 2 : Nat) : Int); omega, by show -4194304 ≤ v.Y / 2; omega, by show v.Y / 2 ≤ 4194304 - ((v.H / 2 : Nat) : Int); omega, ?_, ?_⟩
  · show (madeL (dnV v) (v.X / 2) (v.Y / 2) (v.W / 2) (v.H / 2 * (v.W / 2))).length = v.H / 2 * (v.W / 2)
    exact madeL_len _ _ _ _ _
  · intro z hz
    obtain ⟨_, b, c⟩ := hall z hz
    exact Ieee.Format.Ht.of ⟨by grind, by grind⟩
/-- a level of a field whose levels ahead of it are even -/
theorem lv_ok {v : Lv} {m : Nat} (h : v.ok) (hm : v.le m) (fm : fin Ieee.single m) (sm : Ieee.single.sgn m = false) (bm : Ieee.single.V m ≤ Ieee.P2 20) : ∀ k, (∀ j, j < k → (lv v j).ev) →
    (lv v k).ok ∧ (lv v k).le m ∧ v.X = (lv v k).X * 2 ^ k ∧ v.Y = (lv v k).Y * 2 ^ k ∧ v.W = (lv v k).W * 2 ^ k ∧ v.H = (lv v k).H * 2 ^ k
  | 0, _ => ⟨h, hm, by simp [lv], by simp [lv], by simp [lv], by simp [lv]⟩
  | k + 1, he => by
    obtain ⟨a, b, c1, c2, c3, c4⟩ := lv_ok h hm fm sm bm k (fun j hj => he j (by omega))
    have e := he k (by omega)
    obtain ⟨x, y⟩ := nx_ok a e b fm sm bm
    obtain ⟨e1, e2, e3, e4⟩ := e
    refine ⟨x, y, ?_, ?_, ?_, ?_⟩
    · show v.X = (lv v k).X / 2 * 2 ^ (k + 1)
      rw [Int.pow_succ, Int.mul_comm (2 ^ k) 2, ← Int.mul_assoc, Int.ediv_mul_cancel (Int.dvd_of_emod_eq_zero e1)]; exact c1
    · show v.Y = (lv v k).Y / 2 * 2 ^ (k + 1)
      rw [Int.pow_succ, Int.mul_comm (2 ^ k) 2, ← Int.mul_assoc, Int.ediv_mul_cancel (Int.dvd_of_emod_eq_zero e2)]; exact c2
    · show v.W = (lv v k).W / 2 * 2 ^ (k + 1)
      rw [Nat.pow_succ, Nat.mul_comm (2 ^ k) 2, ← Nat.mul_assoc, Nat.div_mul_cancel (Nat.dvd_of_mod_eq_zero e3)]; exact c3
    · show v.H = (lv v k).H / 2 * 2 ^ (k + 1)
      rw [Nat.pow_succ, Nat.mul_comm (2 ^ k) 2, ← Nat.mul_assoc, Nat.div_mul_cancel (Nat.dvd_of_mod_eq_zero e4)]; exact c4
end Go.Proofs.Ytkmcinibaffpmaa
