import Derived.Test.YtnfebeebjelgbaaRepeatFn
namespace Go.Proofs.Ytnfebeebjelgbaa
open Go.ChangeShapes Go.WideShapes Go.ChangeAt Go.RowKit
open Ieee.Format (fin finE htE allFin allHt all_true all_false mulF subF addF Ht Bd divF rootF floorF easeF mixF)
set_option linter.unusedVariables false

theorem repL_ltB {l : List Nat} {c : Nat} (h : ∀ x ∈ l, x < 4294967296) : ∀ x ∈ repL l c, x < 4294967296 := by
  intro x hx
  unfold repL at hx
  obtain ⟨i, _, rfl⟩ := List.mem_map.1 hx
  rcases Nat.lt_or_ge (i % l.length) l.length with hlt | hge
  · rw [List.getD_eq_getElem?_getD, List.getElem?_eq_getElem hlt]; exact h _ (List.getElem_mem hlt)
  · rw [List.getD_eq_getElem?_getD, List.getElem?_eq_none hge]; show (0 : Nat) < 4294967296; decide
theorem rep_rowB {w : World} {kz nn : Nat} {L : List Nat} (h : Blk w kz (fls L).toArray 37) (hL : ∀ x ∈ L, x < 4294967296) (hn : nn ≤ L.length) (hs : nn ≤ 1000) : SRow w (some ⟨kz, 0, none⟩) (L.take nn) := by
  refine ⟨⟨by rw [List.length_take]; omega, fun x hx => hL x (List.mem_of_mem_take hx)⟩, .inr ⟨kz, 0, rfl, ?_⟩⟩
  intro i hi
  rw [List.length_take] at hi
  rw [Nat.zero_add, h.cell i]
  have hi2 : i < L.length := by omega
  simp [fls, List.getD_eq_getElem?_getD, List.getElem?_take, List.getElem?_eq_getElem hi2, show i < nn from by omega]
/-- a list laid again and again, cut to a field's length, makes a right field -/
theorem rep_right {X Y X' Y' : Int} {Wn Hn Wn' Hn' : Nat} {l l' : List Nat} (hr : Right X Y Wn Hn l) (hr' : Right X' Y' Wn' Hn' l') (c : Nat) (hc : l.length ≤ l'.length * c) : Right X Y Wn Hn ((repL l' c).take l.length) := by
  refine ⟨hr.w1, hr.w2, hr.h1, hr.h2, hr.wh, hr.x1, hr.x2, hr.y1, hr.y2, ?_, fun x hx => ?_⟩
  · rw [List.length_take, repL_len, Nat.min_eq_left hc]; exact hr.len
  · have hx := List.mem_of_mem_take hx
    unfold repL at hx
    obtain ⟨i, _, rfl⟩ := List.mem_map.1 hx
    exact hr'.getD _
end Go.Proofs.Ytnfebeebjelgbaa
