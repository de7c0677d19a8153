import Derived.Test.YtfmbekdfigbfiaaDoorDigA
import Derived.Laws.BytesArg
import Derived.Deep.DeepCutAuto
import Derived.Deep.WholeRow
namespace Go.Proofs.YtfmbekdfigbfiaaDoor
open Go.ChangeShapes Go.WideShapes Go.ChangeAt Go.RowKit
/-- the digits -/
def digs : ByteArray := ⟨#[48, 49, 50, 51, 52, 53, 54, 55, 56, 57, 97, 98, 99, 100, 101, 102, 103, 104, 105, 106, 107, 108, 109, 110, 111, 112, 113, 114, 115, 116, 117, 118, 119, 120, 121, 122]⟩
def hexD (n : Nat) : UInt8 := if h : n < digs.size then digs[n] else 0
theorem hexD_eq (n : Nat) (h : n < digs.size) : digs[n] = hexD n := by unfold hexD; rw [dif_pos h]
def hexL : Nat → Nat → List UInt8
  | 0, h => [hexD (h % 16)]
  | f + 1, h => if h < 16 then [hexD h] else hexL f (h / 16) ++ [hexD (h % 16)]
theorem hexL_len (f h : Nat) : 1 ≤ (hexL f h).length ∧ (hexL f h).length ≤ f + 1 := by
  induction f generalizing h with
  | zero => simp [hexL]
  | succ f ih =>
    unfold hexL
    split
    · simp
    · have := ih (h / 16)
      rw [List.length_append]; simp; omega
/-- the buffer behind j rounds -/
structure Buf (w w' : World) (k j : Nat) (T : List UInt8) : Prop where
  all : ∀ i, i < 65 → ∃ v, w'.cell? ⟨k, i, none⟩ = some v
  fr : ∀ i, w'.frozen? ⟨k, i, none⟩ = false
  len : T.length = j
  tail : ∀ t (h : t < T.length), w'.cell? ⟨k, 65 - j + t, none⟩ = some (.int .u8 (T[t].toNat : Int))
  lt : k < w'.heap.size
  b : Below k w w'
theorem Buf.store {w w' : World} {k j : Nat} {T : List UInt8} (h : Buf w w' k j T) (hj : j < 65) (d : UInt8) : Buf w (w'.setCell ⟨k, 64 - j, none⟩ (.int .u8 (d.toNat : Int))) k (j + 1) (d :: T) := by
  have hl := h.len
  obtain ⟨v0, hv0⟩ := h.all (64 - j) (by omega)
  refine ⟨fun i hi => ?_, fun i => ?_, by simp [h.len], fun t ht => ?_, ?_, ?_⟩
  · by_cases e : i = 64 - j
    · subst e
      exact ⟨_, World.cell?_setCell_same' _ _ _ (by rw [hv0]; rfl)⟩
    · obtain ⟨v, hv⟩ := h.all i hi
      have e2 : (⟨k, 64 - j, none⟩ : Addr) ≠ ⟨k, i, none⟩ := by intro hh; have := congrArg Addr.off hh; simp at this; omega
      exact ⟨v, (World.cell?_setCell_other _ _ _ _ e2).trans hv⟩
  · rw [World.frozen?_setCell]; exact h.fr i
  · cases t with
    | zero =>
      rw [show 65 - (j + 1) + 0 = 64 - j by omega]
      exact World.cell?_setCell_same' _ _ _ (by rw [hv0]; rfl)
    | succ t =>
      simp only [List.length_cons] at ht
      rw [show 65 - (j + 1) + (t + 1) = 65 - j + t by omega]
      have e2 : (⟨k, 64 - j, none⟩ : Addr) ≠ ⟨k, 65 - j + t, none⟩ := by intro hh; have := congrArg Addr.off hh; simp at this; omega
      exact (World.cell?_setCell_other _ _ _ _ e2).trans (h.tail t (by omega))
  · have := h.lt; simpa using this
  · exact h.b.setCell (Nat.le_refl _) _
def z65 : Array Value := Array.replicate 65 (.int .u8 0)
theorem info65 : (Tryd.prog.info? 57).map (fun i => (i.zero, i.size)) = some (some (.agg z65), 65) := by kernel_rfl
set_option maxRecDepth 100000 in
theorem format_bits (h : Nat) (hh : h < 18446744073709551616) (w : World) (hc : w.cell? ⟨3, 15, none⟩ = some (.int .u8 4)) (h3 : 3 < w.heap.size) :
    Calls Tryd.prog 19 #[.slice none 0 0, .int .u64 (h : Int), .int .i64 16, .bool false, .bool false] w fun e w' => e = .returned (.tuple #[.slice none 0 0, .string ⟨(hexL 15 h).toArray⟩]) ∧ Below w.heap.size w w' := by
  have KT := Lib.hid (fun w hc => tzs16 w hc)
  have KP := Lib.hid (fun w => pow16 w)
  have HC := Lib.hid hc
  have v57 := (zero_of_info info65).1
  have hz : ¬ z65 = #[] := by decide
  have B0 : Buf w (w.alloc (.cells z65 57)) w.heap.size 0 [] := by
    refine ⟨fun i hi => ⟨.int .u8 0, ?_⟩, fun i => ?_, rfl, fun t ht => absurd ht (by simp), by simp, (Below.refl _ _).alloc (Nat.le_refl _) _⟩
    · rw [World.cell?_alloc_new]
      have hz65 : z65.size = 65 := by decide
      rw [Array.getElem?_eq_getElem (by omega)]
      unfold z65
      rw [Array.getElem_replicate]
    · simp only [World.frozen?, heap_alloc_new]
      simp
  have HB0 := Lib.hid B0
  have b0 : Below w.heap.size w (w.alloc (.cells z65 57)) := (Below.refl _ _).alloc (Nat.le_refl _) _
  have hc1 : (w.alloc (.cells z65 57)).cell? ⟨3, 15, none⟩ = some (.int .u8 4) := (b0.cell h3).trans hc
  have HC1 := Lib.hid hc1
  clear B0 b0 hc hc1
  generalize z65 = zs at *
  go_enter Tryd.func19, Tryd.ntmps19
  go_upto_region 7 with fail
  generalize w.alloc (.cells zs 57) = W0 at *
  go_wp2_with (first | (go_at_call 28; refine (KP.out _).mono ?_; rintro e w' ⟨rfl, hw⟩; rw [hw]; clear hw) | (go_at_call 29; refine (KT.out _ HC1.out).mono ?_; rintro e w' ⟨rfl, hw⟩; rw [hw]; clear hw))
  generalize hk : w.heap.size = k at *
  clear KT KP HC1 HC v57 hz
  go_loopw [1, 13] (fun uv iv wr => ∃ (j m : Nat) (T : List UInt8), m + j = 64 ∧ j ≤ 15 ∧ uv = .int .u64 ((h / 16 ^ j : Nat) : Int) ∧ iv = .int .i64 ((m : Int) + 1) ∧ Buf w wr k j T ∧ hexL 15 h = hexL (15 - j) (h / 16 ^ j) ++ T) (fun uv _ _ => (intOf uv).toNat)
  case atStart => exact ⟨0, 64, [], by omega, by omega, by simp, by go_num, HB0.out, by simp⟩
  case round =>
    obtain ⟨j, m, T, hm, hj, rfl, rfl, hB, hT⟩ := hrel
    have hp : h / 16 ^ (j + 1) = h / 16 ^ j / 16 := by rw [Nat.pow_succ, Nat.div_div_eq_div_mul]
    have hu : h / 16 ^ j < 18446744073709551616 := Nat.lt_of_le_of_lt (Nat.div_le_self _ _) hh
    have h15 : j = 15 → h / 16 ^ j < 16 := fun e => by subst e; exact Nat.div_lt_of_lt_mul (by simpa using hh)
    generalize h / 16 ^ j = u at *
    have HB := Lib.hid hB
    have HT := Lib.hid hT
    have HP := Lib.hid hp
    by_cases hlt : 16 ≤ u
    · have hj14 : j ≤ 14 := by
        rcases Nat.lt_or_ge j 15 with h | h
        · omega
        · exact absurd (h15 (by omega)) (by omega)
      have ka : bits BinOp.and IntKind.u64 (u : Int) 15 = ((u % 16 : Nat) : Int) := by
        have := bits_and_u64_nat u 15 hu (by omega)
        rw [show ((15 : Nat) : Int) = 15 from rfl] at this
        rw [this]
        congr 1
        exact Nat.and_two_pow_sub_one_eq_mod u 4
      obtain ⟨v0, c0⟩ := hB.all m (by omega)
      have f0 := hB.fr m
      have l0 := hB.lt
      have hlt' : (16 : Int) ≤ (u : Int) := by omega
      clear hB hT hp h15
      go_wp2_with (simp only [ka])
      go_roundw
      case rel =>
        obtain ⟨m', rfl⟩ : ∃ m', m = m' + 1 := ⟨m - 1, by omega⟩
        have hst := HB.out.store (by omega) (hexD (u % 16))
        rw [show 64 - j = m' + 1 by omega] at hst
        refine ⟨j + 1, m', hexD (u % 16) :: T, by omega, by omega, by rw [HP.out]; rfl, by go_num, ?_, ?_⟩
        · rw [← hexD_eq (u % 16) (by show u % 16 < 36; omega)] at hst
          rw [← hexD_eq (u % 16) (by show u % 16 < 36; omega)]
          exact hst
        · rw [HT.out, HP.out, show 15 - j = (15 - (j + 1)) + 1 by omega]
          show (if u < 16 then _ else _) ++ T = _
          rw [if_neg (by omega), List.append_assoc]
          rfl
      case measure => simp [intOf]; omega
    · have hlt' : ¬ (16 : Int) ≤ (u : Int) := by omega
      obtain ⟨v0, c0⟩ := hB.all m (by omega)
      have f0 := hB.fr m
      have l0 := hB.lt
      have hst := HB.out.store (by omega) (hexD u)
      rw [show 64 - j = m by omega] at hst
      have hfin : hexL 15 h = hexD u :: T := by
        rw [hT]
        have : hexL (15 - j) u = [hexD u] := by
          cases 15 - j with
          | zero => show [hexD (u % 16)] = _; rw [Nat.mod_eq_of_lt (by omega)]
          | succ f => show (if u < 16 then _ else _) = _; rw [if_pos (by omega)]
        rw [this]; rfl
      rw [← hexD_eq u (by show u < 36; omega)] at hst
      have HST := Lib.hid hst
      have al : (m : Int) ≤ Tryd.prog.arrayLen 57 := by rw [show Tryd.prog.arrayLen 57 = 65 by kernel_rfl]; omega
      have al2 : Tryd.prog.arrayLen 57 = 65 := by kernel_rfl
      have HFI := Lib.hid hfin
      clear hB hT hp h15 hst hfin
      have ksl : ∀ w, (Instr.sliceAt 57 (.pointer (some ⟨k, 0, none⟩)) (some (.int .i64 (m : Int))) none none).run Tryd.prog w = .ok (.slice (some ⟨k, m, none⟩) (j + 1) (j + 1)) w := fun w => by
        rw [run_sliceAt_array_l w 57 ⟨k, 0, none⟩ (by rw [Tryd.underlying57]; kernel_rfl) .i64 (m : Int) (by omega) al]
        rw [al2, show Tryd.prog.elem 57 = 5 by kernel_rfl, Tryd.sizeOf5]
        simp only [Result.andThen, slicedAt, Int.toNat_natCast]
        rw [if_neg (by omega), show 65 - m = j + 1 by omega]
        simp [Addr.add]; omega
      clear al al2
      have hud : u < digs.size := by show u < 36; omega
      obtain ⟨W9, hw9⟩ : ∃ W9, W9 = wr.setCell ⟨k, m, none⟩ (.int .u8 (digs[u].toNat : Int)) := ⟨_, rfl⟩
      rw [← hw9] at HST
      have kcv : (convert 32 9 (.slice (some ⟨k, m, none⟩) (j + 1) (j + 1))).run Tryd.prog W9 = .ok (.string ⟨(digs[u] :: T).toArray⟩) W9 := by
        have hl := HST.out.len
        rw [run_convert_bytes_arg (P := Tryd.prog) _ 32 5 Tryd.underlying32 Tryd.underlying5 k m (j + 1) (j + 1) ((digs[u] :: T).map fun b => (b.toNat : Int)) (by rw [List.length_map]; exact hl) (fun i hi => by
          have := HST.out.tail i (by omega)
          rw [show 65 - (j + 1) + i = m + i by omega] at this
          rw [this, List.getD_eq_getElem?_getD, List.getElem?_map, List.getElem?_eq_getElem (by omega)]
          rfl) 9 Tryd.underlying9]
        unfold strOfNums
        rw [List.map_map]
        congr 4
        conv => rhs; rw [← List.map_id (digs[u] :: T)]
        apply List.map_congr_left
        intro x _
        simp
      have hfi2 : hexL 15 h = digs[u] :: T := HFI.out.trans (by rw [hexD_eq u (by show u < 36; omega)])
      rw [← hfi2] at kcv
      have HB9 := Lib.hid HST.out.b
      clear hfi2 HFI
      obtain ⟨RES, hR⟩ : ∃ R, R = hexL 15 h := ⟨_, rfl⟩
      rw [← hR] at kcv
      have HR := Lib.hid hR
      clear hR
      obtain ⟨S, hS⟩ : ∃ S : ByteArray, S = ⟨RES.toArray⟩ := ⟨_, rfl⟩
      rw [← hS] at kcv
      have HSS := Lib.hid hS
      clear hS
      have HW9 := Lib.hid hw9
      clear hw9
      go_upto_region 30 with fail
      refine Eq.mp (congrArg (Code.wp _ _ _ _) HW9.out) ?_
      go_wp2_with fail
      go_ret2
      exact ⟨by rw [HSS.out, HR.out]; rfl, by rw [hk]; exact HB9.out⟩
end Go.Proofs.YtfmbekdfigbfiaaDoor
