import Derived.Test.YtfmbekdfigbfiaaDoorRows
import Derived.WalkKit
import Derived.ProofKit
import Derived.OpenShut
import Derived.WalkLawsBesides
import Derived.WalkSpells
import Derived.Lib.Hide
import Derived.Laws.Bits64b
namespace Go.Proofs.YtfmbekdfigbfiaaDoor
open Go.ChangeShapes Go.WideShapes Go.ChangeAt Go.RowKit
set_option maxRecDepth 100000 in
theorem repeat_0 (w : World) :
    Calls Tryd.prog 7 #[.string ⟨#[48]⟩, .int .i64 0] w fun e w' => e = .returned (.string ⟨(List.replicate 0 48).toArray⟩) ∧ w' = w := by
  go_enter Tryd.func7, Tryd.ntmps7
  go_wp2
  go_ret
  exact ⟨rfl, rfl⟩
set_option maxRecDepth 100000 in
theorem repeat_1 (w : World) :
    Calls Tryd.prog 7 #[.string ⟨#[48]⟩, .int .i64 1] w fun e w' => e = .returned (.string ⟨(List.replicate 1 48).toArray⟩) ∧ w' = w := by
  go_enter Tryd.func7, Tryd.ntmps7
  go_wp2
  go_ret
  exact ⟨rfl, rfl⟩
set_option maxRecDepth 100000 in
theorem mul_one (n : Nat) (hn : n ≤ 15) (w : World) :
    Calls Tryd.prog 21 #[.int .u64 1, .int .u64 (n : Int)] w fun e w' => e = .returned (.tuple #[.int .u64 0, .int .u64 (n : Int)]) ∧ w' = w := by
  obtain ⟨m, rfl⟩ : ∃ m : Fin 16, n = m.1 := ⟨⟨n, by omega⟩, rfl⟩
  have k1 : bits BinOp.and IntKind.u64 ((m.1 : Nat) : Int) 4294967295 = ((m.1 : Nat) : Int) := by
    revert m; decide
  have k2 : ((m.1 : Nat) : Int) / 4294967296 = 0 := by omega
  have k3 : bits BinOp.and IntKind.u64 1 4294967295 = 1 := by decide
  have k4 : IntKind.u64.wrap ((m.1 : Nat) : Int) = ((m.1 : Nat) : Int) := by simp [IntKind.wrap, IntKind.signed, IntKind.bits]; omega
  have k5 : bits BinOp.and IntKind.u64 0 4294967295 = 0 := by decide
  go_enter Tryd.func21, Tryd.ntmps21
  go_wp2_with (simp only [k1, k2, k3, k4, k5])
  go_ret2
  exact ⟨rfl, rfl⟩


def zz : ByteArray := ⟨#[48, 48, 48, 48, 48, 48, 48, 48, 48, 48, 48, 48, 48, 48, 48, 48, 48, 48, 48, 48, 48, 48, 48, 48, 48, 48, 48, 48, 48, 48, 48, 48, 48, 48, 48, 48, 48, 48, 48, 48, 48, 48, 48, 48, 48, 48, 48, 48, 48, 48, 48, 48, 48, 48, 48, 48, 48, 48, 48, 48, 48, 48, 48, 48]⟩
def zs : ByteArray := ⟨#[32, 32, 32, 32, 32, 32, 32, 32, 32, 32, 32, 32, 32, 32, 32, 32, 32, 32, 32, 32, 32, 32, 32, 32, 32, 32, 32, 32, 32, 32, 32, 32, 32, 32, 32, 32, 32, 32, 32, 32, 32, 32, 32, 32, 32, 32, 32, 32, 32, 32, 32, 32, 32, 32, 32, 32, 32, 32, 32, 32, 32, 32, 32, 32, 32, 32, 32, 32, 32, 32, 32, 32, 32, 32, 32, 32, 32, 32, 32, 32, 32, 32, 32, 32, 32, 32, 32, 32, 32, 32, 32, 32, 32, 32, 32, 32, 32, 32, 32, 32, 32, 32, 32, 32, 32, 32, 32, 32, 32, 32, 32, 32, 32, 32, 32, 32, 32, 32, 32, 32, 32, 32, 32, 32, 32, 32, 32, 32]⟩
def zd : ByteArray := ⟨#[45, 45, 45, 45, 45, 45, 45, 45, 45, 45, 45, 45, 45, 45, 45, 45, 45, 45, 45, 45, 45, 45, 45, 45, 45, 45, 45, 45, 45, 45, 45, 45, 45, 45, 45, 45, 45, 45, 45, 45, 45, 45, 45, 45, 45, 45, 45, 45, 45, 45, 45, 45, 45, 45, 45, 45, 45, 45, 45, 45, 45, 45, 45, 45, 45, 45, 45, 45, 45, 45, 45, 45, 45, 45, 45, 45, 45, 45, 45, 45, 45, 45, 45, 45, 45, 45, 45, 45, 45, 45, 45, 45, 45, 45, 45, 45, 45, 45, 45, 45, 45, 45, 45, 45, 45, 45, 45, 45, 45, 45, 45, 45, 45, 45, 45, 45, 45, 45, 45, 45, 45, 45, 45, 45, 45, 45, 45, 45]⟩
theorem zz_ext (n : Nat) (hn : n ≤ 15) : zz.extract 0 n = ⟨(List.replicate n 48).toArray⟩ := by
  apply ByteArray.ext
  rw [ByteArray.data_extract]
  apply Array.toList_inj.1
  rw [Array.toList_extract, List.extract_eq_take_drop]
  show (List.replicate 64 (48 : UInt8)).take n = List.replicate n 48
  rw [List.take_replicate]
  congr 1
  omega
theorem head_is (s : ByteArray) (b : Bool) (h : ((s.data.toList.drop 0).take 1 == [48]) = b) : ((s.extract 0 1).toList == [48]) = b := by
  rw [ByteArray.toList_eq, ByteArray.data_extract, Array.toList_extract, List.extract_eq_take_drop]
  exact h
set_option maxRecDepth 100000 in
theorem prefix_is (s : ByteArray) (b : Bool) (h : 1 ≤ s.size) (hq : ((s.extract 0 1).toList == [48]) = b) (w : World) : Calls Tryd.prog 11 #[.string s, .string ⟨#[48]⟩] w fun e w' => e = .returned (.bool b) ∧ w' = w := by
  have h1 : (1 : Int) ≤ (s.size : Int) := by omega
  go_enter Tryd.func11, Tryd.ntmps11
  go_wp2
  go_ret
  exact ⟨rfl, rfl⟩
set_option maxRecDepth 100000 in
theorem repeat_n (n : Nat) (h2 : 2 ≤ n) (hn : n ≤ 15) (w : World) :
    Calls Tryd.prog 7 #[.string ⟨#[48]⟩, .int .i64 (n : Int)] w fun e w' => e = .returned (.string ⟨(List.replicate n 48).toArray⟩) ∧ w' = w := by
  have KM := Lib.hid (fun w => mul_one n hn w)
  have KP := Lib.hid (fun w => prefix_is zz true (by decide) (head_is zz true (by decide)) w)
  have KS := Lib.hid (fun w => prefix_is zs false (by decide) (head_is zs false (by decide)) w)
  have KD := Lib.hid (fun w => prefix_is zd false (by decide) (head_is zd false (by decide)) w)
  have k4 : IntKind.u64.wrap (n : Int) = (n : Int) := by simp [IntKind.wrap, IntKind.signed, IntKind.bits]; omega
  have hz := Lib.hid (zz_ext n hn)
  unfold zz at KP hz
  unfold zs at KS
  unfold zd at KD
  go_enter Tryd.func7, Tryd.ntmps7
  go_wp2_with (first | (go_at_call 21; refine (KM.out _).mono ?_; rintro e w' ⟨rfl, hw⟩; rw [hw]; clear hw) | (go_at_call 11; with_reducible refine (KP.out _).mono ?_; rintro e w' ⟨rfl, hw⟩; rw [hw]; clear hw) | (go_at_call 11; with_reducible refine (KS.out _).mono ?_; rintro e w' ⟨rfl, hw⟩; rw [hw]; clear hw) | (go_at_call 11; with_reducible refine (KD.out _).mono ?_; rintro e w' ⟨rfl, hw⟩; rw [hw]; clear hw) | (go_at_call 10; go_in))
  go_ret
  exact ⟨congrArg (fun x => Ending.returned (.string x)) hz.out, rfl⟩
theorem repeat_any (n : Nat) (hn : n ≤ 15) (w : World) :
    Calls Tryd.prog 7 #[.string ⟨#[48]⟩, .int .i64 (n : Int)] w fun e w' => e = .returned (.string ⟨(List.replicate n 48).toArray⟩) ∧ w' = w := by
  by_cases h0 : n = 0
  · subst h0; exact repeat_0 w
  · by_cases h1 : n = 1
    · subst h1; exact repeat_1 w
    · exact repeat_n n (by omega) hn w
set_option maxRecDepth 100000 in
theorem tz16 (w : World) (hc : w.cell? ⟨3, 15, none⟩ = some (.int .u8 4)) :
    Calls Tryd.prog 33 #[.int .u64 16] w fun e w' => e = .returned (.int .i64 4) ∧ w' = w := by
  have key : IntKind.u64.wrap (bits BinOp.and IntKind.u64 16 (IntKind.u64.wrap (-16)) * 285870213051353865) / 288230376151711744 = 15 := by decide
  go_enter Tryd.func33, Tryd.ntmps33
  go_wp2_with (simp only [key])
  go_ret
  exact ⟨rfl, rfl⟩
set_option maxRecDepth 100000 in
theorem tzs16 (w : World) (hc : w.cell? ⟨3, 15, none⟩ = some (.int .u8 4)) :
    Calls Tryd.prog 29 #[.int .u64 16] w fun e w' => e = .returned (.int .i64 4) ∧ w' = w := by
  have K := Lib.hid (tz16 w hc)
  clear hc
  go_enter Tryd.func29, Tryd.ntmps29
  go_wp2_with (go_at_call 33; refine K.out.mono ?_; rintro e w' ⟨rfl, hw⟩; rw [hw]; clear hw)
  go_ret
  exact ⟨rfl, rfl⟩
theorem pow16 (w : World) :
    Calls Tryd.prog 28 #[.int .i64 16] w fun e w' => e = .returned (.bool true) ∧ w' = w := by
  have key : bits BinOp.and IntKind.i64 16 15 = 0 := by decide
  go_enter Tryd.func28, Tryd.ntmps28
  go_wp2_with (simp only [key])
  go_ret
  exact ⟨rfl, rfl⟩
end Go.Proofs.YtfmbekdfigbfiaaDoor
