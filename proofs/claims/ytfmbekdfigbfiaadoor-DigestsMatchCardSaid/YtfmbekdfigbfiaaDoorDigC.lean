import Derived.Test.YtfmbekdfigbfiaaDoorDigB
namespace Go.Proofs.YtfmbekdfigbfiaaDoor
open Go.ChangeShapes Go.WideShapes Go.ChangeAt Go.RowKit
def hexS (h : Nat) : ByteArray := ⟨(hexL 15 h).toArray⟩
theorem hexS_size (h : Nat) : 1 ≤ (hexS h).size ∧ (hexS h).size ≤ 16 := by
  have := hexL_len 15 h
  unfold hexS ByteArray.size
  simpa using this
set_option maxRecDepth 100000 in
theorem fmt_int (h : Nat) (hh : h < 18446744073709551616) (w : World) (hc : w.cell? ⟨3, 15, none⟩ = some (.int .u8 4)) (h3 : 3 < w.heap.size) :
    Calls Tryd.prog 9 #[.int .u64 (h : Int), .int .i64 16] w fun e w' => e = .returned (.string (hexS h)) ∧ Below w.heap.size w w' := by
  have K := Lib.hid (format_bits h hh w hc h3)
  clear hc
  go_enter Tryd.func9, Tryd.ntmps9
  go_wp2_with fail
  refine K.out.mono ?_
  rintro e w1 ⟨rfl, b1⟩
  go_wp2_with fail
  go_ret
  exact ⟨rfl, b1⟩
set_option maxRecDepth 100000 in
theorem fmt_uint (h : Nat) (hh : h < 18446744073709551616) (w : World) (hc : w.cell? ⟨3, 15, none⟩ = some (.int .u8 4)) (h3 : 3 < w.heap.size) :
    Calls Tryd.prog 6 #[.int .u64 (h : Int), .int .i64 16] w fun e w' => e = .returned (.string (hexS h)) ∧ Below w.heap.size w w' := by
  have K := Lib.hid (fmt_int h hh w hc h3)
  clear hc
  go_enter Tryd.func6, Tryd.ntmps6
  go_wp2_with fail
  refine K.out.mono ?_
  rintro e w1 ⟨rfl, b1⟩
  go_wp2_with fail
  go_ret
  exact ⟨rfl, b1⟩
/-- a digest's text -/
def digT (h : Nat) : ByteArray := ⟨Array.replicate (16 - (hexS h).size) 48⟩ ++ hexS h
set_option maxRecDepth 100000 in
theorem hex_of (h : Nat) (hh : h < 18446744073709551616) (w : World) (hc : w.cell? ⟨3, 15, none⟩ = some (.int .u8 4)) (h3 : 3 < w.heap.size) :
    Calls Tryd.prog 8 #[.int .u64 (h : Int), .int .i64 16] w fun e w' => e = .returned (.string (digT h)) ∧ Below w.heap.size w w' := by
  have K := Lib.hid (fmt_uint h hh w hc h3)
  clear hc
  obtain ⟨s1, s2⟩ := hexS_size h
  have KR := Lib.hid (fun w => repeat_any (16 - (hexS h).size) (by omega) w)
  unfold digT
  obtain ⟨n, hn⟩ : ∃ n, n = 16 - (hexS h).size := ⟨_, rfl⟩
  rw [← hn] at KR ⊢
  have hs : (16 : Int) - ((hexS h).size : Int) = (n : Int) := by omega
  generalize hexS h = S at *
  clear hn
  go_enter Tryd.func8, Tryd.ntmps8
  go_wp2_with fail
  refine K.out.mono ?_
  rintro e w1 ⟨rfl, b1⟩
  go_wp2_with fail
  refine (KR.out _).mono ?_
  rintro e w2 ⟨rfl, rfl⟩
  go_wp2_with fail
  go_ret
  exact ⟨rfl, b1⟩
/-- one step of a digest -/
def digS (h b : Nat) : Nat := (h ^^^ b) * 1099511628211 % 18446744073709551616
theorem digS_lt (h b : Nat) : digS h b < 18446744073709551616 := by unfold digS; omega
def digL (l : List UInt8) (h : Nat) : Nat := l.foldl (fun h b => digS h b.toNat) h
theorem digL_lt (B : Nat) (hB : ∀ h b, digS h b < B) (l : List UInt8) (h : Nat) (hh : h < B) : digL l h < B := by
  unfold digL
  induction l generalizing h with
  | nil => exact hh
  | cons b l ih => rw [List.foldl_cons]; exact ih _ (hB _ _)
theorem digL_app (l : List UInt8) (b : UInt8) (h : Nat) : digL (l ++ [b]) h = digS (digL l h) b.toNat := by
  unfold digL
  rw [List.foldl_append, List.foldl_cons, List.foldl_nil]
def digA (l : List UInt8) (k h : Nat) : Nat := digL (l.take k) h
theorem digA_next (l : List UInt8) (k h : Nat) (hk : k < l.length) : digA l (k + 1) h = digS (digA l k h) l[k].toNat := by
  unfold digA
  rw [List.take_add_one, List.getElem?_eq_getElem hk]
  exact digL_app _ _ _
theorem digA_zero (l : List UInt8) (h : Nat) : digA l 0 h = h := by unfold digA digL; rw [List.take_zero, List.foldl_nil]
theorem digA_lt (l : List UInt8) (k h : Nat) (hh : h < 18446744073709551616) : digA l k h < 18446744073709551616 := by
  unfold digA; exact digL_lt _ digS_lt _ _ hh
def digN (s : ByteArray) (k : Nat) : Nat := digA s.data.toList k 14695981039346656037
theorem digN_lt (s : ByteArray) (k : Nat) : digN s k < 18446744073709551616 := by unfold digN; exact digA_lt _ _ _ (by omega)
theorem digN_next (s : ByteArray) (k : Nat) (hk : k < s.size) : digN s (k + 1) = digS (digN s k) s[k].toNat := by
  unfold digN
  rw [digA_next s.data.toList k _ (by rw [Array.length_toList]; exact hk)]
  rfl
theorem digN_zero (s : ByteArray) : digN s 0 = 14695981039346656037 := by unfold digN; rw [digA_zero]
theorem xor_step (h b : Nat) (hh : h < 18446744073709551616) (hb : b < 256) : IntKind.u64.wrap (bits BinOp.xor IntKind.u64 (h : Int) (b : Int) * 1099511628211) = ((digS h b : Nat) : Int) := by
  have h1 : (BitVec.ofInt 64 (h : Int)).toNat = h := by
    rw [BitVec.ofInt_natCast, BitVec.toNat_ofNat]; exact Nat.mod_eq_of_lt (by omega)
  have h2 : (BitVec.ofInt 64 (b : Int)).toNat = b := by
    rw [BitVec.ofInt_natCast, BitVec.toNat_ofNat]; exact Nat.mod_eq_of_lt (by omega)
  have hx : h ^^^ b < 2 ^ 64 := Nat.xor_lt_two_pow (by omega) (by omega)
  have e : bits BinOp.xor IntKind.u64 (h : Int) (b : Int) = ((h ^^^ b : Nat) : Int) := by
    show IntKind.u64.wrap ((BitVec.ofInt 64 (h : Int) ^^^ BitVec.ofInt 64 (b : Int)).toNat : Int) = _
    rw [BitVec.toNat_xor, h1, h2, IntKind.wrap_u64]
    omega
  rw [e, IntKind.wrap_u64]
  unfold digS
  generalize h ^^^ b = x at *
  omega
set_option maxRecDepth 100000 in
theorem digest_any (s : ByteArray) (hs : s.size ≤ 9223372036854775807) (w : World) (hc : w.cell? ⟨3, 15, none⟩ = some (.int .u8 4)) (h3 : 3 < w.heap.size) :
    Calls Tryd.prog 4 #[.string s] w fun e w' => e = .returned (.string (digT (digN s s.size))) ∧ Below w.heap.size w w' := by
  go_enter Tryd.func4, Tryd.ntmps4
  go_upto_region 3 with fail
  go_loopw [3, 4] (fun hv iv wr => ∃ k : Nat, k ≤ s.size ∧ iv = .int .i64 (k : Int) ∧ hv = .int .u64 ((digN s k : Nat) : Int) ∧ wr = w) (fun _ iv _ => s.size - (intOf iv).toNat)
  case atStart => exact ⟨0, by omega, rfl, by simp [digN_zero], rfl⟩
  case round =>
    obtain ⟨k, hk, rfl, rfl, rfl⟩ := hrel
    by_cases hlt : k < s.size
    · have hlt' : (k : Int) < (s.size : Int) := by omega
      have e1 := digN_next s k hlt
      have e2 := xor_step (digN s k) s[k].toNat (digN_lt s k) (by have := s[k].toNat_lt; omega)
      have HE := Lib.hid e1
      rw [← e1] at e2
      have hlt2 := digN_lt s (k + 1)
      clear e1
      have e3 : IntKind.u64.wrap (s[k].toNat : Int) = (s[k].toNat : Int) := by rw [IntKind.wrap_u64]; have := s[k].toNat_lt; omega
      go_wp2_with fail
      go_roundw
      case rel => exact ⟨k + 1, by omega, by go_num, rfl, trivial⟩
      case measure => simp [intOf]; omega
    · obtain rfl : k = s.size := by omega
      have K := Lib.hid (fmt_uint (digN s s.size) (digN_lt _ _) wr hc h3)
      clear hc
      obtain ⟨h, hh⟩ : ∃ h, h = digN s s.size := ⟨_, rfl⟩
      rw [← hh] at K ⊢
      obtain ⟨s1, s2⟩ := hexS_size h
      have KR := Lib.hid (fun w => repeat_any (16 - (hexS h).size) (by omega) w)
      have HT : Hid (digT (digN s s.size) = ⟨Array.replicate (16 - (hexS h).size) 48⟩ ++ hexS h) := by rw [← hh]; rfl
      clear hh
      obtain ⟨n, hn⟩ : ∃ n, n = 16 - (hexS h).size := ⟨_, rfl⟩
      rw [← hn] at KR HT
      have hsn : (16 : Int) - ((hexS h).size : Int) = (n : Int) := by omega
      generalize hexS h = S at *
      clear hn
      go_wp2_with fail
      refine K.out.mono ?_
      rintro e w1 ⟨rfl, b1⟩
      go_wp2_with fail
      refine (KR.out _).mono ?_
      rintro e w2 ⟨rfl, rfl⟩
      go_wp2_with fail
      go_ret
      exact ⟨by rw [HT.out]; rfl, b1⟩
set_option maxRecDepth 100000 in
theorem refdigest_any (s : ByteArray) (hs : s.size ≤ 9223372036854775807) (w : World) (hc : w.cell? ⟨3, 15, none⟩ = some (.int .u8 4)) (h3 : 3 < w.heap.size) :
    Calls Tryd.prog 5 #[.string s] w fun e w' => e = .returned (.string (digT (digN s s.size))) ∧ Below w.heap.size w w' := by
  go_enter Tryd.func5, Tryd.ntmps5
  go_upto_region 3 with fail
  go_loopw [3, 4, 7] (fun hv _ iv wr => ∃ k : Nat, k ≤ s.size ∧ iv = .int .i64 (k : Int) ∧ hv = .int .u64 ((digN s k : Nat) : Int) ∧ wr = w) (fun _ _ iv _ => s.size - (intOf iv).toNat)
  case atStart => exact ⟨0, by omega, rfl, by simp [digN_zero], rfl⟩
  case round =>
    obtain ⟨k, hk, rfl, rfl, rfl⟩ := hrel
    by_cases hlt : k < s.size
    · have hlt' : (k : Int) < (s.size : Int) := by omega
      have e1 := digN_next s k hlt
      have e2 := xor_step (digN s k) s[k].toNat (digN_lt s k) (by have := s[k].toNat_lt; omega)
      rw [← e1] at e2
      clear e1
      have e3 : IntKind.u64.wrap (s[k].toNat : Int) = (s[k].toNat : Int) := by rw [IntKind.wrap_u64]; have := s[k].toNat_lt; omega
      go_wp2_with fail
      go_roundw
      case rel => exact ⟨k + 1, by omega, by go_num, rfl, trivial⟩
      case measure => simp [intOf]; omega
    · obtain rfl : k = s.size := by omega
      have K := Lib.hid (hex_of (digN s s.size) (digN_lt _ _) wr hc h3)
      clear hc
      go_wp2_with fail
      refine K.out.mono ?_
      rintro e w1 ⟨rfl, b1⟩
      go_wp2_with fail
      go_ret
      exact ⟨rfl, b1⟩
set_option maxRecDepth 100000 in
theorem digests_law (s : ByteArray) (hs : s.size ≤ 9223372036854775807) (w : World) (hc : w.cell? ⟨3, 15, none⟩ = some (.int .u8 4)) (h3 : 3 < w.heap.size) :
    Calls Tryd.prog 3 #[.string s] w fun e w' => e = .returned (.bool true) ∧ Below w.heap.size w w' := by
  have K1 := Lib.hid (digest_any s hs w hc h3)
  have K2 := Lib.hid (fun W hc h3 => refdigest_any s hs W hc h3)
  have HC := Lib.hid hc
  clear hc
  generalize digT (digN s s.size) = T at *
  go_enter Tryd.func3, Tryd.ntmps3
  go_wp2_with fail
  refine K1.out.mono ?_
  rintro e w1 ⟨rfl, b1⟩
  have HB := Lib.hid b1
  clear b1
  go_wp2_with fail
  refine (K2.out w1 ((HB.out.cell h3).trans HC.out) (Nat.lt_of_lt_of_le h3 HB.out.size)).mono ?_
  rintro e w2 ⟨rfl, b2⟩
  have HB2 := Lib.hid (HB.out.trans (b2.mono HB.out.size))
  clear b2
  go_wp2_with fail
  go_ret
  exact ⟨by simp, HB2.out⟩
end Go.Proofs.YtfmbekdfigbfiaaDoor
