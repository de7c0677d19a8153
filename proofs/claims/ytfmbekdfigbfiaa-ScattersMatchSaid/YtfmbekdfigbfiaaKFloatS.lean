import Derived.Test.YtfmbekdfigbfiaaJO
namespace Ieee
namespace Format
open Go

/-- the form of a root in double -/
theorem sqrt_at {X : Nat} (hX : double.fin X) (h0 : 0 < double.V X) (hb : double.V X ≤ P2 128) :
    ∃ (Z n : Nat) (h : Int) (q : Nat), double.sqrt X = some Z ∧ double.fin Z ∧ 324518553658426726783156020576256 ≤ n ∧ n < 1298074214633706907132624082305024 ∧ double.V X = (n : Rat) * (P2 h * P2 h) ∧ q * q ≤ n ∧ n < (q + 1) * (q + 1) ∧
      double.Rounds (((2 * q + (q * q != n).toNat : Nat) : Rat) * P2 (h - 1)) false Z := by
  obtain ⟨Z0, e0, f0, _⟩ := sqrt_spec hX (Rat.le_of_lt h0) hb
  have hml := double.rmag_lt (double.rung X)
  have hV := double.V_read X
  have e1 := e0
  unfold sqrt at e0
  rw [double.read_fin hX] at e0
  generalize double.rmag (double.rung X) = m at *
  generalize double.rplace (double.rung X) = i at *
  generalize double.sgn X = s at *
  have hm : m ≠ 0 := by rintro rfl; rw [hV] at h0; simp at h0
  have hm0 : (0 : Rat) < (m : Rat) := by exact_mod_cast (show 0 < m by omega)
  have hmp : 0 < (m : Rat) * P2 i := Rat.mul_pos hm0 (P2_pos i)
  have hs : s = false := by
    cases s
    · rfl
    · exfalso; rw [hV] at h0; simp [sg] at h0; grind
  subst hs
  have hVm : double.V X = (m : Rat) * P2 i := by rw [hV]; simp [sg]
  unfold Datum.root at e0
  simp only [if_neg hm, Bool.false_eq_true, if_false, Option.map_some] at e0
  obtain ⟨more, hmore⟩ : ∃ more, more = 2 * (double.fractionBits + 2) - m.log2 + ((i - ((2 * (double.fractionBits + 2) - m.log2 : Nat) : Int)) % 2).toNat := ⟨_, rfl⟩
  rw [← hmore] at e0
  have hfb : double.fractionBits = 52 := rfl
  rw [hfb] at hmore
  have hlm : m.log2 ≤ 52 := by
    have : m.log2 < 53 := (Nat.log2_lt hm).2 (by rw [binade_two] at hml; exact hml)
    omega
  have hmore2 : 108 ≤ m.log2 + more := by omega
  have hmore3 : m.log2 + more ≤ 109 := by omega
  have heven : (i - more) % 2 = 0 := by omega
  obtain ⟨h, hh⟩ : ∃ h, h = (i - more) / 2 := ⟨_, rfl⟩
  have hi : i = h + h + more := by omega
  rw [← hh] at e0
  have big : 324518553658426726783156020576256 ≤ m <<< more := by
    rw [Nat.shiftLeft_eq]
    have g2 : 2 ^ m.log2 ≤ m := Nat.log2_self_le hm
    calc 324518553658426726783156020576256 = 2 ^ 108 := by decide
      _ ≤ 2 ^ (m.log2 + more) := Nat.pow_le_pow_right (by omega) hmore2
      _ = 2 ^ m.log2 * 2 ^ more := Nat.pow_add ..
      _ ≤ m * 2 ^ more := Nat.mul_le_mul_right _ g2
  have small : m <<< more < 1298074214633706907132624082305024 := by
    rw [Nat.shiftLeft_eq]
    have g2 : m < 2 ^ (m.log2 + 1) := Nat.lt_log2_self
    calc m * 2 ^ more < 2 ^ (m.log2 + 1) * 2 ^ more := Nat.mul_lt_mul_of_pos_right g2 (Nat.two_pow_pos _)
      _ = 2 ^ (m.log2 + 1 + more) := (Nat.pow_add ..).symm
      _ ≤ 2 ^ 110 := Nat.pow_le_pow_right (by omega) (by omega)
      _ = 1298074214633706907132624082305024 := by decide
  have hat : double.V X = ((m <<< more : Nat) : Rat) * (P2 h * P2 h) := by
    rw [hVm, hi, P2_add, P2_add, Nat.shiftLeft_eq, Rat.natCast_mul, P2_nat]; grind
  generalize m <<< more = n at *
  obtain ⟨q1, q2⟩ := whole_root n (by omega) _ rfl
  generalize Datum.rootFrom n (n.log2 / 2 + 1) 0 = q at *
  have hr := double.write_rounds double_fb false (2 * q + (q * q != n).toNat) (h - 1) (x := ((2 * q + (q * q != n).toNat : Nat) : Rat) * P2 (h - 1)) (by simp [sg])
  injection e0 with e0
  rw [e0] at hr
  exact ⟨Z0, n, h, q, e1, f0, big, small, hat, q1, q2, hr⟩
theorem sqrt_le {n n' q q' : Nat} {h h' : Int} (b1 : 324518553658426726783156020576256 ≤ n) (b2 : n < 1298074214633706907132624082305024) (b1' : 324518553658426726783156020576256 ≤ n') (b2' : n' < 1298074214633706907132624082305024)
    (q1 : q * q ≤ n) (q2 : n < (q + 1) * (q + 1)) (q1' : q' * q' ≤ n') (q2' : n' < (q' + 1) * (q' + 1)) (hle : (n : Rat) * (P2 h * P2 h) ≤ (n' : Rat) * (P2 h' * P2 h')) :
    ((2 * q + (q * q != n).toNat : Nat) : Rat) * P2 (h - 1) ≤ ((2 * q' + (q' * q' != n').toNat : Nat) : Rat) * P2 (h' - 1) := by
  have hp := P2_pos h
  have hp' := P2_pos h'
  rcases (by omega : h = h' ∨ h < h' ∨ h' < h) with e | e | e
  · subst e
    have hn : n ≤ n' := by
      have := mul_le_cancel (Rat.mul_pos hp hp) hle
      exact_mod_cast this
    have hq : q ≤ q' := by
      apply Nat.le_of_not_lt
      intro hc
      have := Nat.mul_le_mul (show q' + 1 ≤ q from hc) (show q' + 1 ≤ q from hc)
      omega
    have hz : 2 * q + (q * q != n).toNat ≤ 2 * q' + (q' * q' != n').toNat := by
      rcases (by omega : q = q' ∨ q + 1 ≤ q') with rfl | h1
      · by_cases c : q * q = n'
        · have e : n' = n := by omega
          rw [e]; exact Nat.le_refl _
        · have : (q * q != n').toNat = 1 := by simp [c]
          have := Bool.toNat_le (q * q != n)
          omega
      · have := Bool.toNat_le (q * q != n)
        omega
    exact Rat.mul_le_mul_of_nonneg_right (by exact_mod_cast hz) (Rat.le_of_lt (P2_pos _))
  · have hq : q < 36028797018963968 := by
      apply Nat.lt_of_not_le
      intro hc
      have := Nat.mul_le_mul hc hc
      omega
    have hq' : 18014398509481983 ≤ q' := by
      apply Nat.le_of_not_lt
      intro hc
      have := Nat.mul_le_mul (show q' + 1 ≤ 18014398509481983 from hc) (show q' + 1 ≤ 18014398509481983 from hc)
      omega
    have hq'' : 18014398509481984 ≤ q' := by
      rcases (by omega : q' = 18014398509481983 ∨ 18014398509481984 ≤ q') with rfl | h1
      · omega
      · exact h1
    have t := Bool.toNat_le (q * q != n)
    have a1 : ((2 * q + (q * q != n).toNat : Nat) : Rat) ≤ ((72057594037927936 : Nat) : Rat) := by exact_mod_cast (show 2 * q + (q * q != n).toNat ≤ 72057594037927936 by omega)
    have a2 : ((36028797018963968 : Nat) : Rat) ≤ ((2 * q' + (q' * q' != n').toNat : Nat) : Rat) := by exact_mod_cast (show 36028797018963968 ≤ 2 * q' + (q' * q' != n').toNat by omega)
    have p1 := P2_mono (show h - 1 + 1 ≤ h' - 1 by omega)
    rw [P2_succ] at p1
    have g := P2_pos (h - 1)
    have g' := P2_pos (h' - 1)
    have s1 := Rat.mul_le_mul_of_nonneg_right a1 (Rat.le_of_lt g)
    have s2 := Rat.mul_le_mul_of_nonneg_right a2 (Rat.le_of_lt g')
    have s3 := Rat.mul_le_mul_of_nonneg_left p1 (show (0 : Rat) ≤ ((36028797018963968 : Nat) : Rat) from Rat.natCast_nonneg)
    have s4 : ((72057594037927936 : Nat) : Rat) = 2 * ((36028797018963968 : Nat) : Rat) := by decide +kernel
    grind
  · exfalso
    have p1 := P2_mono (show h' + 1 ≤ h by omega)
    rw [P2_succ] at p1
    have p2 := sq_le (show 0 ≤ 2 * P2 h' by grind) p1
    have a1 : ((324518553658426726783156020576256 : Nat) : Rat) ≤ (n : Rat) := by exact_mod_cast b1
    have a2 : (n' : Rat) < ((1298074214633706907132624082305024 : Nat) : Rat) := by exact_mod_cast b2'
    have hpp := Rat.mul_pos hp hp
    have hpp' := Rat.mul_pos hp' hp'
    have s1 := Rat.mul_le_mul_of_nonneg_right a1 (Rat.le_of_lt hpp)
    have s2 := Rat.mul_lt_mul_of_pos_right a2 hpp'
    have s3 := Rat.mul_le_mul_of_nonneg_left p2 (show (0 : Rat) ≤ ((324518553658426726783156020576256 : Nat) : Rat) from Rat.natCast_nonneg)
    have s4 : ((1298074214633706907132624082305024 : Nat) : Rat) = 4 * ((324518553658426726783156020576256 : Nat) : Rat) := by decide +kernel
    grind
/-- rounding keeps the order -/
theorem Rounds.mono {f : Format} {x y : Rat} {w v : Nat} (h : f.Rounds x false w) (h' : f.Rounds y false v) (fw : f.fin w) (fv : f.fin v) (hxy : x ≤ y) : f.V w ≤ f.V v := by
  obtain ⟨r, rfl, hr⟩ := h
  obtain ⟨r', rfl, hr'⟩ := h'
  have l1 := (f.fin_word_iff false r).1 fw
  have l2 := (f.fin_word_iff false r').1 fv
  rw [f.V_word l1, f.V_word l2]
  have := f.rv_mono (hr.mono hr' (by simp [sg]; exact hxy))
  simp [sg]; exact this
theorem pos_sgn {f : Format} {x : Nat} (h : 0 < f.V x) : f.sgn x = false := by
  unfold V at h
  cases e : f.sgn x
  · rfl
  · rw [e] at h
    have := f.rv_nonneg (f.rung x)
    simp [sg] at h
    grind
theorem root_mono {x y : Nat} (hx : single.fin x) (hy : single.fin y) (h0 : 0 ≤ single.V x) (hxy : single.V x ≤ single.V y) : single.V (rootF x) ≤ single.V (rootF y) := by
  obtain ⟨X, Z, a1, a2, a3, a4, a5, a6, a7⟩ := root_spec hx h0
  obtain ⟨Y, T, b1, b2, b3, b4, b5, b6, b7⟩ := root_spec hy (by grind)
  by_cases hz : single.V x = 0
  · have := a6 0 const_0.1 const_0.2.2 (by rw [hz, const_0.2.1]; simp)
    rw [const_0.2.1] at this
    grind
  · have hm : ∀ {x}, single.fin x → single.V x ≤ P2 128 := fun {x} hx => by
      have := single.rv_mono (Nat.le_of_lt hx)
      rw [rv_inf] at this
      unfold V
      have p := single.rv_nonneg (single.rung x)
      cases single.sgn x <;> simp [sg] <;> grind
    have mx := hm hx
    have my := hm hy
    obtain ⟨X', e1, f1, g1, _⟩ := widen hx
    obtain ⟨Y', e2, f2, g2, _⟩ := widen hy
    obtain rfl : X = X' := by rw [a1] at e1; exact Option.some.inj e1
    obtain rfl : Y = Y' := by rw [b1] at e2; exact Option.some.inj e2
    obtain ⟨Z', n, h, q, c1, c2, c3, c4, c5, c6, c7, c8⟩ := sqrt_at f1 (by rw [g1]; grind) (by rw [g1]; exact mx)
    obtain ⟨T', n', h', q', d1, d2, d3, d4, d5, d6, d7, d8⟩ := sqrt_at f2 (by rw [g2]; grind) (by rw [g2]; exact my)
    obtain rfl : Z = Z' := by rw [a2] at c1; exact Option.some.inj c1
    obtain rfl : T = T' := by rw [b2] at d1; exact Option.some.inj d1
    have le1 := sqrt_le c3 c4 d3 d4 c6 c7 d6 d7 (by rw [← c5, ← d5, g1, g2]; exact hxy)
    have le2 := c8.mono d8 c2 d2 le1
    obtain ⟨Z2, z1, _, z3, z4, _⟩ := sqrt_spec f1 (by rw [g1]; exact h0) (by rw [g1]; exact mx)
    obtain ⟨T2, t1, _, t3, t4, _⟩ := sqrt_spec f2 (by rw [g2]; grind) (by rw [g2]; exact my)
    obtain rfl : Z = Z2 := by rw [a2] at z1; exact Option.some.inj z1
    obtain rfl : T = T2 := by rw [b2] at t1; exact Option.some.inj t1
    have u := P2_mono (show (64 : Int) ≤ 100 by omega)
    have u2 := P2_pos 100
    obtain ⟨w, w1, w2, w3⟩ := narrow_any c2 (by grind) (by grind)
    obtain ⟨v, v1, v2, v3⟩ := narrow_any d2 (by grind) (by grind)
    obtain rfl : w = rootF x := by rw [a3] at w1; exact (Option.some.inj w1).symm
    obtain rfl : v = rootF y := by rw [b3] at v1; exact (Option.some.inj v1).symm
    by_cases zp : 0 < double.V Z
    · rw [pos_sgn zp] at w3
      rw [pos_sgn (show 0 < double.V T by grind)] at v3
      exact w3.mono v3 w2 v2 le2
    · have z0 : double.V Z = 0 := by grind
      have := (w3.bound const_0.1 const_0.2.2 (by rw [z0, const_0.2.1]; decide) (by rw [z0, const_0.2.1]; decide)).2.1
      rw [const_0.2.1] at this
      grind
theorem conv_mono {m n : Int} (h0 : 0 ≤ m) (h : m ≤ n) (hn : n ≤ 1073741824) : single.V (floatOfInt .f32 m) ≤ single.V (floatOfInt .f32 n) := by
  have a := conv_rounds m
  have b := conv_rounds n
  rw [show decide (m < 0) = false from decide_eq_false (by omega)] at a
  rw [show decide (n < 0) = false from decide_eq_false (by omega)] at b
  exact a.mono b (conv_big (k := 30) (by omega) (by omega) (by omega)).1 (conv_big (k := 30) (by omega) (by omega) (by omega)).1 (Rat.intCast_le_intCast.2 h)
theorem div_mono {x y c : Nat} (hx : single.fin x) (hy : single.fin y) (hc : single.fin c) (c0 : 0 < single.V c) (h0 : 0 ≤ single.V x) (hxy : single.V x ≤ single.V y) (fx : single.fin (divF x c)) (fy : single.fin (divF y c)) : single.V (divF x c) ≤ single.V (divF y c) := by
  have hcne : single.V c ≠ 0 := by grind
  have a := (divF_spec hx hc hcne).2
  have b := (divF_spec hy hc hcne).2
  by_cases z : single.V x = 0
  · have e : single.V x / single.V c = 0 := by rw [z, Rat.div_def, Rat.zero_mul]
    rw [e] at a
    have := (a.bound const_0.1 const_0.2.2 (by rw [const_0.2.1]; decide) (by rw [const_0.2.1]; decide)).2.1
    rw [const_0.2.1] at this
    have := div_nonneg hy hc c0 fy (by grind)
    grind
  · rw [pos_sgn (show 0 < single.V x by grind), pos_sgn c0] at a
    rw [pos_sgn (show 0 < single.V y by grind), pos_sgn c0] at b
    refine a.mono b fx fy ?_
    rw [Rat.div_def, Rat.div_def]
    exact Rat.mul_le_mul_of_nonneg_right hxy (Rat.le_of_lt (Rat.inv_pos.2 c0))
/-- the distance of a lattice's centre, of its square: between 0 and 4 -/
def farF (d c : Int) : Nat := divF (rootF (floatOfInt .f32 d)) (floatOfInt .f32 c)
theorem sq_bd {c : Int} (h1 : 1 ≤ c) (h2 : c ≤ 4096) : 1 ≤ c * c ∧ c * c ≤ 16777216 := by
  have a := Int.mul_le_mul h2 h2 (by omega) (by omega)
  have b := Int.mul_le_mul h1 h1 (by omega) (by omega)
  omega
theorem sq_exact {k c : Int} {p q : Nat} (hp : k * k = ((2 ^ p : Nat) : Int)) (hq : q = p + 24) (hp4 : p ≤ 4) (h1 : 1 ≤ c) (h2 : c ≤ 4096) : single.V (floatOfInt .f32 ((k * c) * (k * c))) = (((k * c) * (k * c) : Int) : Rat) := by
  have e : (k * c) * (k * c) = (c * c) * ((2 ^ p : Nat) : Int) := by rw [← hp]; grind
  obtain ⟨c1, c2⟩ := sq_bd h1 h2
  have x := conv_rounds ((k * c) * (k * c))
  rw [e] at x ⊢
  have pp : (0 : Int) < ((2 ^ p : Nat) : Int) := by have := Nat.two_pow_pos p; omega
  rw [show decide ((c * c) * ((2 ^ p : Nat) : Int) < 0) = false from decide_eq_false (by have := Int.mul_nonneg (show 0 ≤ c * c by omega) (Int.le_of_lt pp); omega)] at x
  by_cases c4 : c * c = 16777216
  · rw [c4] at x ⊢
    refine (x.exact 1 q (by decide) (by decide) (by omega) (by omega) ?_).2.1
    rw [P2_nat, hq, Nat.pow_add, Rat.intCast_mul, Rat.natCast_mul, Rat.intCast_natCast]
    have : ((16777216 : Int) : Rat) = ((2 ^ 24 : Nat) : Rat) := by decide +kernel
    rw [this]
    have : ((1 : Int) : Rat) = 1 := rfl
    grind
  · refine (x.exact (c * c) p (by omega) (by omega) (by omega) (by omega) ?_).2.1
    rw [P2_nat, Rat.intCast_mul, Rat.intCast_natCast]
theorem far_ok {d c : Int} (k : Int) (hk : k = 2 ∨ k = 4) (h0 : 0 ≤ d) (h1 : 1 ≤ c) (h2 : c ≤ 4096) (hd : d ≤ (k * c) * (k * c)) :
    single.fin (floatOfInt .f32 d) ∧ 0 ≤ single.V (floatOfInt .f32 d) ∧ single.fin (rootF (floatOfInt .f32 d)) ∧ single.fin (floatOfInt .f32 c) ∧ 0 < single.V (floatOfInt .f32 c) ∧ single.fin (farF d c) ∧ 0 ≤ single.V (farF d c) ∧ single.V (farF d c) ≤ (k : Rat) := by
  obtain ⟨c1, c2⟩ := sq_bd h1 h2
  have e : (k * c) * (k * c) = (k * k) * (c * c) := by grind
  have ve : single.V (floatOfInt .f32 ((k * c) * (k * c))) = (((k * c) * (k * c) : Int) : Rat) := by
    rcases hk with rfl | rfl
    · exact sq_exact (p := 2) (q := 26) rfl rfl (by omega) h1 h2
    · exact sq_exact (p := 4) (q := 28) rfl rfl (by omega) h1 h2
  have hb : 1 ≤ k ∧ k ≤ 4 ∧ (k * c) * (k * c) ≤ 268435456 ∧ 1 ≤ k * c ∧ k * c ≤ 16384 := by
    rw [e]
    rcases hk with rfl | rfl <;> omega
  obtain ⟨k1, k4, hsq, kc1, kc2⟩ := hb
  have b := conv_big (n := d) (k := 28) (by omega) (by omega) (by omega)
  have n := conv_nonneg (n := d) (k := 28) (by omega) h0 (by omega)
  obtain ⟨fc, vc, sc⟩ := conv_24 (n := c) h1 (by omega)
  obtain ⟨fk, vk, sk⟩ := conv_24 (n := k * c) kc1 (by omega)
  obtain ⟨fK, vK, sK⟩ := conv_24 (n := k) k1 (by omega)
  obtain ⟨X, Z, _, _, _, f, g, u, _⟩ := root_spec b.1 n
  have hc0 : 0 < single.V (floatOfInt .f32 c) := by
    rw [vc]
    have : ((0 : Int) : Rat) < (c : Rat) := Rat.intCast_lt_intCast.2 (by omega)
    simpa using this
  have hm : single.V (floatOfInt .f32 d) ≤ single.V (floatOfInt .f32 (k * c)) * single.V (floatOfInt .f32 (k * c)) := by
    have m := conv_mono h0 hd (by omega)
    rw [ve] at m
    rw [vk, ← Rat.intCast_mul]
    exact m
  have le := u _ fk sk hm
  have q := div_bound f fc hc0 fK sK (by rw [vK, vc]; rw [vk, Rat.intCast_mul] at le; exact le) (by
    rw [vK, vc]
    have : (0 : Rat) ≤ (k : Rat) * (c : Rat) := by rw [← Rat.intCast_mul]; exact Rat.intCast_nonneg.2 (by omega)
    grind)
  rw [vK] at q
  exact ⟨b.1, n, f, fc, hc0, q.1, div_nonneg f fc hc0 q.1 g, q.2.1⟩
theorem far_mono {d e c : Int} (h0 : 0 ≤ d) (hde : d ≤ e) (h1 : 1 ≤ c) (h2 : c ≤ 4096) (hd : e ≤ (4 * c) * (4 * c)) : single.V (farF d c) ≤ single.V (farF e c) := by
  obtain ⟨a1, a2, a3, a4, a5, a6, a7, a8⟩ := far_ok (d := d) 4 (.inr rfl) h0 h1 h2 (by omega)
  obtain ⟨b1, b2, b3, b4, b5, b6, b7, b8⟩ := far_ok (d := e) 4 (.inr rfl) (by omega) h1 h2 hd
  obtain ⟨_, _, _, _, _, _, g, _, _⟩ := root_spec a1 a2
  obtain ⟨c1, c2⟩ := sq_bd h1 h2
  exact div_mono a3 b3 a4 a5 g (root_mono a1 b1 a2 (conv_mono h0 hde (by
    have : (4 * c) * (4 * c) = 16 * (c * c) := by grind
    omega))) a6 b6
end Format
end Ieee
