import Derived.Test.YtkmcinibaffpmaaFloatM
namespace Ieee
namespace Format
open Go

/-- the other sign -/
def negF (x : Nat) : Nat := x ^^^ 2147483648
theorem negF_parts {x : Nat} (h : x < 4294967296) : single.rung (negF x) = single.rung x ∧ single.sgn (negF x) = !single.sgn x ∧ negF x < 4294967296 := by
  have a1 : negF x % 2147483648 = x % 2147483648 := by
    have := Nat.xor_mod_two_pow (a := x) (b := 2147483648) (n := 31)
    rw [show (2 ^ 31 : Nat) = 2147483648 from rfl, Nat.mod_self, Nat.xor_zero] at this
    exact this
  have a2 : negF x / 2147483648 = x / 2147483648 ^^^ 1 := by
    have := Nat.xor_div_two_pow (a := x) (b := 2147483648) (n := 31)
    rw [show (2 ^ 31 : Nat) = 2147483648 from rfl, show (2147483648 / 2147483648 : Nat) = 1 from rfl] at this
    exact this
  have hq : x / 2147483648 = 0 ∨ x / 2147483648 = 1 := by omega
  refine ⟨?_, ?_, ?_⟩
  · rw [rung_lit, rung_lit, a1]
  · rw [sgn_lit, sgn_lit, a2]
    rcases hq with h | h <;> rw [h] <;> rfl
  · rcases hq with h | h <;> rw [h] at a2
    · have : negF x / 2147483648 = 1 := a2
      omega
    · have : negF x / 2147483648 = 0 := a2
      omega
theorem negF_V {x : Nat} (h : x < 4294967296) : single.V (negF x) = -single.V x := by
  obtain ⟨a, b, _⟩ := negF_parts h
  unfold V
  rw [a, b, sg_not]; grind
theorem negF_fin {x : Nat} (h : x < 4294967296) (hx : single.fin x) : single.fin (negF x) := by
  unfold fin at *; rw [(negF_parts h).1]; exact hx
theorem Bd.neg {k x : Nat} (h : Bd k x) (hl : x < 4294967296) : Bd k (negF x) := by
  refine ⟨negF_fin hl h.1, ?_⟩
  rw [negF_V hl]
  have := h.2
  constructor <;> grind

/-- half a difference -/
def gradF (a b : Nat) : Nat := mulF (subF a b) 1056964608
theorem half_bd : -P2 (-((1 : Nat) : Int)) ≤ single.V 1056964608 ∧ single.V 1056964608 ≤ P2 (-((1 : Nat) : Int)) := by
  rw [const_2nd.2.1]
  have := P2_pos (-1)
  constructor <;> simp only [Int.cast_ofNat_Int] <;> grind
theorem grad_bd {k a b : Nat} (ha : Bd k a) (hb : Bd k b) (hk : k ≤ 80) : Bd (k + 1) (subF a b) ∧ Bd k (gradF a b) := by
  have a1 := ha.sub hb (by omega)
  exact ⟨a1, Bd.less (j := 1) a1 const_2nd.1 half_bd (by omega)⟩
theorem gradF_lt (a b : Nat) : gradF a b < 4294967296 := mulF_lt _ _

theorem mul_nonneg {x y : Nat} (hx : single.fin x) (hy : single.fin y) (hf : single.fin (mulF x y)) (h : 0 ≤ single.V x * single.V y) : 0 ≤ single.V (mulF x y) := (mulF_spec hx hy).2.nonneg hf h
theorem add_nonneg {x y : Nat} (hx : single.fin x) (hy : single.fin y) (hf : single.fin (addF x y)) (h : 0 ≤ single.V x + single.V y) : 0 ≤ single.V (addF x y) := (addF_spec hx hy).2.nonneg hf h
theorem sub_nonneg {x y : Nat} (hx : single.fin x) (hy : single.fin y) (hf : single.fin (subF x y)) (h : 0 ≤ single.V x - single.V y) : 0 ≤ single.V (subF x y) := (subF_spec hx hy).2.nonneg hf h
theorem sq_nonneg (a : Rat) : 0 ≤ a * a := by
  rcases le_or_le 0 a with h | h
  · exact Rat.mul_nonneg h h
  · have := Rat.mul_nonneg (show 0 ≤ -a by grind) (show 0 ≤ -a by grind)
    grind

/-- the sum of two squares -/
def hypF (x y : Nat) : Nat := addF (mulF x x) (mulF y y)
theorem hyp_bd {k x y : Nat} (hx : Bd k x) (hy : Bd k y) (hk : k ≤ 40) : Bd (k + k) (mulF x x) ∧ Bd (k + k) (mulF y y) ∧ Bd (k + k + 1) (hypF x y) ∧ 0 ≤ single.V (hypF x y) := by
  have a := hx.mul hx (by omega)
  have b := hy.mul hy (by omega)
  have c := a.add b (by omega)
  refine ⟨a, b, c, add_nonneg a.1 b.1 c.1 ?_⟩
  have := mul_nonneg hx.1 hx.1 a.1 (sq_nonneg _)
  have := mul_nonneg hy.1 hy.1 b.1 (sq_nonneg _)
  grind
theorem root_bd {k x : Nat} (hx : Bd (k + k) x) (h0 : 0 ≤ single.V x) (hk : k ≤ 50) : Bd k (rootF x) ∧ 0 ≤ single.V (rootF x) := by
  obtain ⟨c, fc, vc, sc⟩ := const_pow k (by omega)
  obtain ⟨X, Z, a, b, d, f, n, u, l⟩ := root_spec hx.1 h0
  have := u c fc sc (by rw [vc, ← P2_add]; exact hx.2.2)
  rw [vc] at this
  have p := P2_pos k
  exact ⟨⟨f, by grind, this⟩, n⟩
theorem root_one {x : Nat} (hx : single.fin x) (h0 : 1 ≤ single.V x) : 1 ≤ single.V (rootF x) := by
  obtain ⟨X, Z, a, b, d, f, n, u, l⟩ := root_spec hx (by grind)
  have := l 1065353216 const_1.1 const_1.2.2 (by rw [const_1.2.1]; grind)
  rw [const_1.2.1] at this; exact this
theorem add_one {k x : Nat} (hx : Bd k x) (h0 : 0 ≤ single.V x) (hk : k ≤ 80) : Bd (k + 1) (addF x 1065353216) ∧ 1 ≤ single.V (addF x 1065353216) := by
  have o : Bd k 1065353216 := ⟨const_1.1, by
    rw [const_1.2.1]
    have := P2_mono (show (0 : Int) ≤ k by omega)
    rw [P2_zero] at this
    constructor <;> grind⟩
  have a := hx.add o (by omega)
  refine ⟨a, ?_⟩
  have := (addF_spec hx.1 o.1).2.ge_const (c := 1065353216) a.1 const_1.2.2 (by rw [const_1.2.1]; decide) (by rw [const_1.2.1]; grind)
  rw [const_1.2.1] at this; exact this

/-- the slope, the curve, the normal of a cell -/
def slopeF (n s e w v : Nat) : Nat := rootF (hypF (gradF e w) (gradF s n))
def lenF (n s e w : Nat) : Nat := rootF (addF (hypF (gradF e w) (gradF s n)) 1065353216)
def curve1 (n s e w : Nat) : Nat := addF (addF (addF n s) e) w
def curveF (n s e w v : Nat) : Nat := subF (mulF (curve1 n s e w) 1048576000) v
theorem quarter_bd : -P2 (-((2 : Nat) : Int)) ≤ single.V 1048576000 ∧ single.V 1048576000 ≤ P2 (-((2 : Nat) : Int)) := by
  rw [const_quarter.2.1]
  have e : P2 (-2) = 1 / 4 := by
    have a := P2_succ (-2)
    have b := P2_succ (-1)
    have c := P2_zero
    simp at a b
    grind
  rw [show (-((2 : Nat) : Int)) = -2 from rfl, e]
  constructor <;> grind
theorem curve_bd {k n s e w v : Nat} (hn : Bd k n) (hs : Bd k s) (he : Bd k e) (hw : Bd k w) (hv : Bd k v) (hk : k ≤ 80) :
    Bd (k + 1) (addF n s) ∧ Bd (k + 2) (addF (addF n s) e) ∧ Bd (k + 3) (curve1 n s e w) ∧ Bd (k + 1) (mulF (curve1 n s e w) 1048576000) ∧ Bd (k + 2) (curveF n s e w v) := by
  have a1 := hn.add hs (by omega)
  have a2 := a1.add (he.mono (show k ≤ k + 1 by omega)) (by omega)
  have a3 := a2.add (hw.mono (show k ≤ k + 2 by omega)) (by omega)
  have a4 : Bd (k + 1) (mulF (curve1 n s e w) 1048576000) := Bd.less (j := 2) a3 const_quarter.1 quarter_bd (by omega)
  exact ⟨a1, a2, a3, a4, a4.sub (hv.mono (by omega)) (by omega)⟩
theorem slope_bd {n s e w : Nat} (hn : Bd 20 n) (hs : Bd 20 s) (he : Bd 20 e) (hw : Bd 20 w) :
    Bd 41 (hypF (gradF e w) (gradF s n)) ∧ 0 ≤ single.V (hypF (gradF e w) (gradF s n)) ∧ Bd 21 (rootF (hypF (gradF e w) (gradF s n))) ∧
    Bd 42 (addF (hypF (gradF e w) (gradF s n)) 1065353216) ∧ 1 ≤ single.V (addF (hypF (gradF e w) (gradF s n)) 1065353216) ∧ Bd 21 (lenF n s e w) ∧ 1 ≤ single.V (lenF n s e w) := by
  obtain ⟨_, a⟩ := grad_bd he hw (by omega)
  obtain ⟨_, b⟩ := grad_bd hs hn (by omega)
  obtain ⟨_, _, c, d⟩ := hyp_bd a b (by omega)
  obtain ⟨f, g⟩ := add_one c d (by omega)
  exact ⟨c, d, (root_bd (k := 21) (c.mono (by omega)) d (by omega)).1, f, g, (root_bd (k := 21) f (by grind) (by omega)).1, root_one f.1 g⟩
theorem one_Bd (k : Nat) : Bd k 1065353216 := ⟨const_1.1, by
    rw [const_1.2.1]
    have := P2_mono (show (0 : Int) ≤ k by omega)
    rw [P2_zero] at this
    constructor <;> grind⟩
def nxF (n s e w : Nat) : Nat := divF (negF (gradF e w)) (lenF n s e w)
def nyF (n s e w : Nat) : Nat := divF (negF (gradF s n)) (lenF n s e w)
def nzF (n s e w : Nat) : Nat := divF 1065353216 (lenF n s e w)
theorem div_one {k x y : Nat} (hx : Bd k x) (hy : single.fin y) (h1 : 1 ≤ single.V y) (hk : k ≤ 100) : Bd k (divF x y) := by
  have := Bd.div (j := 0) hx hy (by rw [show (-((0 : Nat) : Int)) = 0 from rfl, P2_zero]; exact h1) (by omega)
  exact this
theorem normal_bd {n s e w : Nat} (hn : Bd 20 n) (hs : Bd 20 s) (he : Bd 20 e) (hw : Bd 20 w) : Bd 20 (negF (gradF e w)) ∧ Bd 20 (negF (gradF s n)) ∧ Bd 20 (nxF n s e w) ∧ Bd 20 (nyF n s e w) ∧ Bd 0 (nzF n s e w) := by
  obtain ⟨_, a⟩ := grad_bd he hw (by omega)
  obtain ⟨_, b⟩ := grad_bd hs hn (by omega)
  obtain ⟨_, _, _, _, _, h1, h2⟩ := slope_bd hn hs he hw
  exact ⟨a.neg (gradF_lt _ _), b.neg (gradF_lt _ _), div_one (a.neg (gradF_lt _ _)) h1.1 h2 (by omega), div_one (b.neg (gradF_lt _ _)) h1.1 h2 (by omega), div_one (one_Bd 0) h1.1 h2 (by omega)⟩

/-- how much light falls on a cell -/
def shade1 (a b c n s e w : Nat) : Nat := addF (addF (mulF (nxF n s e w) a) (mulF (nyF n s e w) b)) (mulF (nzF n s e w) c)
def shade2 (a b c m n s e w : Nat) : Nat := divF (shade1 a b c n s e w) m
theorem shade_bd {a b c m n s e w : Nat} (ha : Bd 10 a) (hb : Bd 10 b) (hc : Bd 10 c) (hm : single.fin m) (hm1 : 1 ≤ single.V m) (hn : Bd 20 n) (hs : Bd 20 s) (he : Bd 20 e) (hw : Bd 20 w) :
    Bd 30 (mulF (nxF n s e w) a) ∧ Bd 30 (mulF (nyF n s e w) b) ∧ Bd 31 (addF (mulF (nxF n s e w) a) (mulF (nyF n s e w) b)) ∧ Bd 10 (mulF (nzF n s e w) c) ∧ Bd 32 (shade1 a b c n s e w) ∧ Bd 32 (shade2 a b c m n s e w) := by
  obtain ⟨_, _, h1, h2, h3⟩ := normal_bd hn hs he hw
  have x := h1.mul ha (by omega)
  have y := h2.mul hb (by omega)
  have z := h3.mul hc (by omega)
  have xy := x.add y (by omega)
  have xyz := xy.add (z.mono (show 0 + 10 ≤ 30 + 1 by omega)) (by omega)
  exact ⟨x, y, xy, z, xyz, div_one xyz hm hm1 (by omega)⟩
end Format
end Ieee
