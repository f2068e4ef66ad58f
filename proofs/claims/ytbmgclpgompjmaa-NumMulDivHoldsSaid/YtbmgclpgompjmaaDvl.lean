/- Division of two words by one, digit by digit: the plain law. -/
import Derived.Test.YtbmgclpgompjmaaSxz
import Derived.Lib.EndianBits
import Derived.Lib.ItoaNum
set_option linter.unusedSimpArgs false
set_option linter.unusedVariables false
namespace Go.Proofs.Ytbmgclpgompjmaa.Dvl
open Go.RowKit Sx
set_option maxRecDepth 100000
/-- One digit: (U B + d) / Y for U < Y = a B + b. -/
structure Dig where
  U : Int
  d : Int
  a : Int
  b : Int
def Dig.Y (g : Dig) : Int := g.a * 4294967296 + g.b
def Dig.N (g : Dig) : Int := g.U * 4294967296 + g.d
def Dig.q (g : Dig) : Int := g.N / g.Y
def Dig.r (g : Dig) : Int := g.N % g.Y
def Dig.ok (g : Dig) : Prop := (2147483648 ≤ g.a ∧ g.a < 4294967296) ∧ (0 ≤ g.b ∧ g.b < 4294967296) ∧ (0 ≤ g.U ∧ g.U < g.Y) ∧ 0 ≤ g.d ∧ g.d < 4294967296
theorem Dig.pos {g : Dig} (h : g.ok) : 2147483648 * 4294967296 ≤ g.Y ∧ g.Y < 18446744073709551616 := by
  obtain ⟨⟨a1, a2⟩, ⟨b1, b2⟩, _⟩ := h
  unfold Dig.Y
  omega
theorem Dig.div {g : Dig} (h : g.ok) : g.N = g.q * g.Y + g.r ∧ 0 ≤ g.r ∧ g.r < g.Y := by
  have hp := Dig.pos h
  have e := Int.emod_add_mul_ediv g.N g.Y
  refine ⟨?_, Int.emod_nonneg _ (by omega), Int.emod_lt_of_pos _ (by omega)⟩
  show g.N = g.N / g.Y * g.Y + g.N % g.Y
  rw [Int.mul_comm (g.N / g.Y)]
  omega
theorem Dig.q_in {g : Dig} (h : g.ok) : 0 ≤ g.q ∧ g.q < 4294967296 := by
  have hp := Dig.pos h
  obtain ⟨_, _, ⟨u1, u2⟩, d1, d2⟩ := h
  refine ⟨Int.ediv_nonneg (by unfold Dig.N; omega) (by omega), Int.ediv_lt_of_lt_mul (by omega) ?_⟩
  unfold Dig.N
  omega
/-- The first guess. -/
theorem Dig.est {g : Dig} (h : g.ok) : g.q ≤ g.U / g.a ∧ g.U / g.a ≤ 4294967297 ∧ 0 ≤ g.U - g.U / g.a * g.a ∧ g.U - g.U / g.a * g.a < g.a := by
  have hq := Dig.q_in h
  obtain ⟨e, r1, r2⟩ := Dig.div h
  obtain ⟨⟨a1, a2⟩, ⟨b1, b2⟩, ⟨u1, u2⟩, d1, d2⟩ := h
  have m := Int.emod_add_mul_ediv g.U g.a
  have m1 := Int.emod_nonneg g.U (b := g.a) (by omega)
  have m2 := Int.emod_lt_of_pos g.U (b := g.a) (by omega)
  rw [Int.mul_comm g.a] at m
  refine ⟨Int.le_ediv_of_mul_le (by omega) ?_, ?_, by omega, by omega⟩
  · unfold Dig.N Dig.Y at e
    have e2 : g.q * (g.a * 4294967296 + g.b) = g.q * g.a * 4294967296 + g.q * g.b := by rw [Int.mul_add, Int.mul_assoc]
    have p := Int.mul_nonneg hq.1 b1
    rw [e2] at e
    omega
  · have : g.U / g.a < 4294967298 := Int.ediv_lt_of_lt_mul (by omega) (by unfold Dig.Y at u2; omega)
    omega
theorem Dig.big {g : Dig} (h : g.ok) {p : Int} (hp : 4294967296 * (g.U - p * g.a) + g.d < p * g.b) : g.q < p := by
  obtain ⟨e, r1, r2⟩ := Dig.div h
  have hY := Dig.pos h
  refine Classical.byContradiction fun hc => ?_
  have m := Int.mul_le_mul_of_nonneg_right (show p ≤ g.q by omega) (show 0 ≤ g.Y by omega)
  have e1 : g.N = g.U * 4294967296 + g.d := rfl
  have e2 : p * g.Y = p * g.a * 4294967296 + p * g.b := by unfold Dig.Y; rw [Int.mul_add, Int.mul_assoc]
  omega
theorem Dig.small {g : Dig} (h : g.ok) {p : Int} (hp : p * g.b ≤ 4294967296 * (g.U - p * g.a) + g.d) : p ≤ g.q := by
  have hY := Dig.pos h
  refine Int.le_ediv_of_mul_le (by omega) ?_
  have e2 : p * g.Y = p * g.a * 4294967296 + p * g.b := by unfold Dig.Y; rw [Int.mul_add, Int.mul_assoc]
  have e1 : g.N = g.U * 4294967296 + g.d := rfl
  omega
theorem Dig.stop {g : Dig} (h : g.ok) {p : Int} (h0 : 0 ≤ p) (h1 : p ≤ 4294967296) (hr : 4294967296 ≤ g.U - p * g.a) : p ≤ g.q := by
  refine Dig.small h ?_
  obtain ⟨_, ⟨b1, b2⟩, _, d1, d2⟩ := h
  have := Int.mul_le_mul h1 (show g.b ≤ 4294967296 by omega) b1 (by omega)
  omega
theorem Dig.prod {g : Dig} (h : g.ok) {p : Int} (h0 : 0 ≤ p) (h1 : p ≤ 4294967295) : 0 ≤ p * g.b ∧ p * g.b < 18446744073709551616 := by
  obtain ⟨_, ⟨b1, b2⟩, _⟩ := h
  have := Int.mul_le_mul h1 (show g.b ≤ 4294967296 by omega) b1 (by omega)
  exact ⟨Int.mul_nonneg h0 b1, by omega⟩
/-- The whole: M = hi 2^64 + lo by y, shifted by T = 2^s. -/
structure Dv where
  hi : Int
  lo : Int
  y : Int
def Dv.s (g : Dv) : Int := 64 - (Lib.bitLen g.y.toNat : Int)
def Dv.T (g : Dv) : Int := 2 ^ g.s.toNat
def Dv.T' (g : Dv) : Int := 2 ^ (64 - g.s).toNat
def Dv.M (g : Dv) : Int := g.hi * 18446744073709551616 + g.lo
def Dv.ok (g : Dv) : Prop := (0 ≤ g.hi ∧ g.hi < g.y) ∧ (0 ≤ g.lo ∧ g.lo < 18446744073709551616) ∧ 1 ≤ g.y ∧ g.y < 18446744073709551616
def Dv.Y (g : Dv) : Int := g.y * g.T
def Dv.U (g : Dv) : Int := g.hi * g.T + g.lo / g.T'
def Dv.L (g : Dv) : Int := g.lo * g.T % 18446744073709551616
def Dv.d1 (g : Dv) : Dig := ⟨g.U, g.L / 4294967296, g.Y / 4294967296, g.Y % 4294967296⟩
def Dv.d2 (g : Dv) : Dig := ⟨g.d1.r, g.L % 4294967296, g.Y / 4294967296, g.Y % 4294967296⟩
theorem Dv.shift {g : Dv} (h : g.ok) : (0 ≤ g.s ∧ g.s ≤ 63) ∧ (1 ≤ g.T ∧ 1 ≤ g.T') ∧ g.T * g.T' = 18446744073709551616 ∧ 9223372036854775808 ≤ g.Y ∧ g.Y < 18446744073709551616 := by
  obtain ⟨_, _, y1, y2⟩ := h
  have hb := Go.Lib.bitLenAux_bounds 64 g.y.toNat (by omega) (by omega)
  have hL : Lib.bitLen g.y.toNat ≤ 64 := Lib.bitLen_le g.y.toNat 64 (by omega) (by omega)
  have hb' : 1 ≤ Lib.bitLen g.y.toNat ∧ 2 ^ (Lib.bitLen g.y.toNat - 1) ≤ g.y.toNat ∧ g.y.toNat < 2 ^ Lib.bitLen g.y.toNat := hb
  unfold Dv.Y Dv.T Dv.T' Dv.s
  obtain ⟨y, hy⟩ : ∃ y : Nat, g.y = y := ⟨g.y.toNat, by omega⟩
  rw [hy] at hb' hL y1 y2 ⊢
  rw [Int.toNat_natCast] at hb' hL ⊢
  obtain ⟨L, hLe⟩ : ∃ L, L = Lib.bitLen y := ⟨_, rfl⟩
  rw [← hLe] at hb' hL ⊢
  rw [show (64 - (L : Int)).toNat = 64 - L by omega, show (64 - (64 - (L : Int))).toNat = L by omega]
  have p1 : 2 ^ (64 - L) * 2 ^ L = 2 ^ 64 := by rw [← Nat.pow_add]; congr 1; omega
  have p2 : 2 ^ (L - 1) * 2 ^ (64 - L) = 2 ^ 63 := by rw [← Nat.pow_add]; congr 1; omega
  have m1 := Nat.mul_le_mul_right (2 ^ (64 - L)) hb'.2.1
  have m2 := Nat.mul_lt_mul_of_pos_right hb'.2.2 (Nat.two_pow_pos (64 - L))
  rw [p2] at m1
  rw [Nat.mul_comm (2 ^ L), p1] at m2
  have c1 : ((2 : Int) ^ (64 - L)) = ((2 ^ (64 - L) : Nat) : Int) := by rw [Int.natCast_pow]; rfl
  have c2 : ((2 : Int) ^ L) = ((2 ^ L : Nat) : Int) := by rw [Int.natCast_pow]; rfl
  have q1 := Nat.two_pow_pos (64 - L)
  have q2 := Nat.two_pow_pos L
  rw [c1, c2, ← Int.natCast_mul, ← Int.natCast_mul, p1]
  refine ⟨⟨by omega, by omega⟩, ⟨by omega, by omega⟩, by decide, ?_, ?_⟩ <;> omega
theorem ww {z : Int} (h : 0 ≤ z ∧ z < 18446744073709551616) : IntKind.u64.wrap z = z := by rw [IntKind.wrap_u64]; omega
theorem loop_head {d : Dig} (h : d.ok) : IntKind.u64.wrap (d.U.tdiv d.a) = d.U / d.a ∧ IntKind.u64.wrap (d.U - IntKind.u64.wrap (IntKind.u64.wrap (d.U.tdiv d.a) * d.a)) = d.U - d.U / d.a * d.a := by
  obtain ⟨e1, e2, e3, e4⟩ := Dig.est h
  have hp := Dig.pos h
  have hq := Dig.q_in h
  obtain ⟨⟨a1, a2⟩, ⟨b1, b2⟩, ⟨u1, u2⟩, d1, d2⟩ := h
  have t := Int.tdiv_eq_ediv_of_nonneg (b := d.a) u1
  have m0 : 0 ≤ d.U / d.a * d.a := Int.mul_nonneg (by omega) (by omega)
  rw [t, ww (z := d.U / d.a) ⟨by omega, by omega⟩, ww (z := d.U / d.a * d.a) ⟨m0, by omega⟩, ww ⟨e3, by omega⟩]
  exact ⟨rfl, rfl⟩
theorem loop_dec {d : Dig} (h : d.ok) {p : Int} (p2 : p ≤ 4294967297) (p3 : 0 ≤ d.U - p * d.a) (p4 : d.U - p * d.a < 4294967296) (hq : d.q < p) :
    IntKind.u64.wrap (d.U - p * d.a + d.a) = d.U - (p - 1) * d.a ∧ IntKind.u64.wrap (p - 1) = p - 1 ∧ (4294967296 ≤ d.U - (p - 1) * d.a → p - 1 = d.q) ∧ 0 ≤ d.U - (p - 1) * d.a := by
  have hq0 := Dig.q_in h
  have e : d.U - (p - 1) * d.a = d.U - p * d.a + d.a := by rw [Int.sub_mul, Int.one_mul]; omega
  have ha := h.1
  refine ⟨?_, ww ⟨by omega, by omega⟩, fun hs => ?_, by omega⟩
  · rw [ww ⟨by omega, by omega⟩, e]
  · have := Dig.stop h (p := p - 1) (by omega) (by omega) hs
    omega
theorem loop_test {d : Dig} (h : d.ok) {p : Int} (p0 : 0 ≤ p) (p1 : p < 4294967296) (p3 : 0 ≤ d.U - p * d.a) (p4 : d.U - p * d.a < 4294967296) :
    IntKind.u64.wrap (IntKind.u64.wrap (4294967296 * (d.U - p * d.a)) + d.d) = 4294967296 * (d.U - p * d.a) + d.d ∧ IntKind.u64.wrap (p * d.b) = p * d.b := by
  have hd := h.2.2.2
  refine ⟨?_, ww (Dig.prod h p0 (by omega))⟩
  rw [ww (z := 4294967296 * (d.U - p * d.a)) ⟨by omega, by omega⟩, ww ⟨by omega, by omega⟩]
theorem Dv.d1Y (g : Dv) : g.d1.Y = g.Y := by
  show g.Y / 4294967296 * 4294967296 + g.Y % 4294967296 = g.Y
  omega
theorem Dv.d2Y (g : Dv) : g.d2.Y = g.Y := by
  show g.Y / 4294967296 * 4294967296 + g.Y % 4294967296 = g.Y
  omega
theorem Dv.U_in {g : Dv} (h : g.ok) : 0 ≤ g.lo / g.T' ∧ g.lo / g.T' < g.T ∧ 0 ≤ g.hi * g.T ∧ g.hi * g.T + g.T ≤ g.Y := by
  obtain ⟨_, ⟨t1, t2⟩, tt, _⟩ := Dv.shift h
  obtain ⟨⟨h1, h2⟩, ⟨l1, l2⟩, _⟩ := h
  refine ⟨Int.ediv_nonneg l1 (by omega), Int.ediv_lt_of_lt_mul (by omega) (by omega), Int.mul_nonneg h1 (by omega), ?_⟩
  have := Int.mul_le_mul_of_nonneg_right (show g.hi + 1 ≤ g.y by omega) (show 0 ≤ g.T by omega)
  rw [Int.add_mul, Int.one_mul] at this
  exact this
theorem Dv.L_in (g : Dv) : 0 ≤ g.L ∧ g.L < 18446744073709551616 := by
  unfold Dv.L
  omega
theorem Dv.d1_ok {g : Dv} (h : g.ok) : g.d1.ok := by
  obtain ⟨u0, u1, u2, u3⟩ := Dv.U_in h
  obtain ⟨_, _, _, y1, y2⟩ := Dv.shift h
  have hL := Dv.L_in g
  refine ⟨⟨?_, ?_⟩, ⟨?_, ?_⟩, ⟨?_, ?_⟩, ?_, ?_⟩
  · show 2147483648 ≤ g.Y / 4294967296; omega
  · show g.Y / 4294967296 < 4294967296; omega
  · show 0 ≤ g.Y % 4294967296; omega
  · show g.Y % 4294967296 < 4294967296; omega
  · show 0 ≤ g.hi * g.T + g.lo / g.T'; omega
  · rw [Dv.d1Y]; show g.hi * g.T + g.lo / g.T' < g.Y; omega
  · show 0 ≤ g.L / 4294967296; omega
  · show g.L / 4294967296 < 4294967296; omega
theorem Dv.d2_ok {g : Dv} (h : g.ok) : g.d2.ok := by
  have d1 := Dv.d1_ok h
  obtain ⟨e, r1, r2⟩ := Dig.div d1
  rw [Dv.d1Y] at r2
  refine ⟨d1.1, d1.2.1, ⟨r1, ?_⟩, ?_, ?_⟩
  · rw [Dv.d2Y]; exact r2
  · show 0 ≤ g.L % 4294967296; omega
  · show g.L % 4294967296 < 4294967296; omega
theorem Dv.whole {g : Dv} (h : g.ok) : g.d1.q * 4294967296 + g.d2.q = g.M / g.y ∧ g.d2.r / g.T = g.M % g.y := by
  obtain ⟨e1, r1, s1⟩ := Dig.div (Dv.d1_ok h)
  obtain ⟨e2, r2, s2⟩ := Dig.div (Dv.d2_ok h)
  rw [Dv.d1Y] at e1 s1
  rw [Dv.d2Y] at e2 s2
  have n1 : g.d1.N = g.U * 4294967296 + g.L / 4294967296 := rfl
  have n2 : g.d2.N = g.d1.r * 4294967296 + g.L % 4294967296 := rfl
  obtain ⟨_, ⟨t1, t2⟩, tt, _⟩ := Dv.shift h
  have hy : 1 ≤ g.y := h.2.2.1
  -- the whole, shifted
  have hM : g.M * g.T = g.U * 18446744073709551616 + g.L := by
    have a1 : g.lo * g.T / 18446744073709551616 = g.lo / g.T' := by
      rw [← tt, Int.mul_comm g.T g.T']
      exact Int.mul_ediv_mul_of_pos_left _ _ (by omega)
    have a2 := Int.emod_add_mul_ediv (g.lo * g.T) 18446744073709551616
    rw [a1] at a2
    have a3 : g.M * g.T = g.hi * g.T * 18446744073709551616 + g.lo * g.T := by
      show (g.hi * 18446744073709551616 + g.lo) * g.T = _
      grind
    have a4 : g.U = g.hi * g.T + g.lo / g.T' := rfl
    have a5 : g.L = g.lo * g.T % 18446744073709551616 := rfl
    rw [a3, a4, a5]
    omega
  have hQ : g.M * g.T = (g.d1.q * 4294967296 + g.d2.q) * g.Y + g.d2.r := by
    have b1 : (g.d1.q * 4294967296 + g.d2.q) * g.Y = g.d1.q * g.Y * 4294967296 + g.d2.q * g.Y := by grind
    rw [hM, b1]
    omega
  have hY : g.Y = g.y * g.T := rfl
  generalize g.d1.q * 4294967296 + g.d2.q = Q at *
  have hr : g.d2.r = (g.M - Q * g.y) * g.T := by
    rw [hY] at hQ
    have b2 : (g.M - Q * g.y) * g.T = g.M * g.T - Q * (g.y * g.T) := by grind
    omega
  have k0 : 0 ≤ g.M - Q * g.y := by
    refine Classical.byContradiction fun hc => ?_
    have := Int.mul_le_mul_of_nonneg_right (show g.M - Q * g.y ≤ -1 by omega) (show 0 ≤ g.T by omega)
    omega
  have k1 : g.M - Q * g.y < g.y := by
    refine Classical.byContradiction fun hc => ?_
    have := Int.mul_le_mul_of_nonneg_right (show g.y ≤ g.M - Q * g.y by omega) (show 0 ≤ g.T by omega)
    omega
  have hq : g.M / g.y = Q := by
    have : g.M = g.M - Q * g.y + Q * g.y := by omega
    rw [this, Int.add_mul_ediv_right _ _ (by omega), Int.ediv_eq_zero_of_lt k0 k1, Int.zero_add]
  refine ⟨hq.symm, ?_⟩
  have hm := Int.emod_add_mul_ediv g.M g.y
  rw [hq, Int.mul_comm g.y] at hm
  rw [hr, Int.mul_ediv_cancel _ (by omega)]
  omega
end Go.Proofs.Ytbmgclpgompjmaa.Dvl
