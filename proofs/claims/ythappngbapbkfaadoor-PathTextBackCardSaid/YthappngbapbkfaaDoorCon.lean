/- Package conic, by the evaluation: abs, near, at, flat, division. -/
import Derived.Test.YthappngbapbkfaaDoorSxz
import Derived.Test.YthappngbapbkfaaDoorAff
set_option linter.unusedSimpArgs false
set_option linter.unusedVariables false
namespace Go.Proofs.YthappngbapbkfaaDoor.Con
open Go.RowKit Sx Num Aff
set_option maxRecDepth 100000
/-! abs, also of the least number. -/
def absI (x : Int) : Int := if x < wrap64 (-x) then wrap64 (-x) else x
def aI (x : Int) : Int := if x < 0 then -x else x
theorem absI_le {x : Int} (h : -4611686018427387904 < x) : absI x ≤ 32767 ↔ -32767 ≤ x ∧ x ≤ 32767 := by
  unfold absI wrap64
  omega
structure Pt where
  x : Int
  y : Int
def ptL (p : Pt) : List SV := [.int .i64 p.x, .int .i64 p.y]
def ptS (p : Pt) : SV := .agg 2 (lst (ptL p))
def ptD (g : Nat → SV) : Pt := ⟨intOf (g 0), intOf (g 1)⟩
/-! near. -/
structure NrG where
  a : Pt
  m : Pt
  b : Pt
def Pt.in (p : Pt) (n : Int) : Prop := (-n ≤ p.x ∧ p.x ≤ n) ∧ -n ≤ p.y ∧ p.y ≤ n
def nearP (g : NrG) : Prop := ((min g.a.x g.b.x - 1 ≤ g.m.x ∧ g.m.x ≤ max g.a.x g.b.x + 1) ∧ min g.a.y g.b.y - 1 ≤ g.m.y ∧ g.m.y ≤ max g.a.y g.b.y + 1) ∧
  aI ((g.b.x - g.a.x) * (g.m.y - g.a.y) - (g.b.y - g.a.y) * (g.m.x - g.a.x)) ≤ max (max (aI (g.b.x - g.a.x)) (aI (g.b.y - g.a.y))) 1
instance (g : NrG) : Decidable (nearP g) := by unfold nearP; infer_instance
/-! at. -/
structure Cur where
  x0 : Int
  y0 : Int
  x1 : Int
  y1 : Int
  x2 : Int
  y2 : Int
  w : Int
def curL (c : Cur) : List SV := [.int .i64 c.x0, .int .i64 c.y0, .int .i64 c.x1, .int .i64 c.y1, .int .i64 c.x2, .int .i64 c.y2, .int .i64 c.w]
def curS (c : Cur) : SV := .agg 7 (lst (curL c))
def curD (g : Nat → SV) : Cur := ⟨intOf (g 0), intOf (g 1), intOf (g 2), intOf (g 3), intOf (g 4), intOf (g 5), intOf (g 6)⟩
def inC (x : Int) : Prop := -32767 ≤ x ∧ x ≤ 32767
def Cur.ok (c : Cur) : Prop := ((inC c.x0 ∧ inC c.y0) ∧ inC c.x1 ∧ inC c.y1) ∧ (inC c.x2 ∧ inC c.y2) ∧ 16 ≤ c.w ∧ c.w ≤ 4096
def sumC (w k n : Int) : Int := 256 * (n - k) * (n - k) + 2 * k * (n - k) * w + 256 * k * k
def atC (x0 x1 x2 w k n : Int) : Int := nr (256 * (n - k) * (n - k) * x0 + 2 * k * (n - k) * w * x1 + 256 * k * k * x2) (sumC w k n)
def Cur.at (c : Cur) (k n : Int) : Pt := ⟨atC c.x0 c.x1 c.x2 c.w k n, atC c.y0 c.y1 c.y2 c.w k n⟩
structure AtG where
  c : Cur
  k : Int
  n : Int
def AtG.ok (g : AtG) : Prop := g.c.ok ∧ (0 ≤ g.k ∧ g.k ≤ g.n) ∧ 1 ≤ g.n ∧ g.n ≤ 1024
theorem one_le {x : Int} (h : 1 ≤ x) : 1 ≤ x * x := by
  have := Int.mul_le_mul h h (by omega) (by omega)
  rwa [Int.one_mul] at this
theorem parts_in {w k n : Int} (hw : 16 ≤ w ∧ w ≤ 4096) (hk : 0 ≤ k ∧ k ≤ n) (hn : 1 ≤ n ∧ n ≤ 1024) :
    (0 ≤ 256 * (n - k) * (n - k) ∧ 256 * (n - k) * (n - k) ≤ 268435456) ∧ (0 ≤ 2 * k * (n - k) ∧ 2 * k * (n - k) ≤ 2097152) ∧ (0 ≤ 2 * k * (n - k) * w ∧ 2 * k * (n - k) * w ≤ 8589934592) ∧ (0 ≤ 256 * k * k ∧ 256 * k * k ≤ 268435456) ∧ 1 ≤ sumC w k n := by
  have p1 : 0 ≤ 256 * (n - k) * (n - k) ∧ 256 * (n - k) * (n - k) ≤ 262144 * 1024 := ⟨Int.mul_nonneg (by omega) (by omega), Int.mul_le_mul (by omega) (by omega) (by omega) (by omega)⟩
  have p2 : 0 ≤ 2 * k * (n - k) ∧ 2 * k * (n - k) ≤ 2048 * 1024 := ⟨Int.mul_nonneg (by omega) (by omega), Int.mul_le_mul (by omega) (by omega) (by omega) (by omega)⟩
  have p3 : 0 ≤ 2 * k * (n - k) * w ∧ 2 * k * (n - k) * w ≤ 2097152 * 4096 := ⟨Int.mul_nonneg p2.1 (by omega), Int.mul_le_mul (by omega) hw.2 (by omega) (by omega)⟩
  have p4 : 0 ≤ 256 * k * k ∧ 256 * k * k ≤ 262144 * 1024 := ⟨Int.mul_nonneg (by omega) (by omega), Int.mul_le_mul (by omega) (by omega) (by omega) (by omega)⟩
  refine ⟨by omega, by omega, by omega, by omega, ?_⟩
  unfold sumC
  by_cases h : k = 0
  · have : 256 * 1 ≤ 256 * (n - k) * (n - k) := by rw [Int.mul_assoc]; exact Int.mul_le_mul_of_nonneg_left (one_le (by omega)) (by omega)
    omega
  · have : 256 * 1 ≤ 256 * k * k := by rw [Int.mul_assoc]; exact Int.mul_le_mul_of_nonneg_left (one_le (by omega)) (by omega)
    omega
theorem nr_between {x b lo hi : Int} (hb : 1 ≤ b) (h1 : lo * b ≤ x) (h2 : x ≤ hi * b) : lo ≤ nr x b ∧ nr x b ≤ hi := by
  have hs := nr_spec x b hb
  generalize nr x b = m at *
  constructor
  · refine Int.not_lt.1 fun hc => ?_
    have : (m + 1) * b ≤ lo * b := Int.mul_le_mul_of_nonneg_right (by omega) (by omega)
    rw [Int.add_mul] at this
    omega
  · refine Int.not_lt.1 fun hc => ?_
    have : (hi + 1) * b ≤ m * b := Int.mul_le_mul_of_nonneg_right (by omega) (by omega)
    rw [Int.add_mul] at this
    omega
theorem atC_between {x0 x1 x2 w k n lo hi : Int} (hw : 16 ≤ w ∧ w ≤ 4096) (hk : 0 ≤ k ∧ k ≤ n) (hn : 1 ≤ n ∧ n ≤ 1024) (h0 : lo ≤ x0 ∧ x0 ≤ hi) (h1 : lo ≤ x1 ∧ x1 ≤ hi) (h2 : lo ≤ x2 ∧ x2 ≤ hi) :
    lo ≤ atC x0 x1 x2 w k n ∧ atC x0 x1 x2 w k n ≤ hi := by
  obtain ⟨p1, p2, p3, p4, p5⟩ := parts_in hw hk hn
  have e : ∀ t : Int, t * sumC w k n = 256 * (n - k) * (n - k) * t + 2 * k * (n - k) * w * t + 256 * k * k * t := fun t => by
    unfold sumC
    rw [Int.mul_comm t, Int.add_mul, Int.add_mul]
  refine nr_between p5 ?_ ?_
  · rw [e]
    have a := Int.mul_le_mul_of_nonneg_left h0.1 p1.1
    have b := Int.mul_le_mul_of_nonneg_left h1.1 p3.1
    have c := Int.mul_le_mul_of_nonneg_left h2.1 p4.1
    omega
  · rw [e]
    have a := Int.mul_le_mul_of_nonneg_left h0.2 p1.1
    have b := Int.mul_le_mul_of_nonneg_left h1.2 p3.1
    have c := Int.mul_le_mul_of_nonneg_left h2.2 p4.1
    omega
theorem at_in {c : Cur} (hc : c.ok) {k n : Int} (hk : 0 ≤ k ∧ k ≤ n) (hn : 1 ≤ n ∧ n ≤ 1024) : (c.at k n).in 32768 := by
  obtain ⟨⟨⟨hx0, hy0⟩, hx1, hy1⟩, ⟨hx2, hy2⟩, hw⟩ := hc
  have a := atC_between hw hk hn hx0 hx1 hx2
  have b := atC_between hw hk hn hy0 hy1 hy2
  unfold Pt.in Cur.at
  simp only
  omega
/-! flat, division. -/
def midP (c : Cur) (n k : Int) : Prop := nearP ⟨c.at k n, c.at (2 * k + 1) (2 * n), c.at (k + 1) n⟩
instance (c : Cur) (n k : Int) : Decidable (midP c n k) := by unfold midP; infer_instance
def flatB (c : Cur) (n : Int) : Bool := (List.range n.toNat).all fun k => decide (midP c n k)
theorem flatB_iff {c : Cur} {n : Int} : flatB c n = true ↔ ∀ k : Nat, k < n.toNat → midP c n k := by
  simp [flatB]
structure FlG where
  c : Cur
  n : Int
def divF : Nat → Cur → Int → Int
  | 0, _, n => n
  | f + 1, c, n => if n < 512 then bif flatB c n then n else divF f c (n * 2) else n
def divN (c : Cur) : Int := divF 9 c 1
theorem divF_range (c : Cur) : ∀ (f : Nat) (n : Int), 1 ≤ n → n * 2 ^ f ≤ 512 → n ≤ divF f c n ∧ divF f c n ≤ 512
  | 0, n, h, h' => by simp at h'; exact ⟨Int.le_refl n, h'⟩
  | f + 1, n, h, h' => by
    have hp : n * 2 ^ (f + 1) = n * 2 * 2 ^ f := by rw [Int.pow_succ, Int.mul_comm (2 ^ f), Int.mul_assoc]
    have hq : (1 : Int) ≤ 2 ^ f := Int.pow_pos (by decide)
    have hn : n * 2 ≤ n * 2 * 2 ^ f := by
      have := Int.mul_le_mul_of_nonneg_left hq (show 0 ≤ n * 2 by omega)
      omega
    unfold divF
    split
    · cases flatB c n
      · have := divF_range c f (n * 2) (by omega) (by omega)
        exact ⟨by show n ≤ divF f c (n * 2); omega, this.2⟩
      · exact ⟨Int.le_refl n, by show n ≤ 512; omega⟩
    · exact ⟨Int.le_refl n, by omega⟩
end Go.Proofs.YthappngbapbkfaaDoor.Con
