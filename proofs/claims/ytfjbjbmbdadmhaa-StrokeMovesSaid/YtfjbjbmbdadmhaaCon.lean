/- Package conic, by the evaluation: abs, near, at, flat, division. -/
import Derived.Test.YtfjbjbmbdadmhaaSxz
import Derived.Test.YtfjbjbmbdadmhaaAff
set_option linter.unusedSimpArgs false
set_option linter.unusedVariables false
namespace Go.Proofs.Ytfjbjbmbdadmhaa.Con
open Go.RowKit Sx Num Aff
set_option maxRecDepth 100000
/-! abs, also of the least number. -/
def absI (x : Int) : Int := if x < wrap64 (-x) then wrap64 (-x) else x
def aI (x : Int) : Int := if x < 0 then -x else x
structure Pt where
  x : Int
  y : Int
def ptL (p : Pt) : List SV := [.int .i64 p.x, .int .i64 p.y]
def ptS (p : Pt) : SV := .agg 2 (lst (ptL p))
def ptD (g : Nat → SV) : Pt := ⟨intOf (g 0), intOf (g 1)⟩
/-! near. -/
structure NrG where
  a : Pt
  m : Pt
  b : Pt
def Pt.in (p : Pt) (n : Int) : Prop := (-n ≤ p.x ∧ p.x ≤ n) ∧ -n ≤ p.y ∧ p.y ≤ n
def nearP (g : NrG) : Prop := ((min g.a.x g.b.x - 1 ≤ g.m.x ∧ g.m.x ≤ max g.a.x g.b.x + 1) ∧ min g.a.y g.b.y - 1 ≤ g.m.y ∧ g.m.y ≤ max g.a.y g.b.y + 1) ∧
  aI ((g.b.x - g.a.x) * (g.m.y - g.a.y) - (g.b.y - g.a.y) * (g.m.x - g.a.x)) ≤ max (max (aI (g.b.x - g.a.x)) (aI (g.b.y - g.a.y))) 1
instance (g : NrG) : Decidable (nearP g) := by unfold nearP; infer_instance
/-! at. -/
structure Cur where
  x0 : Int
  y0 : Int
  x1 : Int
  y1 : Int
  x2 : Int
  y2 : Int
  w : Int
def inC (x : Int) : Prop := -32767 ≤ x ∧ x ≤ 32767
def Cur.ok (c : Cur) : Prop := ((inC c.x0 ∧ inC c.y0) ∧ inC c.x1 ∧ inC c.y1) ∧ (inC c.x2 ∧ inC c.y2) ∧ 16 ≤ c.w ∧ c.w ≤ 4096
def sumC (w k n : Int) : Int := 256 * (n - k) * (n - k) + 2 * k * (n - k) * w + 256 * k * k
def atC (x0 x1 x2 w k n : Int) : Int := nr (256 * (n - k) * (n - k) * x0 + 2 * k * (n - k) * w * x1 + 256 * k * k * x2) (sumC w k n)
def Cur.at (c : Cur) (k n : Int) : Pt := ⟨atC c.x0 c.x1 c.x2 c.w k n, atC c.y0 c.y1 c.y2 c.w k n⟩
structure AtG where
  c : Cur
  k : Int
  n : Int
def AtG.ok (g : AtG) : Prop := g.c.ok ∧ (0 ≤ g.k ∧ g.k ≤ g.n) ∧ 1 ≤ g.n ∧ g.n ≤ 1024
theorem nr_between {x b lo hi : Int} (hb : 1 ≤ b) (h1 : lo * b ≤ x) (h2 : x ≤ hi * b) : lo ≤ nr x b ∧ nr x b ≤ hi := by
  have hs := nr_spec x b hb
  generalize nr x b = m at *
  constructor
  · refine Int.not_lt.1 fun hc => ?_
    have : (m + 1) * b ≤ lo * b := Int.mul_le_mul_of_nonneg_right (by omega) (by omega)
    rw [Int.add_mul] at this
    omega
  · refine Int.not_lt.1 fun hc => ?_
    have : (hi + 1) * b ≤ m * b := Int.mul_le_mul_of_nonneg_right (by omega) (by omega)
    rw [Int.add_mul] at this
    omega
/-! flat, division. -/
def midP (c : Cur) (n k : Int) : Prop := nearP ⟨c.at k n, c.at (2 * k + 1) (2 * n), c.at (k + 1) n⟩
instance (c : Cur) (n k : Int) : Decidable (midP c n k) := by unfold midP; infer_instance
def flatB (c : Cur) (n : Int) : Bool := (List.range n.toNat).all fun k => decide (midP c n k)
structure FlG where
  c : Cur
  n : Int
def divF : Nat → Cur → Int → Int
  | 0, _, n => n
  | f + 1, c, n => if n < 512 then bif flatB c n then n else divF f c (n * 2) else n
def divN (c : Cur) : Int := divF 9 c 1
end Go.Proofs.Ytfjbjbmbdadmhaa.Con
