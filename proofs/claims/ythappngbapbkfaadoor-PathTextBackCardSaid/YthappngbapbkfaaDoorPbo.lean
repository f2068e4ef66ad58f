/- path.Bounds, by the evaluation. -/
import Derived.Test.YthappngbapbkfaaDoorPmp
set_option linter.unusedSimpArgs false
set_option linter.unusedVariables false
namespace Go.Proofs.YthappngbapbkfaaDoor.Pbo
open Go.RowKit Sx Num Aff Con Cop Coh Pth
set_option maxRecDepth 100000
/-- Bounds. -/
structure Bd where
  lx : Int
  ly : Int
  hx : Int
  hy : Int
def Bd.gx (b : Bd) (x y : Int) : Bd := ⟨if x < b.lx then x else b.lx, if y < b.ly then y else b.ly, if x > b.hx then x else b.hx, if y > b.hy then y else b.hy⟩
structure GrG where
  b : Bd
  x : Int
  y : Int
def grD : List SV → List SO → Option GrG
  | [.int _ x, .int _ y, _, _], [.cells _ l _, .cells _ h _] => some ⟨⟨Sx.intOf (l 0), Sx.intOf (l 1), Sx.intOf (h 0), Sx.intOf (h 1)⟩, x, y⟩
  | _, _ => none
def bStep (b : Bd) (s : Seg) : Bd := if s.k = 3 then (b.gx s.u s.v).gx s.x s.y else if s.k = 1 ∨ s.k = 2 then b.gx s.x s.y else b
def bN (p : Pth) : Nat → Bd
  | 0 => ⟨(p.f 0).x, (p.f 0).y, (p.f 0).x, (p.f 0).y⟩
  | i + 1 => bStep (bN p i) (p.f i)
def bE (p : Pth) : Int := if p.chk = 0 then if p.n = 0 then 8 else 0 else p.chk
def bB (p : Pth) : Bd := if p.chk = 0 ∧ p.n ≠ 0 then bN p p.n else ⟨0, 0, 0, 0⟩
def ptS (x y : Int) : SV := .agg 2 (lst [.int .i64 x, .int .i64 y])
end Go.Proofs.YthappngbapbkfaaDoor.Pbo
