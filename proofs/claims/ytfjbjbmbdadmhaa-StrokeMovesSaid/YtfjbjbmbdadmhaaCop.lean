/- conic.Points and what it leans on, by the evaluation. -/
import Derived.Test.YtfjbjbmbdadmhaaCon
set_option linter.unusedSimpArgs false
set_option linter.unusedVariables false
namespace Go.Proofs.Ytfjbjbmbdadmhaa.Cop
open Go.RowKit Sx Num Aff Con
set_option maxRecDepth 100000
instance (x : Int) : Decidable (inC x) := by unfold inC; infer_instance
/-! path.within, path.CheckSeg. -/
structure WiG where
  n : Nat
  f : Nat → Int
structure Seg where
  k : Int
  x : Int
  y : Int
  u : Int
  v : Int
  w : Int
/-! points, Points. -/
structure PsG where
  p : Pt
  s : Seg
def PsG.cur (g : PsG) : Cur := ⟨g.p.x, g.p.y, g.s.u, g.s.v, g.s.x, g.s.y, g.s.w⟩
def PsG.n (g : PsG) : Int := if g.s.k = 2 then 1 else divN g.cur
def PsG.ok (g : PsG) : Prop := g.s.k = 2 ∨ (g.s.k = 3 ∧ g.cur.ok)
def ptsS (n : Nat) (f : Nat → Pt) : SV := .sl n 2 (fun i => lst (ptL (f i)))
end Go.Proofs.Ytfjbjbmbdadmhaa.Cop
