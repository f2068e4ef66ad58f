/- Package region: combine, by the evaluation. -/
import Derived.Test.YtfjbjbmbdadmhaaRgm
set_option linter.unusedSimpArgs false
set_option linter.unusedVariables false
namespace Go.Proofs.Ytfjbjbmbdadmhaa.Rgb
open Go.RowKit Sx Num Aff Con Rga Rgl Rgm
set_option maxRecDepth 100000
/-! combine: the sweep from the a's edge i and the b's edge j on; the flags are the parities. -/
def eS (g : Rg) (w : Int) (i : Nat) : SV := .sl (2 * g.n - i) 3 (fun k => lst [.int .i64 (g.f ((k + i) / 2)).y, .int .i64 (eX g.f (k + i)), .int .i64 w])
noncomputable def cbOut (K : Bool → Bool → Bool) (g : CbG) : List Rn := ofSet (fun y x => K (mem g.a.L y x) (mem g.b.L y x))
theorem addL (L : List Rn) (r : Rn) : AdG.L ⟨L.length, rI L, r⟩ = addR L r := by
  show addR (Rg.L ⟨L.length, rI L⟩) r = addR L r
  rw [Rg.L_of]
def mn (a b : Bool) : Bool := a && !b
end Go.Proofs.Ytfjbjbmbdadmhaa.Rgb
