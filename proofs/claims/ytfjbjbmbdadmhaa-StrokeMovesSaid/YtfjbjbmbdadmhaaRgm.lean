/- Regions: the sweep over the edges of two of them (plain law). -/
import Derived.Test.YtfjbjbmbdadmhaaRgl
set_option linter.unusedSimpArgs false
set_option linter.unusedVariables false
namespace Go.Proofs.Ytfjbjbmbdadmhaa.Rgm
open Rga Rgl
def eY (f : Nat → Rn) (k : Nat) : Int := (f (k / 2)).y
abbrev le2 (y x y' x' : Int) : Prop := y < y' ∨ (y = y' ∧ x ≤ x')
abbrev lt2 (y x y' x' : Int) : Prop := y < y' ∨ (y = y' ∧ x < x')
theorem lt_of {g : Rg} (h : vld g.L) {i j : Nat} (hij : i < j) (hj : j < g.n) : ltR (g.f i) (g.f j) := by
  have := List.pairwise_iff_getElem.1 h.2 i j (by rw [Rg.len]; omega) (by rw [Rg.len]; exact hj) hij
  simpa [Rg.L] using this
/-! The sweep's states. -/
structure CbG where
  a : Rg
  b : Rg
structure CsG where
  i : Nat
  j : Nat
  from' : Rga.Eg
  L : List Rn
structure CbP (g : CbG) (K : Bool → Bool → Bool) (s : CsG) : Prop where
  hi : s.i ≤ 2 * g.a.n
  hj : s.j ≤ 2 * g.b.n
  c1 : 0 < s.i → le2 (eY g.a.f (s.i - 1)) (eX g.a.f (s.i - 1)) s.from'.y s.from'.x
  c2 : 0 < s.j → le2 (eY g.b.f (s.j - 1)) (eX g.b.f (s.j - 1)) s.from'.y s.from'.x
  u1 : 0 < s.i + s.j → s.i < 2 * g.a.n → le2 s.from'.y s.from'.x (eY g.a.f s.i) (eX g.a.f s.i)
  u2 : 0 < s.i + s.j → s.j < 2 * g.b.n → le2 s.from'.y s.from'.x (eY g.b.f s.j) (eX g.b.f s.j)
  fok : (-8192 ≤ s.from'.y ∧ s.from'.y < 8192) ∧ -8192 ≤ s.from'.x ∧ s.from'.x ≤ 8192
  hL : vld s.L
  hE : 0 < s.i + s.j → aftE s.L s.from'.y s.from'.x
  h0 : s.i + s.j = 0 → s.L = []
  hm : 0 < s.i + s.j → ∀ y x, mem s.L y x = (decide (lt2 y x s.from'.y s.from'.x) && K (mem g.a.L y x) (mem g.b.L y x))
end Go.Proofs.Ytfjbjbmbdadmhaa.Rgm
