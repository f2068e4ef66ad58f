/- path.Map, by the evaluation. -/
import Derived.Test.YthappngbapbkfaaDoorFlt
set_option linter.unusedSimpArgs false
set_option linter.unusedVariables false
namespace Go.Proofs.YthappngbapbkfaaDoor.Pmp
open Go.RowKit Sx Num Aff Con Cop Coh Pth Flt
set_option maxRecDepth 100000
structure MaG where
  p : Pth
  m : Mat
def mapS (m : Mat) (s : Seg) : Seg := ⟨s.k, if s.k = 4 then s.x else m.appX s.x s.y, if s.k = 4 then s.y else m.appY s.x s.y, if s.k = 3 then m.appX s.u s.v else s.u, if s.k = 3 then m.appY s.u s.v else s.v, s.w⟩
def mapE (m : Mat) (s : Seg) : Int := if s.k ≠ 4 ∧ m.appE s.x s.y ≠ 0 then m.appE s.x s.y else if s.k = 3 then m.appE s.u s.v else 0
def MaG.mapF (g : MaG) : Nat → Nat → Int
  | 0, _ => 0
  | f + 1, i => if mapE g.m (g.p.f i) = 0 then g.mapF f (i + 1) else mapE g.m (g.p.f i)
def MaG.e (g : MaG) : Int := if g.p.chk = 0 then if g.m.chk = 0 then g.mapF g.p.n 0 else g.m.chk else g.p.chk
def MaG.out (g : MaG) : Pth := ⟨if g.e = 0 then g.p.n else 0, fun i => mapS g.m (g.p.f i)⟩
theorem step6 {F : Nat → Seg} {I : Nat} {v : Seg} (hv : v = F I) {j : Nat} (hj : j < I + 1) :
    (((((bif decide (j < I) then (F j).k else v.k) = (F j).k ∧ (bif decide (j < I) then (F j).x else v.x) = (F j).x) ∧ (bif decide (j < I) then (F j).y else v.y) = (F j).y) ∧ (bif decide (j < I) then (F j).u else v.u) = (F j).u) ∧ (bif decide (j < I) then (F j).v else v.v) = (F j).v) ∧ (bif decide (j < I) then (F j).w else v.w) = (F j).w := by
  by_cases h : j < I
  · rw [decide_eq_true h]; exact ⟨⟨⟨⟨⟨rfl, rfl⟩, rfl⟩, rfl⟩, rfl⟩, rfl⟩
  · obtain rfl : j = I := by omega
    rw [decide_eq_false h, hv]; exact ⟨⟨⟨⟨⟨rfl, rfl⟩, rfl⟩, rfl⟩, rfl⟩, rfl⟩
theorem mapF_0 {g : MaG} : ∀ (m i : Nat), g.mapF m i = 0 → ∀ j, i ≤ j → j < i + m → mapE g.m (g.p.f j) = 0
  | 0, i, _, j, h1, h2 => by omega
  | m + 1, i, h, j, h1, h2 => by
    unfold MaG.mapF at h
    by_cases he : mapE g.m (g.p.f i) = 0
    · rw [if_pos he] at h
      by_cases hj : j = i
      · subst hj; exact he
      · exact mapF_0 m (i + 1) h j (by omega) (by omega)
    · rw [if_neg he] at h
      exact absurd h he
theorem e_0 {g : MaG} (h : g.e = 0) : g.p.chk = 0 ∧ g.m.chk = 0 ∧ ∀ i, i < g.p.n → mapE g.m (g.p.f i) = 0 := by
  unfold MaG.e at h
  by_cases h1 : g.p.chk = 0
  · rw [if_pos h1] at h
    by_cases h2 : g.m.chk = 0
    · rw [if_pos h2] at h
      exact ⟨h1, h2, fun i hi => mapF_0 _ _ h i (by omega) (by omega)⟩
    · rw [if_neg h2] at h; exact absurd h h2
  · rw [if_neg h1] at h; exact absurd h h1
end Go.Proofs.YthappngbapbkfaaDoor.Pmp
