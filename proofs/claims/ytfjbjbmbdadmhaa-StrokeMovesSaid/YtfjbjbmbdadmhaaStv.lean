/- The normal of a side: its length, its direction: plain. -/
import Derived.Test.YtfjbjbmbdadmhaaStm
set_option linter.unusedSimpArgs false
set_option linter.unusedVariables false
namespace Go.Proofs.Ytfjbjbmbdadmhaa.Stv
open Go.RowKit Sx Num Aff Con Fla Flg Sta Stb Stc Sto Ste Stm Stl
set_option maxRecDepth 100000
theorem nr_err (a : Int) {l : Int} (h : 1 ≤ l) : -l ≤ 2 * (nr a l * l - a) ∧ 2 * (nr a l * l - a) ≤ l := by
  have := nr_spec a l h
  omega
theorem size_in (x : Int) : (-(sizeI x) ≤ x ∧ x ≤ sizeI x) ∧ 0 ≤ sizeI x := by unfold sizeI; split <;> omega
theorem mul_size {e l x : Int} (h : -l ≤ e ∧ e ≤ l) : -(l * sizeI x) ≤ e * x ∧ e * x ≤ l * sizeI x := Fla.mul_in h (size_in x).1
def nv (w : Int) (d : Pt) : Pt := ⟨half w (lenD d) (0 - d.y), half w (lenD d) d.x⟩
/-! A line of two points. -/
structure IsS (l : Li) (a b : Pt) : Prop where
  n : l.n = 2
  p0 : l.f 0 = a
  p1 : l.f 1 = b
  s : l.c = false
def sN (w : Int) : Sty := ⟨w, 0, 0, 16⟩
theorem IsS.clean {l : Li} {a b : Pt} (h : IsS l a b) (hne : ¬ eqPt a b) : clean l = [a, b] := by
  have e1 : dd l.f 1 = [l.f 0] := if_pos (.inl rfl)
  have e2 : dd l.f 2 = if (dd l.f 1).length = 0 ∨ ¬ eqPt (lastP (dd l.f 1)) (l.f 1) then dd l.f 1 ++ [l.f 1] else dd l.f 1 := rfl
  rw [e1] at e2
  have e3 : lastP [l.f 0] = l.f 0 := rfl
  rw [e3, h.p0, h.p1, if_pos (.inr hne)] at e2
  unfold Sta.clean
  rw [h.s, if_neg (by decide), h.n, e2]
  rfl
def ON (w : Int) (a b : Pt) : Olr := (o0 (sN w)).add 4 (sPart (mkSid w a b))
theorem IsS.ln {l : Li} {a b : Pt} (h : IsS l a b) (hne : ¬ eqPt a b) (w : Int) : lnO (sN w) l = ON w a b := by
  have hc := h.clean hne
  have eN : sdN l 2 = 1 := by unfold sdN; rw [hc, h.s]; rfl
  have eS : sdA w l 0 = mkSid w a b := by rw [sdA_eq, hc]; rfl
  unfold lnO Olr.ln
  rw [hc]
  show (if 2 < 2 then _ else Olr.ends (Olr.jns (Olr.sds (o0 (sN w)) (sdA w l) (sdN l 2)) (sdA w l) (sdN l 2 - 1)) l (sdA w l) (sdN l 2)) = _
  rw [if_neg (by decide), eN]
  show (if l.c = true then _ else ((o0 (sN w)).add 4 (sPart (sdA w l 0))).cp (sdA w l 0) (sdA w l 0)) = _
  rw [h.s, if_neg (by decide), eS]
  rfl
theorem IsS.out {l : Li} {a b : Pt} (h : IsS l a b) (hne : ¬ eqPt a b) (w : Int) : outX (sN w) l = (ON w a b).flip 1 := by
  rw [outX_eq]
  unfold outO
  rw [h.ln hne]
  rfl
/-- The four points, in one order or in the other. -/
theorem IsS.pts {l : Li} {a b : Pt} (h : IsS l a b) (hne : ¬ eqPt a b) (w : Int) :
    (((outX (sN w) l).p 0 0 = addP a (nv w (subP b a)) ∧ (outX (sN w) l).p 0 1 = addP b (nv w (subP b a))) ∧ (outX (sN w) l).p 0 2 = subP b (nv w (subP b a)) ∧ (outX (sN w) l).p 0 3 = subP a (nv w (subP b a))) ∨
    (((outX (sN w) l).p 0 0 = subP a (nv w (subP b a)) ∧ (outX (sN w) l).p 0 1 = subP b (nv w (subP b a))) ∧ (outX (sN w) l).p 0 2 = addP b (nv w (subP b a)) ∧ (outX (sN w) l).p 0 3 = addP a (nv w (subP b a))) := by
  rw [h.out hne]
  have e : ∀ j, ((ON w a b).flip 1).p 0 j = ⟨bif decide (0 < 1 ∧ neg (ON w a b) 0) then ((ON w a b).p 0 (4 - 1 - j)).x else ((ON w a b).p 0 j).x, bif decide (0 < 1 ∧ neg (ON w a b) 0) then ((ON w a b).p 0 (4 - 1 - j)).y else ((ON w a b).p 0 j).y⟩ := fun j => rfl
  by_cases hn : 0 < 1 ∧ neg (ON w a b) 0
  · right
    rw [e, e, e, e, decide_eq_true hn]
    exact ⟨⟨rfl, rfl⟩, rfl, rfl⟩
  · left
    rw [e, e, e, e, decide_eq_false hn]
    exact ⟨⟨rfl, rfl⟩, rfl, rfl⟩
structure Par (w : Int) (a b : Pt) (T : Nat → Pt) : Prop where
  x02 : (T 0).x + (T 2).x = a.x + b.x
  y02 : (T 0).y + (T 2).y = a.y + b.y
  x13 : (T 1).x + (T 3).x = a.x + b.x
  y13 : (T 1).y + (T 3).y = a.y + b.y
  u : -1200 ≤ (T 0).x - (T 3).x ∧ (T 0).x - (T 3).x ≤ 1200
  v : -1200 ≤ (T 0).y - (T 3).y ∧ (T 0).y - (T 3).y ≤ 1200
  dot : sizeI (((T 0).x - (T 3).x) * (b.x - a.x) + ((T 0).y - (T 3).y) * (b.y - a.y)) ≤ sizeI (b.x - a.x) + sizeI (b.y - a.y)
  up : ((T 0).x - (T 3).x) * ((T 0).x - (T 3).x) + ((T 0).y - (T 3).y) * ((T 0).y - (T 3).y) ≤ (w + 3) * (w + 3)
  lo : 4 ≤ w → (w - 3) * (w - 3) ≤ ((T 0).x - (T 3).x) * ((T 0).x - (T 3).x) + ((T 0).y - (T 3).y) * ((T 0).y - (T 3).y)
end Go.Proofs.Ytfjbjbmbdadmhaa.Stv
