/- path.Reverse, by the evaluation. -/
import Derived.Test.YthappngbapbkfaaDoorPbo
import Derived.Test.YthappngbapbkfaaDoorPmp
set_option linter.unusedSimpArgs false
set_option linter.unusedVariables false
namespace Go.Proofs.YthappngbapbkfaaDoor.Prv
open Go.RowKit Sx Num Aff Con Cop Coh Pth Pmp
set_option maxRecDepth 100000
/-! Where the subpaths lie. -/
structure SubOK (p : Pth) (i t : Nat) : Prop where
  nx : t + 1 < p.mv i → p.st i t + p.ln i t = p.st i (t + 1)
  la : t + 1 = p.mv i → p.st i t + p.ln i t = i
  z : t = 0 → p.st i t = 0
  pos : 1 ≤ p.ln i t
  ix : ∀ j, p.st i t ≤ j → j < p.st i t + p.ln i t → p.mv (j + 1) = t + 1
  k1 : (p.f (p.st i t)).k = 1
theorem sub_all {p : Pth} (h : p.chk = 0) : ∀ i, i ≤ p.n → ∀ t, t < p.mv i → SubOK p i t
  | 0, _, t, ht => absurd ht (Nat.not_lt_zero _)
  | i + 1, hi, t, ht => by
    have ih := sub_all h i (by omega)
    have hm : p.mv (i + 1) = p.mv i + if (p.f i).k = 1 then 1 else 0 := rfl
    have es : ∀ t, p.st (i + 1) t = if (p.f i).k = 1 ∧ t = p.mv i then i else p.st i t := fun _ => rfl
    have el : ∀ t, p.ln (i + 1) t = if t + 1 = p.mv (i + 1) then (if (p.f i).k = 1 then 1 else p.ln i t + 1) else p.ln i t := fun _ => rfl
    by_cases hk : (p.f i).k = 1
    · rw [if_pos hk] at hm
      have es' : ∀ t, t ≠ p.mv i → p.st (i + 1) t = p.st i t := fun t ht => by rw [es, if_neg (fun hc => ht hc.2)]
      have eT : p.st (i + 1) (p.mv i) = i := by rw [es, if_pos ⟨hk, rfl⟩]
      have el' : ∀ t, t ≠ p.mv i → p.ln (i + 1) t = p.ln i t := fun t ht => by rw [el, if_neg (by omega)]
      have lT : p.ln (i + 1) (p.mv i) = 1 := by rw [el, if_pos (by omega), if_pos hk]
      by_cases hT : t = p.mv i
      · subst hT
        refine ⟨fun h => by omega, fun _ => by rw [eT, lT], fun h0 => ?_, by rw [lT]; exact Nat.le_refl _, fun j h1 h2 => ?_, by rw [eT]; exact hk⟩
        · rw [eT]
          refine Classical.byContradiction fun hc => ?_
          have := mv_pos h i (by omega) (by omega)
          omega
        · rw [eT] at h1 h2
          rw [lT] at h2
          rw [show j = i by omega, hm]
      · have o := ih t (by omega)
        refine ⟨fun h => ?_, fun h => by omega, fun h0 => by rw [es' t hT]; exact o.z h0, by rw [el' t hT]; exact o.pos, fun j h1 h2 => ?_, by rw [es' t hT]; exact o.k1⟩
        · rw [es' t hT, el' t hT]
          by_cases h2 : t + 1 = p.mv i
          · rw [h2, eT]; exact o.la h2
          · rw [es' (t + 1) h2]; exact o.nx (by omega)
        · rw [es' t hT] at h1 h2
          rw [el' t hT] at h2
          exact o.ix j h1 h2
    · rw [if_neg hk] at hm
      have es' : ∀ t, p.st (i + 1) t = p.st i t := fun t => by rw [es, if_neg (fun hc => hk hc.1)]
      have o := ih t (by omega)
      rw [Nat.add_zero] at hm
      by_cases hT : t + 1 = p.mv i
      · have lT : p.ln (i + 1) t = p.ln i t + 1 := by rw [el, if_pos (by omega), if_neg hk]
        have hla := o.la hT
        refine ⟨fun h => by omega, fun _ => by rw [es', lT]; omega, fun h0 => by rw [es']; exact o.z h0, by rw [lT]; omega, fun j h1 h2 => ?_, by rw [es']; exact o.k1⟩
        rw [es'] at h1 h2
        rw [lT] at h2
        by_cases hj : j = i
        · rw [hj, hm]; exact hT.symm
        · exact o.ix j h1 (by omega)
      · have lT : p.ln (i + 1) t = p.ln i t := by rw [el, if_neg (by omega)]
        refine ⟨fun h => by rw [es', es', lT]; exact o.nx (by omega), fun h => by omega, fun h0 => by rw [es']; exact o.z h0, by rw [lT]; exact o.pos, fun j h1 h2 => ?_, by rw [es']; exact o.k1⟩
        rw [es'] at h1 h2
        rw [lT] at h2
        exact o.ix j h1 h2
/-! The reversed path. -/
def pA (p : Pth) (t : Nat) : Nat := p.st p.n t
def pL (p : Pth) (t : Nat) : Nat := p.ln p.n t
def pC (p : Pth) (t : Nat) : Bool := decide ((p.f (pA p t + (pL p t - 1))).k = 4)
def pM (p : Pth) (t : Nat) : Nat := if pC p t = true then pL p t - 1 else pL p t
def rvA (p : Pth) (a m r : Nat) : Seg := if r = 0 then ⟨1, (p.f (a + (m - 1))).x, (p.f (a + (m - 1))).y, 0, 0, 0⟩
  else if r < m then ⟨(p.f (a + (m - r))).k, (p.f (a + (m - r - 1))).x, (p.f (a + (m - r - 1))).y, (p.f (a + (m - r))).u, (p.f (a + (m - r))).v, (p.f (a + (m - r))).w⟩ else ⟨4, 0, 0, 0, 0, 0⟩
def rv (p : Pth) (j : Nat) : Seg := rvA p (pA p (p.mv (j + 1) - 1)) (pM p (p.mv (j + 1) - 1)) (j - pA p (p.mv (j + 1) - 1))
def pB (p : Pth) (t : Nat) : Nat := if t < p.mv p.n then pA p t else p.n
def rvO (p : Pth) : Pth := ⟨if p.chk = 0 then p.n else 0, rv p⟩
def rowR (p : Pth) (len : Nat) : SO := .row 0 len 6 (fun j => lst (segL (rv p j))) 32
def prT (p : Pth) (t : Nat) : List (Nat × SV) := [(5, .osl 0 0), (21, subS p p.n), (22, .int .i64 (p.mv p.n)), (23, .int .i64 t)]
def prOut (p : Pth) : Inv := ⟨Nat, fun t => t ≤ p.mv p.n, fun t => ⟨prT p t, [rowR p (pB p t)]⟩, fun t => p.mv p.n - t⟩
def prS (p : Pth) (t : Nat) : List (Nat × SV) := prT p t ++ [(7, .sl (pL p t) 6 (fun i => lst (segL (p.f (pA p t + i))))), (8, .int .i64 (pM p t)), (9, .bool (pC p t))]
def prCut (p : Pth) (t : Nat) : Inv := ⟨Unit, fun _ => True, fun _ => ⟨prS p t, [rowR p (pB p t)]⟩, fun _ => 0⟩
def prIn (p : Pth) (t : Nat) : Inv := ⟨Nat, fun i => i < pM p t, fun i => ⟨(10, .int .i64 i) :: prS p t, [rowR p (pA p t + (pM p t - i))]⟩, fun i => i⟩
theorem st_le {p : Pth} : ∀ i t, p.st i t ≤ i
  | 0, _ => Nat.le_refl _
  | i + 1, t => by
    show (if (p.f i).k = 1 ∧ t = p.mv i then i else p.st i t) ≤ i + 1
    have := st_le (p := p) i t
    split <;> omega
theorem mv_le {p : Pth} : ∀ i, p.mv i ≤ i
  | 0 => Nat.le_refl _
  | i + 1 => by
    show p.mv i + (if (p.f i).k = 1 then 1 else 0) ≤ i + 1
    have := mv_le (p := p) i
    split <;> omega
theorem pB_le (p : Pth) (t : Nat) : pB p t ≤ p.n := by
  unfold pB
  split
  · exact st_le _ _
  · exact Nat.le_refl _
structure SubAt (p : Pth) (t : Nat) : Prop where
  l1 : 1 ≤ pL p t
  m1 : 1 ≤ pM p t
  ml : pM p t ≤ pL p t
  nx : pA p t + pL p t = pB p (t + 1)
  at' : pB p t = pA p t
  c1 : pC p t = true → pM p t + 1 = pL p t
  c0 : pC p t = false → pM p t = pL p t
  rv' : ∀ r, r < pL p t → rv p (pA p t + r) = rvA p (pA p t) (pM p t) r
  mv' : ∀ r, r < pL p t → p.mv (pA p t + r + 1) = t + 1
  k1 : (p.f (pA p t)).k = 1
theorem sub_at {p : Pth} (h : p.chk = 0) {t : Nat} (ht : t < p.mv p.n) : SubAt p t := by
  have o := sub_all h p.n (Nat.le_refl _) t ht
  have l1 : 1 ≤ pL p t := o.pos
  have nx : pA p t + pL p t = pB p (t + 1) := by
    unfold pB
    by_cases h1 : t + 1 < p.mv p.n
    · rw [if_pos h1]; exact o.nx h1
    · rw [if_neg h1]; exact o.la (by omega)
  have hc : pC p t = true → 2 ≤ pL p t := fun hc => by
    refine Classical.byContradiction fun h2 => ?_
    have h4 := of_decide_eq_true hc
    rw [show pA p t + (pL p t - 1) = p.st p.n t by show p.st p.n t + _ = _; omega] at h4
    rw [o.k1] at h4
    exact absurd h4 (by decide)
  have mv' : ∀ r, r < pL p t → p.mv (pA p t + r + 1) = t + 1 := fun r hr => o.ix (pA p t + r) (Nat.le_add_right _ _) (Nat.add_lt_add_left hr _)
  refine ⟨l1, ?_, ?_, nx, if_pos ht, fun h1 => ?_, fun h0 => ?_, fun r hr => ?_, mv', o.k1⟩
  · unfold pM; split
    · next hcc => have := hc hcc; omega
    · exact l1
  · unfold pM; split <;> omega
  · unfold pM; rw [if_pos h1]; have := hc h1; omega
  · unfold pM; rw [if_neg (by rw [h0]; decide)]
  · unfold rv
    rw [mv' r hr, Nat.add_sub_cancel, Nat.add_sub_cancel_left]
end Go.Proofs.YthappngbapbkfaaDoor.Prv
