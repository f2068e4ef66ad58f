/- conic.Flatten, by the evaluation. -/
import Derived.Test.YthappngbapbkfaaDoorPth
set_option linter.unusedSimpArgs false
set_option linter.unusedVariables false
namespace Go.Proofs.YthappngbapbkfaaDoor.Flt
open Go.RowKit Sx Num Aff Con Cop Coh Pth
set_option maxRecDepth 100000
def qpt (q : Pth) (j : Nat) : Pt := ⟨(q.f j).x, (q.f j).y⟩
def qps (q : Pth) (j : Nat) : PsG := ⟨qpt q j, q.f (j + 1)⟩
def ptsOf (g : PsG) : List Pt := (List.range g.n.toNat).map fun i => g.pt (i : Nat)
/-- The points of a subpath behind its first j + 1 segments. -/
def qpp (q : Pth) : Nat → List Pt
  | 0 => [qpt q 0]
  | j + 1 => qpp q j ++ if (q.f (j + 1)).k = 4 then [] else ptsOf (qps q j)
def qline (q : Pth) : List Pt := qpp q (q.n - 1)
def qshut (q : Pth) : Bool := decide ((q.f (q.n - 1)).k = 4)
def gp (l : List Pt) (i : Nat) : Pt := l.getD i ⟨0, 0⟩
def lnS (l : List Pt) : SV := .sl l.length 2 (fun i => lst (ptL (gp l i)))
def liL (q : Pth) : List SV := [lnS (qline q), .bool (qshut q)]
def pat (p : Pth) (t : Nat) : Pth := p.sub p.n t
def linesS (p : Pth) (m : Nat) : SV := .sl m 2 (fun t => lst (liL (pat p t)))
/-! What is known of subpaths. -/
theorem sub_inv {p : Pth} (h : p.chk = 0) : ∀ i, i ≤ p.n → ∀ t, t < p.mv i → 1 ≤ p.ln i t ∧ p.st i t + p.ln i t ≤ i ∧ (p.f (p.st i t)).k = 1 ∧ ∀ j, 0 < j → j < p.ln i t → (p.f (p.st i t + j)).k ≠ 1
  | 0, _, t, ht => by unfold Pth.mv at ht; omega
  | i + 1, hi, t, ht => by
    have hm : p.mv (i + 1) = p.mv i + if (p.f i).k = 1 then 1 else 0 := rfl
    have hl : p.ln (i + 1) t = if t + 1 = p.mv (i + 1) then (if (p.f i).k = 1 then 1 else p.ln i t + 1) else p.ln i t := rfl
    have hs : p.st (i + 1) t = if (p.f i).k = 1 ∧ t = p.mv i then i else p.st i t := rfl
    by_cases hk : (p.f i).k = 1
    · rw [if_pos hk] at hm
      by_cases e : t = p.mv i
      · rw [if_pos (by omega), if_pos hk] at hl
        rw [if_pos ⟨hk, e⟩] at hs
        rw [hl, hs]
        exact ⟨by omega, by omega, hk, fun j h1 h2 => by omega⟩
      · rw [if_neg (by omega)] at hl
        rw [if_neg fun hc => e hc.2] at hs
        rw [hl, hs]
        obtain ⟨a, b, c, d⟩ := sub_inv h i (by omega) t (by omega)
        exact ⟨a, by omega, c, d⟩
    · rw [if_neg hk] at hm
      rw [if_neg fun hc => hk hc.1] at hs
      obtain ⟨a, b, c, d⟩ := sub_inv h i (by omega) t (by omega)
      by_cases e : t + 1 = p.mv (i + 1)
      · rw [if_pos e, if_neg hk] at hl
        have e2 := st_ln h i (by omega) t (by omega)
        rw [hl, hs]
        refine ⟨by omega, by omega, c, fun j h1 h2 => ?_⟩
        by_cases hj : j < p.ln i t
        · exact d j h1 hj
        · have : p.st i t + j = i := by omega
          rw [this]
          exact hk
      · rw [if_neg e] at hl
        rw [hl, hs]
        exact ⟨a, by omega, c, d⟩
structure SubOk (q : Pth) : Prop where
  n1 : 1 ≤ q.n
  n2 : q.n ≤ 1000
  k0 : (q.f 0).k = 1
  kk : ∀ j, 0 < j → j < q.n → (2 ≤ (q.f j).k ∧ (q.f j).k ≤ 4) ∧ ((q.f j).k = 4 → j + 1 = q.n)
  ok : ∀ j, j < q.n → segE (q.f j) = 0
theorem sub_ok {p : Pth} (h : p.chk = 0) {t : Nat} (ht : t < p.mv p.n) : SubOk (pat p t) := by
  obtain ⟨a, b, c, d⟩ := sub_inv h p.n (Nat.le_refl _) t ht
  have hn := (chk_0.1 h).1
  refine ⟨a, (show p.ln p.n t ≤ 1000 by omega), c, fun j h1 h2 => ?_, fun j hj => ?_⟩
  · have h2' : j < p.ln p.n t := h2
    obtain ⟨s1, s2, s3⟩ := seg_ok h (i := p.st p.n t + j) (by omega)
    have s4 := d j h1 h2'
    refine ⟨⟨?_, s1.2⟩, fun h4 => ?_⟩
    · show 2 ≤ (p.f (p.st p.n t + j)).k
      omega
    · refine Classical.byContradiction fun hc => ?_
      have hc' : ¬ j + 1 = p.ln p.n t := hc
      obtain ⟨_, s5, _⟩ := seg_ok h (i := p.st p.n t + (j + 1)) (by omega)
      exact d (j + 1) (by omega) (by omega) (s5 (.inr h4))
  · have hj' : j < p.ln p.n t := hj
    exact (seg_ok h (i := p.st p.n t + j) (by omega)).2.2
theorem seg_in {s : Seg} (h : segE s = 0) (hk : s.k ≠ 4) : (inC s.x ∧ inC s.y ∧ inC s.u ∧ inC s.v) ∧ (s.k = 3 → 16 ≤ s.w ∧ s.w ≤ 4096) := by
  have hb : s.inB = 0 → inC s.x ∧ inC s.y ∧ inC s.u ∧ inC s.v := fun e => by
    unfold Seg.inB at e
    split at e
    · assumption
    · omega
  unfold segE at h
  split at h
  · rename_i h1
    split at h
    · exact ⟨hb h, fun h3 => by omega⟩
    · omega
  · split at h
    · split at h
      · omega
      · exact ⟨hb h, fun _ => by omega⟩
    · omega
theorem ps_ok {q : Pth} (h : SubOk q) {j : Nat} (hj : j + 1 < q.n) (h4 : (q.f (j + 1)).k ≠ 4) : (qps q j).ok := by
  have k1 := h.kk (j + 1) (by omega) hj
  have k0 : (q.f j).k ≠ 4 := by
    by_cases e : j = 0
    · subst e
      rw [h.k0]
      decide
    · intro hc
      have := (h.kk j (by omega) (by omega)).2 hc
      omega
  obtain ⟨⟨a1, a2, _⟩, _⟩ := seg_in (h.ok j (by omega)) k0
  obtain ⟨⟨b1, b2, b3, b4⟩, b5⟩ := seg_in (h.ok (j + 1) hj) h4
  by_cases e : (q.f (j + 1)).k = 2
  · exact .inl e
  · have e3 : (q.f (j + 1)).k = 3 := by omega
    exact .inr ⟨e3, ⟨⟨a1, a2⟩, b3, b4⟩, ⟨b1, b2⟩, b5 e3⟩
theorem n_le (g : PsG) : 1 ≤ g.n ∧ g.n ≤ 512 := by
  unfold PsG.n
  split
  · decide
  · exact divF_range _ 9 1 (by decide) (by decide)
theorem ptsOf_len (g : PsG) : (ptsOf g).length = g.n.toNat := by simp [ptsOf]
theorem gp_pts (g : PsG) {i : Nat} (h : i < g.n.toNat) : gp (ptsOf g) i = g.pt (i : Nat) := by
  unfold gp ptsOf
  rw [List.getD_eq_getElem?_getD, List.getElem?_map, List.getElem?_range h]
  rfl
theorem gp_app (a b : List Pt) (i : Nat) : gp (a ++ b) i = if i < a.length then gp a i else gp b (i - a.length) := by
  unfold gp
  rw [List.getD_eq_getElem?_getD, List.getD_eq_getElem?_getD, List.getD_eq_getElem?_getD]
  split
  · rename_i h; rw [List.getElem?_append_left h]
  · rename_i h; rw [List.getElem?_append_right (by omega)]
theorem qpp_len (q : Pth) : ∀ j, 1 ≤ (qpp q j).length ∧ (qpp q j).length ≤ 1 + 512 * j
  | 0 => ⟨Nat.le_refl 1, Nat.le_refl 1⟩
  | j + 1 => by
    have h := qpp_len q j
    have hn := n_le (qps q j)
    show 1 ≤ (qpp q j ++ _).length ∧ (qpp q j ++ _).length ≤ 1 + 512 * (j + 1)
    rw [List.length_append]
    split
    · simp only [List.length_nil]; omega
    · rw [ptsOf_len]; omega
def tmpF (p : Pth) (t : Int) : List (Nat × SV) := [(5, .osl 0 0), (18, subS p p.n), (19, .int .i64 (p.mv p.n)), (20, .int .i64 t)]
end Go.Proofs.YthappngbapbkfaaDoor.Flt
