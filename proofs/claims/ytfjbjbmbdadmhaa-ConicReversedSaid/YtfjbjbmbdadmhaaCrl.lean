/- Plain law of ConicReversed: the lines of a reversed path are the reversed lines. -/
import Derived.Test.YtfjbjbmbdadmhaaPrw
import Derived.Test.YtfjbjbmbdadmhaaFlt
set_option linter.unusedSimpArgs false
set_option linter.unusedVariables false
namespace Go.Proofs.Ytfjbjbmbdadmhaa.Crl
open Num Con Cop Coh Pth Prv Prw Flt
/-! Curves. -/
def rc (c : Cur) : Cur := ⟨c.x2, c.y2, c.x1, c.y1, c.x0, c.y0, c.w⟩
theorem atC_rev (x0 x1 x2 w k n : Int) : atC x2 x1 x0 w k n = atC x0 x1 x2 w (n - k) n := by
  unfold atC sumC
  have e : n - (n - k) = k := by omega
  rw [e]
  congr 1 <;> grind
theorem at_rev (c : Cur) (k n : Int) : (rc c).at k n = c.at (n - k) n := by
  show Pt.mk (atC c.x2 c.x1 c.x0 c.w k n) (atC c.y2 c.y1 c.y0 c.w k n) = Pt.mk _ _
  rw [atC_rev c.x0, atC_rev c.y0]
theorem aI_neg (x : Int) : aI (-x) = aI x := by unfold aI; split <;> split <;> omega
theorem near_rev (a m b : Pt) : nearP ⟨b, m, a⟩ ↔ nearP ⟨a, m, b⟩ := by
  have e : (a.x - b.x) * (m.y - b.y) - (a.y - b.y) * (m.x - b.x) = -((b.x - a.x) * (m.y - a.y) - (b.y - a.y) * (m.x - a.x)) := by grind
  have e1 : aI (a.x - b.x) = aI (b.x - a.x) := by rw [← aI_neg]; congr 1; omega
  have e2 : aI (a.y - b.y) = aI (b.y - a.y) := by rw [← aI_neg]; congr 1; omega
  unfold nearP
  simp only
  rw [e, aI_neg, e1, e2, Int.min_comm b.x, Int.min_comm b.y, Int.max_comm b.x, Int.max_comm b.y]
theorem mid_rev (c : Cur) (n k : Int) : midP (rc c) n k ↔ midP c n (n - 1 - k) := by
  unfold midP
  rw [at_rev, at_rev, at_rev, show n - 1 - k + 1 = n - k by omega, show 2 * n - (2 * k + 1) = 2 * (n - 1 - k) + 1 by omega, show n - (k + 1) = n - 1 - k by omega]
  exact near_rev _ _ _
theorem flat_rev (c : Cur) (n : Int) : flatB (rc c) n = flatB c n := by
  rw [Bool.eq_iff_iff, flatB_iff, flatB_iff]
  constructor
  · intro h k hk
    have := (mid_rev c n ((n.toNat - 1 - k : Nat) : Int)).1 (h (n.toNat - 1 - k) (by omega))
    rwa [show n - 1 - ((n.toNat - 1 - k : Nat) : Int) = k by omega] at this
  · intro h k hk
    have := h (n.toNat - 1 - k) (by omega)
    rw [show ((n.toNat - 1 - k : Nat) : Int) = n - 1 - k by omega] at this
    exact (mid_rev c n k).2 this
theorem divF_rev (c : Cur) : ∀ (f : Nat) (n : Int), divF f (rc c) n = divF f c n
  | 0, _ => rfl
  | f + 1, n => by
    show (if n < 512 then bif flatB (rc c) n then n else divF f (rc c) (n * 2) else n) = _
    rw [flat_rev, divF_rev c f]
    rfl
theorem div_rev (c : Cur) : divN (rc c) = divN c := divF_rev c 9 1
theorem nr_mul {x s : Int} (h : 0 < s) : nr (s * x) s = x := by
  unfold nr
  rw [Int.mul_ediv_cancel_left _ (by omega), Int.mul_comm x s, Int.sub_self, Int.sub_zero, if_neg (by omega)]
theorem at_0 {c : Cur} {n : Int} (hn : 1 ≤ n) : c.at 0 n = ⟨c.x0, c.y0⟩ := by
  have hp : 0 < 256 * n * n := Int.mul_pos (by omega) (by omega)
  have key : ∀ x0 x1 x2, atC x0 x1 x2 c.w 0 n = x0 := fun x0 x1 x2 => by
    unfold atC sumC
    have e1 : 256 * (n - 0) * (n - 0) * x0 + 2 * 0 * (n - 0) * c.w * x1 + 256 * 0 * 0 * x2 = (256 * n * n) * x0 := by grind
    have e2 : 256 * (n - 0) * (n - 0) + 2 * 0 * (n - 0) * c.w + 256 * 0 * 0 = 256 * n * n := by grind
    rw [e1, e2]
    exact nr_mul hp
  show Pt.mk _ _ = _
  rw [key, key]
theorem at_n {c : Cur} {n : Int} (hn : 1 ≤ n) : c.at n n = ⟨c.x2, c.y2⟩ := by
  have := at_0 (c := rc c) hn
  rw [at_rev, Int.sub_zero] at this
  exact this
/-! Segments. -/
def rg (g : PsG) : PsG := ⟨⟨g.s.x, g.s.y⟩, ⟨g.s.k, g.p.x, g.p.y, g.s.u, g.s.v, g.s.w⟩⟩
def full (g : PsG) : List Pt := g.p :: ptsOf g
theorem rg_n (g : PsG) : (rg g).n = g.n := by
  show (if g.s.k = 2 then 1 else divN (rc g.cur)) = if g.s.k = 2 then 1 else divN g.cur
  rw [div_rev]
/-- Point i of a segment, its first one counted. -/
def fp (g : PsG) (i : Nat) : Pt := if g.s.k = 2 then (if i = 0 then g.p else ⟨g.s.x, g.s.y⟩) else g.cur.at i (divN g.cur)
theorem full_fp (g : PsG) : full g = (List.range (g.n.toNat + 1)).map (fp g) := by
  have hn := n_le g
  refine List.ext_getElem (by simp [full, ptsOf]) fun i h1 h2 => ?_
  rw [List.getElem_map, List.getElem_range]
  cases i with
  | zero =>
    show g.p = fp g 0
    unfold fp
    by_cases hk : g.s.k = 2
    · rw [if_pos hk, if_pos rfl]
    · rw [if_neg hk]
      have hd : g.n = divN g.cur := if_neg hk
      have := at_0 (c := g.cur) (n := divN g.cur) (by omega)
      show g.p = g.cur.at 0 _
      rw [this]
      rfl
  | succ i =>
    have e : (full g)[i + 1] = g.pt i := by
      show (ptsOf g)[i]'_ = _
      simp [ptsOf]
    rw [e]
    unfold fp PsG.pt
    by_cases hk : g.s.k = 2
    · rw [if_pos hk, if_pos hk, if_neg (by omega)]
    · rw [if_neg hk, if_neg hk]; rfl
theorem fp_rev (g : PsG) {i : Nat} (hi : i ≤ g.n.toNat) : fp (rg g) i = fp g (g.n.toNat - i) := by
  have hn := n_le g
  unfold fp
  show (if g.s.k = 2 then (if i = 0 then Pt.mk g.s.x g.s.y else g.p) else (rc g.cur).at i (divN (rc g.cur))) = _
  by_cases hk : g.s.k = 2
  · have hd : g.n = 1 := if_pos hk
    rw [if_pos hk, if_pos hk]
    by_cases h0 : i = 0
    · rw [if_pos h0, if_neg (by omega)]
    · rw [if_neg h0, if_pos (by omega)]
  · have hd : g.n = divN g.cur := if_neg hk
    rw [if_neg hk, if_neg hk, div_rev, at_rev]
    congr 1
    omega
theorem full_rev (g : PsG) : (full g).reverse = full (rg g) := by
  rw [full_fp, full_fp, rg_n]
  refine List.ext_getElem (by simp) fun i h1 h2 => ?_
  have hi : i < g.n.toNat + 1 := by simpa using h2
  rw [List.getElem_reverse, List.getElem_map, List.getElem_map, List.getElem_range, List.getElem_range, fp_rev g (by omega)]
  congr 1
  simp
/-! Chains. -/
def tc (Q : Pth) (i : Nat) : Nat → List Pt
  | 0 => []
  | d + 1 => tc Q i d ++ ptsOf (qps Q (i + d))
theorem tc_head (Q : Pth) (i : Nat) : ∀ d, tc Q i (d + 1) = ptsOf (qps Q i) ++ tc Q (i + 1) d
  | 0 => by
    show [] ++ ptsOf (qps Q (i + 0)) = ptsOf (qps Q i) ++ []
    rw [List.nil_append, List.append_nil, Nat.add_zero]
  | d + 1 => by
    show tc Q i (d + 1) ++ ptsOf (qps Q (i + (d + 1))) = ptsOf (qps Q i) ++ (tc Q (i + 1) d ++ ptsOf (qps Q (i + 1 + d)))
    rw [tc_head Q i d, List.append_assoc, show i + (d + 1) = i + 1 + d by omega]
theorem tc_qpp {Q : Pth} : ∀ j, (∀ r, 0 < r → r ≤ j → (Q.f r).k ≠ 4) → qpp Q j = qpt Q 0 :: tc Q 0 j
  | 0, _ => rfl
  | j + 1, h => by
    show qpp Q j ++ (if (Q.f (j + 1)).k = 4 then [] else ptsOf (qps Q j)) = qpt Q 0 :: (tc Q 0 j ++ ptsOf (qps Q (0 + j)))
    rw [if_neg (h (j + 1) (by omega) (by omega)), tc_qpp j fun r h1 h2 => h r h1 (by omega), Nat.zero_add]
    rfl
theorem tc_rev {Q Q' : Pth} {M : Nat} (h : ∀ r, r < M → qps Q' (M - 1 - r) = rg (qps Q r)) (hp : ∀ r, r ≤ M → qpt Q' (M - r) = qpt Q r) : ∀ j, j ≤ M → (qpt Q 0 :: tc Q 0 j).reverse = qpt Q' (M - j) :: tc Q' (M - j) j
  | 0, _ => by
    rw [hp 0 (by omega)]
    rfl
  | j + 1, hj => by
    have ih := tc_rev h hp j (by omega)
    have hf := full_rev (qps Q j)
    rw [← h j (by omega)] at hf
    have e1 : (full (qps Q j)).reverse = (ptsOf (qps Q j)).reverse ++ [qpt Q j] := by
      show (qpt Q j :: ptsOf (qps Q j)).reverse = _
      rw [List.reverse_cons]
    have e2 : full (qps Q' (M - 1 - j)) = qpt Q' (M - 1 - j) :: ptsOf (qps Q' (M - 1 - j)) := rfl
    rw [e1, e2] at hf
    show (qpt Q 0 :: (tc Q 0 j ++ ptsOf (qps Q (0 + j)))).reverse = _
    rw [Nat.zero_add, ← List.cons_append, List.reverse_append, ih, hp j (by omega), show M - (j + 1) = M - 1 - j by omega, tc_head, show M - 1 - j + 1 = M - j by omega]
    have : (ptsOf (qps Q j)).reverse ++ qpt Q j :: tc Q' (M - j) j = ((ptsOf (qps Q j)).reverse ++ [qpt Q j]) ++ tc Q' (M - j) j := by rw [List.append_assoc]; rfl
    rw [this, hf]
    rfl
/-! Reversed paths. -/
section
variable {p : Pth} (h : p.chk = 0)
include h
theorem line_tc {t : Nat} (ht : t < p.mv p.n) : qline (pat p t) = qpt (pat p t) 0 :: tc (pat p t) 0 (pM p t - 1) := by
  have o := sub_at h ht
  have l1 := o.l1; have m1 := o.m1
  have k4 : ∀ r, 0 < r → r ≤ pM p t - 1 → ((pat p t).f r).k ≠ 4 := fun r h1 h2 => by
    have := kind h ht (r := r) h1 (by omega)
    show (p.f (pA p t + r)).k ≠ 4
    omega
  rw [← tc_qpp _ k4]
  show qpp (pat p t) (pL p t - 1) = _
  cases hc : pC p t with
  | false => rw [o.c0 hc]
  | true =>
    have e := o.c1 hc
    have h4 : ((pat p t).f (pM p t - 1 + 1)).k = 4 := by
      have := close4 h ht (by omega)
      show (p.f (pA p t + (pM p t - 1 + 1))).k = 4
      rwa [show pM p t - 1 + 1 = pM p t by omega]
    rw [show pL p t - 1 = (pM p t - 1) + 1 by omega]
    show qpp (pat p t) (pM p t - 1) ++ (if ((pat p t).f (pM p t - 1 + 1)).k = 4 then [] else _) = _
    rw [if_pos h4, List.append_nil]
theorem rev_pt {t : Nat} (ht : t < p.mv p.n) {r : Nat} (hr : r ≤ pM p t - 1) : qpt (pat (rp p) t) (pM p t - 1 - r) = qpt (pat p t) r := by
  have o := sub_at h ht
  have m1 := o.m1; have ml := o.ml
  have e : (pat (rp p) t).f (pM p t - 1 - r) = rvA p (pA p t) (pM p t) (pM p t - 1 - r) := by
    show rv p (pA (rp p) t + _) = _
    rw [q_A h]
    exact rv_at h ht (by omega)
  unfold qpt
  rw [e]
  unfold rvA
  by_cases h0 : pM p t - 1 - r = 0
  · rw [if_pos h0]
    show Pt.mk (p.f (pA p t + (pM p t - 1))).x _ = Pt.mk (p.f (pA p t + r)).x _
    rw [show pM p t - 1 = r by omega]
    rfl
  · rw [if_neg h0, if_pos (by omega)]
    show Pt.mk (p.f (pA p t + (pM p t - (pM p t - 1 - r) - 1))).x _ = Pt.mk (p.f (pA p t + r)).x _
    rw [show pM p t - (pM p t - 1 - r) - 1 = r by omega]
    rfl
theorem rev_ps {t : Nat} (ht : t < p.mv p.n) {r : Nat} (hr : r < pM p t - 1) : qps (pat (rp p) t) (pM p t - 1 - 1 - r) = rg (qps (pat p t) r) := by
  have o := sub_at h ht
  have m1 := o.m1; have ml := o.ml
  have e : (pat (rp p) t).f (pM p t - 1 - 1 - r + 1) = rvA p (pA p t) (pM p t) (pM p t - 1 - 1 - r + 1) := by
    show rv p (pA (rp p) t + _) = _
    rw [q_A h]
    exact rv_at h ht (by omega)
  have e1 := rev_pt h ht (r := r + 1) (by omega)
  rw [show pM p t - 1 - (r + 1) = pM p t - 1 - 1 - r by omega] at e1
  unfold qps
  rw [e1, e]
  unfold rvA
  rw [if_neg (by omega), if_pos (by omega), show pM p t - (pM p t - 1 - 1 - r + 1) = r + 1 by omega, show r + 1 - 1 = r by omega]
  rfl
theorem line_rev {t : Nat} (ht : t < p.mv p.n) : qline (pat (rp p) t) = (qline (pat p t)).reverse := by
  have hq := q_chk h
  have ht' : t < (rp p).mv (rp p).n := by
    show t < (rp p).mv p.n
    rw [q_mv h p.n (Nat.le_refl _)]; exact ht
  rw [line_tc h ht, line_tc hq ht', q_M h ht, tc_rev (M := pM p t - 1) (fun r hr => rev_ps h ht hr) (fun r hr => rev_pt h ht hr) _ (Nat.le_refl _), Nat.sub_self]
theorem shut_rev {t : Nat} (ht : t < p.mv p.n) : qshut (pat (rp p) t) = qshut (pat p t) := by
  have e1 : qshut (pat (rp p) t) = pC (rp p) t := rfl
  have e2 : qshut (pat p t) = pC p t := rfl
  rw [e1, e2, q_C h ht]
theorem mv_rev : (rp p).mv (rp p).n = p.mv p.n := q_mv h p.n (Nat.le_refl _)
end
theorem gp_rev (l : List Pt) {i : Nat} (hi : i < l.length) : gp l.reverse i = gp l (l.length - 1 - i) := by
  unfold gp
  rw [List.getD_eq_getElem?_getD, List.getD_eq_getElem?_getD, List.getElem?_reverse hi]
end Go.Proofs.Ytfjbjbmbdadmhaa.Crl
