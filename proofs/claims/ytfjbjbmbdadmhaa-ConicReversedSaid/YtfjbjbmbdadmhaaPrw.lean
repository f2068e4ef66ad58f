/- Reversed paths: valid, reversed twice the same, the same bounds (plain law). -/
import Derived.Test.YtfjbjbmbdadmhaaPrv
import Derived.Test.YtfjbjbmbdadmhaaPbo
set_option linter.unusedSimpArgs false
set_option linter.unusedVariables false
namespace Go.Proofs.Ytfjbjbmbdadmhaa.Prw
open Con Cop Coh Pth Prv Pbo
/-! Every segment lies in a subpath. -/
theorem cover {p : Pth} (h : p.chk = 0) : ∀ i, i ≤ p.n → ∀ j, j < i → ∃ t, t < p.mv i ∧ p.st i t ≤ j ∧ j < p.st i t + p.ln i t
  | 0, _, j, hj => absurd hj (Nat.not_lt_zero _)
  | i + 1, hi, j, hj => by
    have ih := cover h i (by omega)
    have hm : p.mv (i + 1) = p.mv i + if (p.f i).k = 1 then 1 else 0 := rfl
    have es : ∀ t, p.st (i + 1) t = if (p.f i).k = 1 ∧ t = p.mv i then i else p.st i t := fun _ => rfl
    have el : ∀ t, p.ln (i + 1) t = if t + 1 = p.mv (i + 1) then (if (p.f i).k = 1 then 1 else p.ln i t + 1) else p.ln i t := fun _ => rfl
    by_cases hk : (p.f i).k = 1
    · rw [if_pos hk] at hm
      by_cases hji : j = i
      · refine ⟨p.mv i, by omega, ?_, ?_⟩
        · rw [es, if_pos ⟨hk, rfl⟩]; omega
        · rw [es, if_pos ⟨hk, rfl⟩, el, if_pos (by omega), if_pos hk]; omega
      · obtain ⟨t, h1, h2, h3⟩ := ih j (by omega)
        refine ⟨t, by omega, ?_, ?_⟩
        · rw [es, if_neg (fun hc => by omega)]; exact h2
        · rw [es, if_neg (fun hc => by omega), el, if_neg (by omega)]; exact h3
    · rw [if_neg hk, Nat.add_zero] at hm
      have es' : ∀ t, p.st (i + 1) t = p.st i t := fun t => by rw [es, if_neg (fun hc => hk hc.1)]
      have i0 : 0 < i := by
        refine Nat.pos_of_ne_zero fun h0 => hk ?_
        rw [h0]
        exact (seg_ok h (i := 0) (by omega)).2.1 (.inl rfl)
      have hm1 := mv_pos h i i0 (by omega)
      by_cases hji : j = i
      · have o := sub_all h i (by omega) (p.mv i - 1) (by omega)
        have hla := o.la (by omega)
        refine ⟨p.mv i - 1, by omega, ?_, ?_⟩
        · rw [es']; omega
        · rw [es', el, if_pos (by omega), if_neg hk]; omega
      · obtain ⟨t, h1, h2, h3⟩ := ih j (by omega)
        refine ⟨t, by omega, by rw [es']; exact h2, ?_⟩
        rw [es', el]
        by_cases hT : t + 1 = p.mv (i + 1)
        · rw [if_pos hT, if_neg hk]; omega
        · rw [if_neg hT]; exact h3
/-- Segment j is the r-th of subpath t. -/
theorem place {p : Pth} (h : p.chk = 0) {j : Nat} (hj : j < p.n) : ∃ t r, t < p.mv p.n ∧ r < pL p t ∧ j = pA p t + r := by
  obtain ⟨t, h1, h2, h3⟩ := cover h p.n (Nat.le_refl _) j hj
  have h2 : pA p t ≤ j := h2
  have h3 : j < pA p t + pL p t := h3
  exact ⟨t, j - pA p t, h1, by omega, by omega⟩
theorem in_n {p : Pth} (h : p.chk = 0) {t r : Nat} (ht : t < p.mv p.n) (hr : r < pL p t) : pA p t + r < p.n := by
  have o := sub_at h ht
  have := o.nx
  have := pB_le p (t + 1)
  omega
/-- The kinds within a subpath. -/
theorem kind {p : Pth} (h : p.chk = 0) {t r : Nat} (ht : t < p.mv p.n) (h0 : 0 < r) (hr : r < pM p t) : (p.f (pA p t + r)).k = 2 ∨ (p.f (pA p t + r)).k = 3 := by
  have o := sub_at h ht
  have ml := o.ml
  have hn := in_n h ht (r := r) (by omega)
  obtain ⟨⟨k1, k2⟩, _, _⟩ := seg_ok h hn
  have hm : p.mv (pA p t + r + 1) = p.mv (pA p t + r) + if (p.f (pA p t + r)).k = 1 then 1 else 0 := rfl
  have e1 := o.mv' r (by omega)
  have e2 := o.mv' (r - 1) (by omega)
  rw [show pA p t + (r - 1) + 1 = pA p t + r by omega] at e2
  have n1 : (p.f (pA p t + r)).k ≠ 1 := fun hc => by rw [if_pos hc] at hm; omega
  have n4 : (p.f (pA p t + r)).k ≠ 4 := fun hc => by
    by_cases hl : r + 1 < pL p t
    · have hn2 := in_n h ht hl
      have hk := (seg_ok h hn2).2.1 (.inr (by rw [show pA p t + (r + 1) - 1 = pA p t + r by omega]; exact hc))
      have hm2 : p.mv (pA p t + (r + 1) + 1) = p.mv (pA p t + (r + 1)) + if (p.f (pA p t + (r + 1))).k = 1 then 1 else 0 := rfl
      rw [if_pos hk, o.mv' (r + 1) hl, show pA p t + (r + 1) = pA p t + r + 1 by omega, e1] at hm2
      omega
    · have hc1 : pC p t = true := decide_eq_true (by rw [show pL p t - 1 = r by omega]; exact hc)
      have := o.c1 hc1
      omega
  omega
theorem close4 {p : Pth} (h : p.chk = 0) {t : Nat} (ht : t < p.mv p.n) (hm : pM p t < pL p t) : (p.f (pA p t + pM p t)).k = 4 := by
  have o := sub_at h ht
  cases hc : pC p t with
  | false => have := o.c0 hc; omega
  | true =>
    have e := o.c1 hc
    have := of_decide_eq_true hc
    rw [show pL p t - 1 = pM p t by omega] at this
    exact this
/-- What is known of a valid segment. -/
theorem segE_in {s : Seg} (h : segE s = 0) : s.inB = 0 := by
  unfold segE at h
  repeat' (split at h)
  all_goals first | exact h | exact absurd h (by decide)
theorem inB_iff {s : Seg} : s.inB = 0 ↔ inC s.x ∧ inC s.y ∧ inC s.u ∧ inC s.v := by
  unfold Seg.inB
  by_cases h : inC s.x ∧ inC s.y ∧ inC s.u ∧ inC s.v
  · rw [if_pos h]; exact ⟨fun _ => h, fun _ => rfl⟩
  · rw [if_neg h]; exact ⟨fun hc => absurd hc (by decide), fun hc => absurd hc h⟩
theorem segE_12 {s : Seg} (h : segE s = 0) (hk : s.k = 1 ∨ s.k = 2) : s.u = 0 ∧ s.v = 0 ∧ s.w = 0 := by
  unfold segE at h
  rw [if_pos hk] at h
  by_cases hc : s.u = 0 ∧ s.v = 0 ∧ s.w = 0
  · exact hc
  · rw [if_neg hc] at h; exact absurd h (by decide)
theorem segE_4 {s : Seg} (h : segE s = 0) (hk : s.k = 4) : s.x = 0 ∧ s.y = 0 ∧ s.u = 0 ∧ s.v = 0 ∧ s.w = 0 := by
  unfold segE at h
  rw [if_neg (by omega), if_pos hk] at h
  by_cases hc : s.x = 0 ∧ s.y = 0 ∧ s.u = 0 ∧ s.v = 0 ∧ s.w = 0
  · exact hc
  · rw [if_neg hc] at h; exact absurd h (by decide)
theorem segE_3 {s : Seg} (h : segE s = 0) (hk : s.k = 3) : ¬ (s.w < 16 ∨ 4096 < s.w) := by
  unfold segE at h
  rw [if_neg (by omega), if_neg (by omega), if_pos hk] at h
  intro hc
  rw [if_pos hc] at h
  exact absurd h (by decide)
theorem inC_0 : inC 0 := by unfold inC; decide
/-! The reversed path. -/
theorem rv_at {p : Pth} (h : p.chk = 0) {t r : Nat} (ht : t < p.mv p.n) (hr : r < pL p t) : rv p (pA p t + r) = rvA p (pA p t) (pM p t) r := (sub_at h ht).rv' r hr
theorem rv_kind {p : Pth} (h : p.chk = 0) {t r : Nat} (ht : t < p.mv p.n) (hr : r < pL p t) :
    (r = 0 → (rv p (pA p t + r)).k = 1) ∧ (0 < r → r < pM p t → ((rv p (pA p t + r)).k = 2 ∨ (rv p (pA p t + r)).k = 3)) ∧ (pM p t ≤ r → (rv p (pA p t + r)).k = 4) := by
  have o := sub_at h ht
  have m1 := o.m1
  rw [rv_at h ht hr]
  unfold rvA
  refine ⟨fun h0 => by rw [if_pos h0], fun h0 hm => ?_, fun hm => by rw [if_neg (by omega), if_neg (by omega)]⟩
  rw [if_neg (by omega), if_pos hm]
  exact kind h ht (by omega) (by omega)
theorem rv_k1 {p : Pth} (h : p.chk = 0) {j : Nat} (hj : j < p.n) : (rv p j).k = 1 ↔ (p.f j).k = 1 := by
  obtain ⟨t, r, ht, hr, rfl⟩ := place h hj
  obtain ⟨a1, a2, a3⟩ := rv_kind h ht hr
  have o := sub_at h ht
  have ml := o.ml
  by_cases h0 : r = 0
  · subst h0
    exact ⟨fun _ => o.k1, fun _ => a1 rfl⟩
  · by_cases hm : r < pM p t
    · have b1 := a2 (by omega) hm
      have b2 := kind h ht (by omega) hm
      constructor <;> intro hc <;> omega
    · have b1 := a3 (by omega)
      have b2 := close4 h ht (by omega)
      have : r = pM p t := by
        cases hc : pC p t with
        | false => have := o.c0 hc; omega
        | true => have := o.c1 hc; omega
      subst this
      constructor <;> intro hc <;> omega
theorem mv_congr {p q : Pth} : ∀ i, (∀ j, j < i → ((p.f j).k = 1 ↔ (q.f j).k = 1)) → p.mv i = q.mv i
  | 0, _ => rfl
  | i + 1, h => by
    show p.mv i + (if (p.f i).k = 1 then 1 else 0) = q.mv i + (if (q.f i).k = 1 then 1 else 0)
    rw [mv_congr i (fun j hj => h j (by omega))]
    have := h i (Nat.lt_succ_self i)
    by_cases hc : (p.f i).k = 1
    · rw [if_pos hc, if_pos (this.1 hc)]
    · rw [if_neg hc, if_neg (fun h' => hc (this.2 h'))]
theorem st_congr {p q : Pth} : ∀ i, (∀ j, j < i → ((p.f j).k = 1 ↔ (q.f j).k = 1)) → ∀ t, p.st i t = q.st i t
  | 0, _, _ => rfl
  | i + 1, h, t => by
    show (if (p.f i).k = 1 ∧ t = p.mv i then i else p.st i t) = (if (q.f i).k = 1 ∧ t = q.mv i then i else q.st i t)
    rw [st_congr i (fun j hj => h j (by omega)) t, mv_congr i (fun j hj => h j (by omega))]
    have := h i (Nat.lt_succ_self i)
    by_cases hc : (p.f i).k = 1 ∧ t = q.mv i
    · rw [if_pos hc, if_pos ⟨this.1 hc.1, hc.2⟩]
    · rw [if_neg hc, if_neg (fun h' => hc ⟨this.2 h'.1, h'.2⟩)]
theorem ln_congr {p q : Pth} : ∀ i, (∀ j, j < i → ((p.f j).k = 1 ↔ (q.f j).k = 1)) → ∀ t, p.ln i t = q.ln i t
  | 0, _, _ => rfl
  | i + 1, h, t => by
    show (if t + 1 = p.mv (i + 1) then (if (p.f i).k = 1 then 1 else p.ln i t + 1) else p.ln i t) = (if t + 1 = q.mv (i + 1) then (if (q.f i).k = 1 then 1 else q.ln i t + 1) else q.ln i t)
    rw [ln_congr i (fun j hj => h j (by omega)) t, mv_congr (i + 1) h]
    have := h i (Nat.lt_succ_self i)
    by_cases hc : (p.f i).k = 1
    · rw [if_pos hc, if_pos (this.1 hc)]
    · rw [if_neg hc, if_neg (fun h' => hc (this.2 h'))]
/-- The reversed path, as a path. -/
def rp (p : Pth) : Pth := ⟨p.n, rv p⟩
theorem rvO_eq {p : Pth} (h : p.chk = 0) : rvO p = rp p := by unfold rvO rp; rw [if_pos h]
section
variable {p : Pth} (h : p.chk = 0)
include h
theorem k1' : ∀ j, j < p.n → ((p.f j).k = 1 ↔ ((rp p).f j).k = 1) := fun j hj => (rv_k1 h hj).symm
theorem q_mv (i : Nat) (hi : i ≤ p.n) : (rp p).mv i = p.mv i := (mv_congr i (fun j hj => k1' h j (by omega))).symm
theorem q_A (t : Nat) : pA (rp p) t = pA p t := (st_congr p.n (k1' h) t).symm
theorem q_L (t : Nat) : pL (rp p) t = pL p t := (ln_congr p.n (k1' h) t).symm
theorem q_C {t : Nat} (ht : t < p.mv p.n) : pC (rp p) t = pC p t := by
  have o := sub_at h ht
  have l1 := o.l1; have m1 := o.m1; have ml := o.ml
  obtain ⟨a1, a2, a3⟩ := rv_kind h ht (r := pL p t - 1) (by omega)
  unfold pC
  rw [q_A h, q_L h]
  show decide ((rv p (pA p t + (pL p t - 1))).k = 4) = pC p t
  cases hc : pC p t with
  | true =>
    have := o.c1 hc
    exact decide_eq_true (a3 (by omega))
  | false =>
    have := o.c0 hc
    refine decide_eq_false fun h4 => ?_
    by_cases h0 : pL p t - 1 = 0
    · have := a1 h0; omega
    · have := a2 (by omega) (by omega); omega
theorem q_M {t : Nat} (ht : t < p.mv p.n) : pM (rp p) t = pM p t := by
  unfold pM
  rw [q_C h ht, q_L h]
/-- It is valid. -/
theorem q_chk : (rp p).chk = 0 := by
  have hN := (chk_0.1 h).1
  refine chk_0.2 ⟨hN, fun j hj => ?_⟩
  have hj : j < p.n := hj
  obtain ⟨t, r, ht, hr, rfl⟩ := place h hj
  have o := sub_at h ht
  have m1 := o.m1; have ml := o.ml
  obtain ⟨a1, a2, a3⟩ := rv_kind h ht hr
  have hk : 1 ≤ (rv p (pA p t + r)).k ∧ (rv p (pA p t + r)).k ≤ 4 := by
    by_cases h0 : r = 0
    · have := a1 h0; omega
    · by_cases hm : r < pM p t
      · have := a2 (by omega) hm; omega
      · have := a3 (by omega); omega
  have hpt : ∀ r', r' < pL p t → inC (p.f (pA p t + r')).x ∧ inC (p.f (pA p t + r')).y ∧ inC (p.f (pA p t + r')).u ∧ inC (p.f (pA p t + r')).v := fun r' hr' => inB_iff.1 (segE_in (seg_ok h (in_n h ht hr')).2.2)
  show (rp p).errAt (pA p t + r) = 0
  unfold Pth.errAt
  show (if (rv p (pA p t + r)).k < 1 ∨ 4 < (rv p (pA p t + r)).k then (14 : Int) else if (pA p t + r = 0 ∨ (rv p (pA p t + r - 1)).k = 4) ∧ (rv p (pA p t + r)).k ≠ 1 then 18 else segE (rv p (pA p t + r))) = 0
  rw [if_neg (by omega), if_neg ?_]
  · rw [rv_at h ht hr]
    unfold rvA
    by_cases h0 : r = 0
    · rw [if_pos h0]
      unfold segE
      rw [if_pos (.inl rfl), if_pos ⟨rfl, rfl, rfl⟩]
      have b := hpt (pM p t - 1) (by omega)
      exact inB_iff.2 ⟨b.1, b.2.1, inC_0, inC_0⟩
    · rw [if_neg h0]
      by_cases hm : r < pM p t
      · rw [if_pos hm]
        have hs := (seg_ok h (in_n h ht (r := pM p t - r) (by omega))).2.2
        have b := hpt (pM p t - r - 1) (by omega)
        have c := hpt (pM p t - r) (by omega)
        have hin : (Seg.mk (p.f (pA p t + (pM p t - r))).k (p.f (pA p t + (pM p t - r - 1))).x (p.f (pA p t + (pM p t - r - 1))).y (p.f (pA p t + (pM p t - r))).u (p.f (pA p t + (pM p t - r))).v (p.f (pA p t + (pM p t - r))).w).inB = 0 := inB_iff.2 ⟨b.1, b.2.1, c.2.2.1, c.2.2.2⟩
        rcases kind h ht (r := pM p t - r) (by omega) (by omega) with hk2 | hk3
        · unfold segE
          rw [if_pos (.inr hk2), if_pos (segE_12 hs (.inr hk2))]
          exact hin
        · unfold segE
          rw [if_neg (fun hc => by have hc : (p.f (pA p t + (pM p t - r))).k = 1 ∨ (p.f (pA p t + (pM p t - r))).k = 2 := hc; omega), if_neg (fun hc => by have hc : (p.f (pA p t + (pM p t - r))).k = 4 := hc; omega), if_pos hk3, if_neg (segE_3 hs hk3)]
          exact hin
      · rw [if_neg hm]
        decide
  · rintro ⟨hc, hne⟩
    by_cases h0 : r = 0
    · exact hne (a1 h0)
    · rcases hc with hc | hc
      · omega
      · rw [show pA p t + r - 1 = pA p t + (r - 1) by omega] at hc
        obtain ⟨b1, b2, b3⟩ := rv_kind h ht (r := r - 1) (by omega)
        by_cases h1 : r - 1 = 0
        · have := b1 h1; omega
        · by_cases h2 : r - 1 < pM p t
          · have := b2 (by omega) h2; omega
          · cases hcc : pC p t with
            | false => have := o.c0 hcc; omega
            | true => have := o.c1 hcc; omega
/-- Reversed twice. -/
theorem twice {j : Nat} (hj : j < p.n) : rv (rp p) j = p.f j := by
  obtain ⟨t, r, ht, hr, rfl⟩ := place h hj
  have o := sub_at h ht
  have m1 := o.m1; have ml := o.ml
  have hq := q_chk h
  have ht' : t < (rp p).mv (rp p).n := by
    show t < (rp p).mv p.n
    rw [q_mv h p.n (Nat.le_refl _)]; exact ht
  have e := rv_at hq ht' (r := r) (by rw [q_L h]; exact hr)
  rw [q_A h, q_M h ht] at e
  rw [e]
  have Q : ∀ r', r' < pL p t → (rp p).f (pA p t + r') = rvA p (pA p t) (pM p t) r' := fun r' hr' => rv_at h ht hr'
  have xy : ∀ r', r' < pM p t → ((rp p).f (pA p t + (pM p t - r' - 1))).x = (p.f (pA p t + r')).x ∧ ((rp p).f (pA p t + (pM p t - r' - 1))).y = (p.f (pA p t + r')).y := fun r' hr' => by
    rw [Q _ (by omega)]
    unfold rvA
    by_cases h0 : pM p t - r' - 1 = 0
    · rw [if_pos h0, show pM p t - 1 = r' by omega]; exact ⟨rfl, rfl⟩
    · rw [if_neg h0, if_pos (by omega), show pM p t - (pM p t - r' - 1) - 1 = r' by omega]; exact ⟨rfl, rfl⟩
  have hs := (seg_ok h hj).2.2
  unfold rvA
  by_cases h0 : r = 0
  · subst h0
    rw [if_pos rfl]
    have x := xy 0 (by omega)
    rw [Nat.sub_zero] at x
    rw [x.1, x.2]
    have k := o.k1
    have z := segE_12 hs (.inl k)
    rw [Nat.add_zero] at z hs ⊢
    generalize p.f (pA p t) = s at k z
    obtain ⟨k', x', y', u', v', w'⟩ := s
    obtain ⟨z1, z2, z3⟩ := z
    simp only at k z1 z2 z3
    subst k z1 z2 z3
    rfl
  · rw [if_neg h0]
    by_cases hm : r < pM p t
    · rw [if_pos hm]
      have x := xy r hm
      rw [x.1, x.2, Q (pM p t - r) (by omega)]
      unfold rvA
      rw [if_neg (by omega), if_pos (by omega), show pM p t - (pM p t - r) = r by omega]
    · rw [if_neg hm]
      have : r = pM p t := by
        cases hc : pC p t with
        | false => have := o.c0 hc; omega
        | true => have := o.c1 hc; omega
      subst this
      have k := close4 h ht hr
      have z := segE_4 hs k
      generalize p.f (pA p t + pM p t) = s at k z
      obtain ⟨k', x', y', u', v', w'⟩ := s
      obtain ⟨z0, z00, z1, z2, z3⟩ := z
      simp only at k z0 z00 z1 z2 z3
      subst k z0 z00 z1 z2 z3
      rfl
end
/-! Bounds. -/
def mnS (c k x u : Int) : Int := if k = 3 then (if x < (if u < c then u else c) then x else (if u < c then u else c)) else if k = 1 ∨ k = 2 then (if x < c then x else c) else c
def mnN (K X U : Nat → Int) : Nat → Int
  | 0 => X 0
  | i + 1 => mnS (mnN K X U i) (K i) (X i) (U i)
def InN (K X U : Nat → Int) (n : Nat) (v : Int) : Prop := ∃ j, j < n ∧ (((K j = 1 ∨ K j = 2 ∨ K j = 3) ∧ v = X j) ∨ (K j = 3 ∧ v = U j))
theorem mnN_le (K X U : Nat → Int) : ∀ i v, InN K X U i v → mnN K X U i ≤ v
  | 0, _, ⟨j, hj, _⟩ => absurd hj (Nat.not_lt_zero _)
  | i + 1, v, ⟨j, hj, hv⟩ => by
    show mnS (mnN K X U i) (K i) (X i) (U i) ≤ v
    by_cases hji : j = i
    · subst hji
      unfold mnS
      rcases hv with ⟨hk, rfl⟩ | ⟨hk, rfl⟩ <;> omega
    · have ih := mnN_le K X U i v ⟨j, by omega, hv⟩
      unfold mnS
      omega
theorem mnN_in (K X U : Nat → Int) (h0 : K 0 = 1) : ∀ i, 0 < i → InN K X U i (mnN K X U i)
  | 0, h => absurd h (Nat.lt_irrefl _)
  | 1, _ => by
    refine ⟨0, Nat.zero_lt_one, .inl ⟨.inl h0, ?_⟩⟩
    show mnS (X 0) (K 0) (X 0) (U 0) = X 0
    unfold mnS
    rw [if_neg (by omega), if_pos (.inl h0), if_neg (by omega)]
  | i + 2, _ => by
    obtain ⟨j, hj, hv⟩ := mnN_in K X U h0 (i + 1) (Nat.succ_pos i)
    show InN K X U (i + 2) (mnS (mnN K X U (i + 1)) (K (i + 1)) (X (i + 1)) (U (i + 1)))
    have old : InN K X U (i + 2) (mnN K X U (i + 1)) := ⟨j, by omega, hv⟩
    unfold mnS
    by_cases h3 : K (i + 1) = 3
    · rw [if_pos h3]
      by_cases c1 : X (i + 1) < (if U (i + 1) < mnN K X U (i + 1) then U (i + 1) else mnN K X U (i + 1))
      · rw [if_pos c1]; exact ⟨i + 1, by omega, .inl ⟨.inr (.inr h3), rfl⟩⟩
      · rw [if_neg c1]
        by_cases c2 : U (i + 1) < mnN K X U (i + 1)
        · rw [if_pos c2]; exact ⟨i + 1, by omega, .inr ⟨h3, rfl⟩⟩
        · rw [if_neg c2]; exact old
    · rw [if_neg h3]
      by_cases h12 : K (i + 1) = 1 ∨ K (i + 1) = 2
      · rw [if_pos h12]
        by_cases c1 : X (i + 1) < mnN K X U (i + 1)
        · rw [if_pos c1]; exact ⟨i + 1, by omega, .inl ⟨by omega, rfl⟩⟩
        · rw [if_neg c1]; exact old
      · rw [if_neg h12]; exact old
theorem mnN_eq {K X U K' X' U' : Nat → Int} {n : Nat} (hn : 0 < n) (h0 : K 0 = 1) (h0' : K' 0 = 1) (h1 : ∀ v, InN K X U n v → InN K' X' U' n v) (h2 : ∀ v, InN K' X' U' n v → InN K X U n v) : mnN K X U n = mnN K' X' U' n := by
  have a1 := mnN_le _ _ _ _ _ (h2 _ (mnN_in K' X' U' h0' n hn))
  have a2 := mnN_le _ _ _ _ _ (h1 _ (mnN_in K X U h0 n hn))
  omega
theorem bd4 {b : Bd} {x y z w : Int} (h1 : b.lx = x) (h2 : b.ly = y) (h3 : b.hx = z) (h4 : b.hy = w) : b = ⟨x, y, z, w⟩ := by
  obtain ⟨a1, a2, a3, a4⟩ := b
  simp only at h1 h2 h3 h4
  rw [h1, h2, h3, h4]
def kF (p : Pth) (j : Nat) : Int := (p.f j).k
theorem bN_eq (p : Pth) : ∀ i, bN p i = ⟨mnN (kF p) (fun j => (p.f j).x) (fun j => (p.f j).u) i, mnN (kF p) (fun j => (p.f j).y) (fun j => (p.f j).v) i, -mnN (kF p) (fun j => -(p.f j).x) (fun j => -(p.f j).u) i, -mnN (kF p) (fun j => -(p.f j).y) (fun j => -(p.f j).v) i⟩
  | 0 => by
    show Bd.mk _ _ _ _ = Bd.mk _ _ (-(-(p.f 0).x)) (-(-(p.f 0).y))
    rw [Int.neg_neg, Int.neg_neg]
    rfl
  | i + 1 => by
    show bStep (bN p i) (p.f i) = Bd.mk (mnS _ _ _ _) (mnS _ _ _ _) (-(mnS _ _ _ _)) (-(mnS _ _ _ _))
    rw [bN_eq p i]
    generalize mnN (kF p) (fun j => (p.f j).x) (fun j => (p.f j).u) i = a
    generalize mnN (kF p) (fun j => (p.f j).y) (fun j => (p.f j).v) i = b
    generalize mnN (kF p) (fun j => -(p.f j).x) (fun j => -(p.f j).u) i = c
    generalize mnN (kF p) (fun j => -(p.f j).y) (fun j => -(p.f j).v) i = d
    show _ = Bd.mk (mnS a (p.f i).k (p.f i).x (p.f i).u) (mnS b (p.f i).k (p.f i).y (p.f i).v) (-(mnS c (p.f i).k (-(p.f i).x) (-(p.f i).u))) (-(mnS d (p.f i).k (-(p.f i).y) (-(p.f i).v)))
    unfold bStep mnS
    by_cases h3 : (p.f i).k = 3
    · rw [if_pos h3, if_pos h3, if_pos h3, if_pos h3, if_pos h3]
      exact bd4 rfl rfl (by show (if (p.f i).x > (if (p.f i).u > -c then (p.f i).u else -c) then (p.f i).x else (if (p.f i).u > -c then (p.f i).u else -c)) = _; omega) (by show (if (p.f i).y > (if (p.f i).v > -d then (p.f i).v else -d) then (p.f i).y else (if (p.f i).v > -d then (p.f i).v else -d)) = _; omega)
    · rw [if_neg h3, if_neg h3, if_neg h3, if_neg h3, if_neg h3]
      by_cases h12 : (p.f i).k = 1 ∨ (p.f i).k = 2
      · rw [if_pos h12, if_pos h12, if_pos h12, if_pos h12, if_pos h12]
        exact bd4 rfl rfl (by show (if (p.f i).x > -c then (p.f i).x else -c) = _; omega) (by show (if (p.f i).y > -d then (p.f i).y else -d) = _; omega)
      · rw [if_neg h12, if_neg h12, if_neg h12, if_neg h12, if_neg h12]
/-- The coordinates of the reversed path. -/
theorem in_rev {p : Pth} (h : p.chk = 0) (X U : Seg → Int) (hX : ∀ k x y u v w k' u' v' w', X ⟨k, x, y, u, v, w⟩ = X ⟨k', x, y, u', v', w'⟩) (hU : ∀ k x y u v w x' y', U ⟨k, x, y, u, v, w⟩ = U ⟨k, x', y', u, v, w⟩) (v : Int)
    (hv : InN (kF p) (fun j => X (p.f j)) (fun j => U (p.f j)) p.n v) : InN (kF (rp p)) (fun j => X ((rp p).f j)) (fun j => U ((rp p).f j)) p.n v := by
  obtain ⟨j, hj, hv⟩ := hv
  obtain ⟨t, r, ht, hr, rfl⟩ := place h hj
  have o := sub_at h ht
  have m1 := o.m1; have ml := o.ml
  have hk4 : ¬ r < pM p t → (p.f (pA p t + r)).k = 4 := fun hm => by
    have : r = pM p t := by
      cases hc : pC p t with
      | false => have := o.c0 hc; omega
      | true => have := o.c1 hc; omega
    rw [this]
    exact close4 h ht (by omega)
  rcases hv with ⟨hk, rfl⟩ | ⟨hk, rfl⟩
  · have hm : r < pM p t := by
      refine Classical.byContradiction fun hm => ?_
      have := hk4 hm
      have hk : (p.f (pA p t + r)).k = 1 ∨ (p.f (pA p t + r)).k = 2 ∨ (p.f (pA p t + r)).k = 3 := hk
      omega
    have hr' : pM p t - r - 1 < pL p t := by omega
    refine ⟨pA p t + (pM p t - r - 1), in_n h ht hr', .inl ⟨?_, ?_⟩⟩
    · show (rv p (pA p t + (pM p t - r - 1))).k = 1 ∨ (rv p (pA p t + (pM p t - r - 1))).k = 2 ∨ (rv p (pA p t + (pM p t - r - 1))).k = 3
      obtain ⟨b1, b2, b3⟩ := rv_kind h ht hr'
      by_cases h0 : pM p t - r - 1 = 0
      · exact .inl (b1 h0)
      · have := b2 (by omega) (by omega); omega
    · show X (p.f (pA p t + r)) = X (rv p (pA p t + (pM p t - r - 1)))
      rw [rv_at h ht hr']
      unfold rvA
      by_cases h0 : pM p t - r - 1 = 0
      · rw [if_pos h0, show pM p t - 1 = r by omega]
        exact hX _ _ _ _ _ _ _ _ _ _
      · rw [if_neg h0, if_pos (by omega), show pM p t - (pM p t - r - 1) - 1 = r by omega]
        exact hX _ _ _ _ _ _ _ _ _ _
  · have hk : (p.f (pA p t + r)).k = 3 := hk
    have hm : r < pM p t := by
      refine Classical.byContradiction fun hm => ?_
      have := hk4 hm
      omega
    have h0 : 0 < r := by
      refine Nat.pos_of_ne_zero fun hc => ?_
      subst hc
      have := o.k1
      rw [Nat.add_zero] at hk
      omega
    have hr' : pM p t - r < pL p t := by omega
    have e : rv p (pA p t + (pM p t - r)) = ⟨(p.f (pA p t + r)).k, (p.f (pA p t + (r - 1))).x, (p.f (pA p t + (r - 1))).y, (p.f (pA p t + r)).u, (p.f (pA p t + r)).v, (p.f (pA p t + r)).w⟩ := by
      rw [rv_at h ht hr']
      unfold rvA
      rw [if_neg (by omega), if_pos (by omega), show pM p t - (pM p t - r) = r by omega]
    refine ⟨pA p t + (pM p t - r), in_n h ht hr', .inr ⟨?_, ?_⟩⟩
    · show (rv p (pA p t + (pM p t - r))).k = 3
      rw [e]; exact hk
    · show U (p.f (pA p t + r)) = U (rv p (pA p t + (pM p t - r)))
      rw [e]
      exact hU _ _ _ _ _ _ _ _
theorem in_both {p : Pth} (h : p.chk = 0) (X U : Seg → Int) (hX : ∀ k x y u v w k' u' v' w', X ⟨k, x, y, u, v, w⟩ = X ⟨k', x, y, u', v', w'⟩) (hU : ∀ k x y u v w x' y', U ⟨k, x, y, u, v, w⟩ = U ⟨k, x', y', u, v, w⟩) (hn : 0 < p.n) :
    mnN (kF (rp p)) (fun j => X ((rp p).f j)) (fun j => U ((rp p).f j)) p.n = mnN (kF p) (fun j => X (p.f j)) (fun j => U (p.f j)) p.n := by
  have k0 : (p.f 0).k = 1 := (seg_ok h hn).2.1 (.inl rfl)
  refine mnN_eq hn ((k1' h 0 hn).1 k0) k0 (fun v hv => ?_) (fun v hv => in_rev h X U hX hU v hv)
  obtain ⟨j, hj, hv'⟩ := in_rev (q_chk h) X U hX hU v hv
  have e : (rp (rp p)).f j = p.f j := twice h hj
  refine ⟨j, hj, ?_⟩
  have hv' : (((rp (rp p)).f j).k = 1 ∨ ((rp (rp p)).f j).k = 2 ∨ ((rp (rp p)).f j).k = 3) ∧ v = X ((rp (rp p)).f j) ∨ ((rp (rp p)).f j).k = 3 ∧ v = U ((rp (rp p)).f j) := hv'
  rw [e] at hv'
  exact hv'
theorem bounds_rev {p : Pth} (h : p.chk = 0) : bB (rp p) = bB p := by
  have hq := q_chk h
  unfold bB
  by_cases hn : p.n = 0
  · rw [if_neg (fun hc => hc.2 hn), if_neg (fun hc => hc.2 hn)]
  · rw [if_pos ⟨hq, hn⟩, if_pos ⟨h, hn⟩]
    show bN (rp p) p.n = bN p p.n
    have hn : 0 < p.n := Nat.pos_of_ne_zero hn
    rw [bN_eq, bN_eq, in_both h (fun s => s.x) (fun s => s.u) (fun _ _ _ _ _ _ _ _ _ _ => rfl) (fun _ _ _ _ _ _ _ _ => rfl) hn, in_both h (fun s => s.y) (fun s => s.v) (fun _ _ _ _ _ _ _ _ _ _ => rfl) (fun _ _ _ _ _ _ _ _ => rfl) hn,
      in_both h (fun s => -s.x) (fun s => -s.u) (fun _ _ _ _ _ _ _ _ _ _ => rfl) (fun _ _ _ _ _ _ _ _ => rfl) hn, in_both h (fun s => -s.y) (fun s => -s.v) (fun _ _ _ _ _ _ _ _ _ _ => rfl) (fun _ _ _ _ _ _ _ _ => rfl) hn]
theorem bE_rev {p : Pth} (h : p.chk = 0) : bE (rp p) = bE p := by
  unfold bE
  rw [if_pos (q_chk h), if_pos h]
  rfl
end Go.Proofs.Ytfjbjbmbdadmhaa.Prw
