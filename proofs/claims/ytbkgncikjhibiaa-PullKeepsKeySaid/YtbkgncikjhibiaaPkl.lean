/- Cells of pieces, pulled back: the plain law. -/
import Derived.Test.YtbkgncikjhibiaaOfl
import Derived.Test.YtbkgncikjhibiaaPul
set_option linter.unusedSimpArgs false
set_option linter.unusedVariables false
namespace Go.Proofs.Ytbkgncikjhibiaa.Pkl
open Go.RowKit Sx Num Aff Con Rga Rgl Rgm Rgn Rgb Rgc Rgd Rgo Gat Gar Ows Apl Apt Som Cel Mol Moe Mos Pul Ofl
set_option maxRecDepth 100000
theorem idx_iff {W y R x a b : Nat} (hx : x < W) (hb : b ≤ W) : (R * W + a ≤ y * W + x ∧ y * W + x < R * W + b) ↔ (R = y ∧ a ≤ x ∧ x < b) := by
  constructor
  · rintro ⟨h1, h2⟩
    rcases Nat.lt_trichotomy R y with h | h | h
    · have := Nat.mul_le_mul_right W h
      rw [Nat.succ_mul] at this
      omega
    · subst h; omega
    · have := Nat.mul_le_mul_right W h
      rw [Nat.succ_mul] at this
      omega
  · rintro ⟨rfl, h1, h2⟩; omega
/-! Cells. -/
/-- Cell (y, x) as an index. -/
def ix (w : Nat) (y x : Int) : Nat := y.toNat * (16 * w) + x.toNat
theorem putR_at {w : Nat} {c : Nat → Vec} {r : Rn} {v : Vec} {y x : Int} (hy : 0 ≤ y) (hx : 0 ≤ x ∧ x < 16 * w) (hr : 0 ≤ r.y ∧ 0 ≤ r.x0 ∧ r.x1 ≤ 16 * w) : putR w c r v (ix w y x) = if inR r y x = true then v else c (ix w y x) := by
  unfold putR put rwAt ix
  have h := idx_iff (W := 16 * w) (y := y.toNat) (R := r.y.toNat) (x := x.toNat) (a := r.x0.toNat) (b := r.x1.toNat) (by omega) (by omega)
  by_cases hin : inR r y x = true
  · rw [if_pos hin, decide_eq_true (h.2 (by rw [inR_iff] at hin; omega))]
    rfl
  · rw [if_neg hin, decide_eq_false (fun hc => hin (by rw [inR_iff]; have := h.1 hc; omega))]
    rfl
theorem ceR_at {g : ChG} (hg : g.Ok) {c : Nat → Vec} {k : Nat} (hk : k < g.P.n) {y x : Int} (hy : 0 ≤ y) (hx : 0 ≤ x ∧ x < 16 * g.w) : ∀ j, j ≤ g.P.m k → ceR ⟨g.w, g.h, g.P⟩ c k j (ix g.w y x) = if mem (Lf (g.P.p k) j) y x = true then g.P.ink k else c (ix g.w y x)
  | 0, _ => rfl
  | j + 1, hj => by
    have hr := hg.r k j hk hj
    show putR g.w (ceR ⟨g.w, g.h, g.P⟩ c k j) (g.P.p k j) (g.P.ink k) (ix g.w y x) = _
    rw [putR_at hy hx ⟨hr.1.1, hr.2.1, hr.2.2⟩, ceR_at hg hk hy hx j (by omega), Lf_succ, mem_app, mem_one]
    cases hm : mem (Lf (g.P.p k) j) y x <;> cases hi : inR (g.P.p k j) y x <;> rfl
theorem ceP_at {g : ChG} (hg : g.Ok) {y x : Int} (hy : 0 ≤ y) (hx : 0 ≤ x ∧ x < 16 * g.w) : ∀ n, n ≤ g.P.n → (∀ k, k < n → mem (Pcs.L g.P k) y x = true → ceP ⟨g.w, g.h, g.P⟩ n (ix g.w y x) = g.P.ink k) ∧ ((∀ k, k < n → ¬ mem (Pcs.L g.P k) y x = true) → ceP ⟨g.w, g.h, g.P⟩ n (ix g.w y x) = fun _ => 0)
  | 0, _ => ⟨fun k hk => absurd hk (Nat.not_lt_zero _), fun _ => rfl⟩
  | n + 1, hn => by
    obtain ⟨h1, h2⟩ := ceP_at hg hy hx n (by omega)
    have e : ceP ⟨g.w, g.h, g.P⟩ (n + 1) (ix g.w y x) = if mem (Pcs.L g.P n) y x = true then g.P.ink n else ceP ⟨g.w, g.h, g.P⟩ n (ix g.w y x) := ceR_at hg (by omega) hy hx (g.P.m n) (Nat.le_refl _)
    rw [e]
    refine ⟨fun k hk hm => ?_, fun hno => ?_⟩
    · by_cases hkn : k = n
      · subst hkn; rw [if_pos hm]
      · rw [if_neg (fun hc => hg.P.disj k n (by omega) (by omega) y x hm hc)]
        exact h1 k (by omega) hm
    · rw [if_neg (hno n (by omega))]
      exact h2 fun k hk => hno k (by omega)
/-- The cells of the pieces of cells are these cells. -/
theorem ce_of {g : OfG} {P : Pcs} (h : OfOK g P) {y x : Int} (hin : (0 ≤ y ∧ y < 16 * (g.h : Int)) ∧ 0 ≤ x ∧ x < 16 * (g.w : Int)) : kOf (ceB ⟨g.w, g.h, P⟩ (ix g.w y x)) = kOf (g.f (ix g.w y x)) := by
  obtain ⟨h1, h2⟩ := ceP_at h.c hin.1.1 hin.2 P.n (Nat.le_refl _)
  show kOf (ceP ⟨g.w, g.h, P⟩ P.n (ix g.w y x)) = ck g.f (16 * g.w) y x
  by_cases hz : ck g.f (16 * g.w) y x = nul
  · rw [h2 fun k hk hm => ?_, hz]
    · rfl
    · have := ((h.m k hk y x).1 hm).2
      exact h.c.nz k hk (this.symm.trans hz)
  · obtain ⟨k, hk, he⟩ := h.cov y x hin hz
    rw [h1 k hk ((h.m k hk y x).2 ⟨hin, he.symm⟩), he]
/-! Selected cells. -/
/-- It looks at the eight amounts alone. -/
def Eight (b : Vec → Bool) : Prop := ∀ u v, kOf u = kOf v → b u = b v
theorem has_eight {h : InG} (hi : h.ink < 8) : Eight (has h) := fun u v e => by
  have : u h.ink = v h.ink := by
    unfold kOf at e
    simp only [List.cons.injEq, and_true] at e
    obtain ⟨e0, e1, e2, e3, e4, e5, e6, e7⟩ := e
    obtain ⟨i, l⟩ := h
    simp only at hi ⊢
    match i, hi with
    | 0, _ => exact e0
    | 1, _ => exact e1
    | 2, _ => exact e2
    | 3, _ => exact e3
    | 4, _ => exact e4
    | 5, _ => exact e5
    | 6, _ => exact e6
    | 7, _ => exact e7
  unfold has
  rw [this]
theorem mem_sel {b : Vec → Bool} {P : Pcs} {y x : Int} : mem (sel b P P.n) y x = true ↔ ∃ k, k < P.n ∧ b (P.ink k) = true ∧ mem (Pcs.L P k) y x = true := by
  rw [mem_iff]
  constructor
  · rintro ⟨r, hr, h1, h2, h3⟩
    obtain ⟨k, i, hk, hb, hi, rfl⟩ := sel_mem.1 hr
    exact ⟨k, hk, hb, (mem_iff _ _ _).2 ⟨_, L_mem hi, h1, h2, h3⟩⟩
  · rintro ⟨k, hk, hb, hm⟩
    obtain ⟨r, hr, h1, h2, h3⟩ := (mem_iff _ _ _).1 hm
    obtain ⟨i, hi, rfl⟩ := List.mem_map.1 hr
    exact ⟨_, sel_mem.2 ⟨k, i, hk, hb, List.mem_range.1 hi, rfl⟩, h1, h2, h3⟩
theorem sel_of {g : OfG} {P : Pcs} (h : OfOK g P) {b : Vec → Bool} (hb : Eight b) {y x : Int} : mem (smR b P) y x = true ↔ ((0 ≤ y ∧ y < 16 * (g.h : Int)) ∧ 0 ≤ x ∧ x < 16 * (g.w : Int)) ∧ kOf (g.f (ix g.w y x)) ≠ nul ∧ b (g.f (ix g.w y x)) = true := by
  rw [smR_mem (sm_ok h.c.P b), mem_sel]
  constructor
  · rintro ⟨k, hk, hbk, hm⟩
    obtain ⟨h1, h2⟩ := (h.m k hk y x).1 hm
    have h2 : kOf (g.f (ix g.w y x)) = kOf (P.ink k) := h2
    exact ⟨h1, by rw [h2]; exact h.c.nz k hk, by rw [hb _ _ h2]; exact hbk⟩
  · rintro ⟨h1, hz, hbb⟩
    obtain ⟨k, hk, he⟩ := h.cov y x h1 hz
    have he : kOf (P.ink k) = kOf (g.f (ix g.w y x)) := he
    exact ⟨k, hk, by rw [hb _ _ he]; exact hbb, (h.m k hk y x).2 ⟨h1, he.symm⟩⟩
theorem all_eight : Eight (fun _ => true) := fun _ _ _ => rfl
/-! Pulled cells. -/
theorem key1_idem (v : Vec) : key1 (key1 v) = key1 v := by
  by_cases h : v 0 = 255
  · have e : key1 v = fun j => if j = 0 then 255 else 0 := by funext j; unfold key1; rw [decide_eq_true h]; rfl
    have h0 : key1 v 0 = 255 := by rw [e]; rfl
    rw [e]
    funext j
    unfold key1
    rw [decide_eq_true (show (if (0 : Nat) = 0 then (255 : Int) else 0) = 255 from rfl)]
    rfl
  · rw [key1_not h, key1_not h]
theorem key1_congr {u v : Vec} (h : kOf u = kOf v) : kOf (key1 u) = kOf (key1 v) := by
  have h0 : u 0 = v 0 := by unfold kOf at h; exact (List.cons.inj h).1
  by_cases hc : u 0 = 255
  · have e : ∀ t : Vec, t 0 = 255 → key1 t = fun j => if j = 0 then 255 else 0 := fun t ht => by funext j; unfold key1; rw [decide_eq_true ht]; rfl
    rw [e u hc, e v (h0 ▸ hc)]
  · rw [key1_not hc, key1_not (h0 ▸ hc)]
    exact h
theorem pul1_at' {w h : Nat} {c : Nat → Vec} {r : Rn} {y x : Int} (hy : 0 ≤ y ∧ y < 16 * h) (hx : 0 ≤ x ∧ x < 16 * w) : pul1 w h c r (xb w r) (ix w y x) = if inR r y x = true then key1 (c (ix w y x)) else c (ix w y x) := by
  unfold pul1
  have hxa := xa_nonneg r
  have hxb : xb w r ≤ 16 * w := by unfold xb; split <;> omega
  have iff : (inside h r && decide ((rwAt w r : Int) + xa r ≤ (ix w y x : Nat) ∧ ((ix w y x : Nat) : Int) < rwAt w r + xb w r)) = true ↔ inR r y x = true := by
    rw [Bool.and_eq_true, inR_iff, decide_eq_true_eq]
    unfold inside
    rw [Bool.and_eq_true, decide_eq_true_eq, decide_eq_true_eq]
    constructor
    · rintro ⟨⟨a1, a2⟩, b1, b2⟩
      have hb0 : 0 ≤ xb w r := by
        refine Int.not_lt.1 fun hc => ?_
        omega
      have := (idx_iff (W := 16 * w) (y := y.toNat) (R := r.y.toNat) (x := x.toNat) (a := (xa r).toNat) (b := (xb w r).toNat) (by omega) (by omega)).1 (by
        unfold ix rwAt at b1 b2
        omega)
      unfold xa at this hxa
      unfold xb at this
      split at this <;> split at this <;> omega
    · rintro ⟨rfl, b1, b2⟩
      have h2 : xa r ≤ x ∧ x < xb w r := by unfold xa xb; split <;> split <;> omega
      refine ⟨⟨hy.1, hy.2⟩, ?_⟩
      unfold ix rwAt
      omega
  by_cases hin : inR r y x = true
  · rw [if_pos hin, iff.2 hin]
    rfl
  · rw [if_neg hin, show (inside h r && decide ((rwAt w r : Int) + xa r ≤ (ix w y x : Nat) ∧ ((ix w y x : Nat) : Int) < rwAt w r + xb w r)) = false by rw [← Bool.not_eq_true, iff]; exact hin]
    rfl
theorem pulR_at {w h : Nat} {c : Nat → Vec} {f : Nat → Rn} {y x : Int} (hy : 0 ≤ y ∧ y < 16 * h) (hx : 0 ≤ x ∧ x < 16 * w) : ∀ n, pulR w h c f n (ix w y x) = if mem (Lf f n) y x = true then key1 (c (ix w y x)) else c (ix w y x)
  | 0 => rfl
  | n + 1 => by
    show pul1 w h (pulR w h c f n) (f n) (xb w (f n)) (ix w y x) = _
    rw [pul1_at' hy hx, pulR_at hy hx n, Lf_succ, mem_app, mem_one]
    cases hm : mem (Lf f n) y x <;> cases hi : inR (f n) y x <;> simp [key1_idem]
/-- Whether paper lies within r of a cell. -/
def nigh (g : OfG) (r : Nat) (y x : Int) : Prop := ∃ a b : Int, (-(r : Int) ≤ a ∧ a ≤ r) ∧ (-(r : Int) ≤ b ∧ b ≤ r) ∧ ((0 ≤ y + a ∧ y + a < 16 * (g.h : Int)) ∧ 0 ≤ x + b ∧ x + b < 16 * (g.w : Int)) ∧ kOf (g.f (ix g.w (y + a) (x + b))) = nul
theorem paper_of {g : OfG} {P : Pcs} (h : OfOK g P) {y x : Int} : mem (paperL ⟨g.w, g.h, P⟩) y x = true ↔ ((0 ≤ y ∧ y < 16 * (g.h : Int)) ∧ 0 ≤ x ∧ x < 16 * (g.w : Int)) ∧ kOf (g.f (ix g.w y x)) = nul := by
  rw [paper_mem h.c, Bool.and_eq_true, Bool.not_eq_true', ← Bool.not_eq_true, ← smR_mem (sm_ok h.c.P _), sel_of h all_eight]
  unfold inPg
  rw [decide_eq_true_eq]
  constructor
  · rintro ⟨h1, h2⟩
    exact ⟨h1, Decidable.byContradiction fun hc => h2 ⟨h1, hc, rfl⟩⟩
  · rintro ⟨h1, h2⟩
    exact ⟨h1, fun hc => hc.2.1 h2⟩
theorem nigh_of {g : OfG} {P : Pcs} (h : OfOK g P) (hw : g.w ≤ 2) (hh : g.h ≤ 2) {r : Nat} (hr : r ≤ 8) {y x : Int} : mem (PuG.near ⟨⟨g.w, g.h, P⟩, r⟩) y x = true ↔ nigh g r y x := by
  have hdi := (paper_bx h.c hw hh).diOk (by decide) (w := r) (by omega)
  show mem (DiG.o ⟨Ls (paperL ⟨g.w, g.h, P⟩), r⟩) y x = true ↔ _
  rw [DiG.o_mem hdi.1]
  unfold nigh
  have e : ∀ a b : Int, mem (Rg.L (Ls (paperL ⟨g.w, g.h, P⟩))) (y + a) (x + b) = true ↔ ((0 ≤ y + a ∧ y + a < 16 * (g.h : Int)) ∧ 0 ≤ x + b ∧ x + b < 16 * (g.w : Int)) ∧ kOf (g.f (ix g.w (y + a) (x + b))) = nul := fun a b => by rw [Ls_L]; exact paper_of h
  constructor
  · rintro ⟨a, b, h1, h2, h3⟩; exact ⟨a, b, h1, h2, (e a b).1 h3⟩
  · rintro ⟨a, b, h1, h2, h3⟩; exact ⟨a, b, h1, h2, (e a b).2 h3⟩
/-- What pull-back makes of a cell. -/
theorem out_of {g : OfG} {P : Pcs} (h : OfOK g P) (hw : g.w ≤ 2) (hh : g.h ≤ 2) {r : Nat} (hr : r ≤ 8) {y x : Int} (hin : (0 ≤ y ∧ y < 16 * (g.h : Int)) ∧ 0 ≤ x ∧ x < 16 * (g.w : Int)) :
    (nigh g r y x → kOf (PuG.out ⟨⟨g.w, g.h, P⟩, r⟩ (ix g.w y x)) = kOf (key1 (g.f (ix g.w y x)))) ∧ (¬ nigh g r y x → kOf (PuG.out ⟨⟨g.w, g.h, P⟩, r⟩ (ix g.w y x)) = kOf (g.f (ix g.w y x))) := by
  have hc := ce_of h hin
  have e : PuG.out ⟨⟨g.w, g.h, P⟩, r⟩ (ix g.w y x) = if mem (PuG.near ⟨⟨g.w, g.h, P⟩, r⟩) y x = true then key1 (ceB ⟨g.w, g.h, P⟩ (ix g.w y x)) else ceB ⟨g.w, g.h, P⟩ (ix g.w y x) := by
    have := pulR_at (w := g.w) (h := g.h) (c := ceB ⟨g.w, g.h, P⟩) (f := rI (PuG.near ⟨⟨g.w, g.h, P⟩, r⟩)) hin.1 hin.2 (PuG.near ⟨⟨g.w, g.h, P⟩, r⟩).length
    rw [Lf_rI] at this
    exact this
  rw [e]
  refine ⟨fun hn => ?_, fun hn => ?_⟩
  · rw [if_pos ((nigh_of h hw hh hr).2 hn)]
    exact key1_congr hc
  · rw [if_neg (fun hm => hn ((nigh_of h hw hh hr).1 hm))]
    exact hc
end Go.Proofs.Ytbkgncikjhibiaa.Pkl
