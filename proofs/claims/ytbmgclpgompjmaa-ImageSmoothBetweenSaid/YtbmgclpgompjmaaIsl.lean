/- The plain law behind ImageSmoothBetween. -/
import Derived.Test.YtbmgclpgompjmaaIbl
set_option linter.unusedSimpArgs false
set_option linter.unusedVariables false
namespace Go.Proofs.Ytbmgclpgompjmaa.Isl
open Go.RowKit Sx Num Aff Afi Img Imh Imp Imq Imr Ibl
set_option maxRecDepth 100000
theorem axis {x w k j : Int} (hk : pow2 k j) (u a : Int) (hu : u = (j * (2 * x + 1) - 4096) / 8192) (ha : a = j * (2 * x + 1) - 4096 - u * 8192) :
    (k ≤ 2 * x + 1 → 0 ≤ u) ∧ (2 * x + 1 ≤ 2 * k * w - k → u ≤ w - 1 ∧ (u = w - 1 → a = 0)) ∧ (2 * x + 1 ≤ -k → u ≤ -1 ∧ (u = -1 → a = 0)) ∧ (2 * k * w + k ≤ 2 * x + 1 → w ≤ u) := by
  rcases hk with h | h | h | h | h | h <;> obtain ⟨rfl, rfl⟩ := h <;> omega
/-- An image all of whose samples are one vector. -/
def all1 (g : ImgG) (v : Ink) : Prop := g.rep = false ∧ ∀ i, g.px i = v
theorem sm_out {s : SmG} {v : Ink} (h : all1 s.g v) : s.out = decide (s.u < 0 ∨ s.v < 0 ∨ s.g.w ≤ s.u ∨ s.g.h ≤ s.v) := by
  unfold SmG.out
  rw [h.1]
  rfl
theorem sm_in {s : SmG} {v : Ink} (h : all1 s.g v) (hi : (0 ≤ s.u ∧ s.u < s.g.w) ∧ 0 ≤ s.v ∧ s.v < s.g.h) : s.soft = 255 := by
  unfold SmG.soft
  rw [sm_out h, decide_eq_false (by omega)]
  rfl
theorem sm_no {s : SmG} {v : Ink} (h : all1 s.g v) (hi : s.u < 0 ∨ s.v < 0 ∨ s.g.w ≤ s.u ∨ s.g.h ≤ s.v) : s.soft = 0 := by
  unfold SmG.soft
  rw [sm_out h, decide_eq_true hi]
  rfl
theorem sm_term {s : SmG} {v : Ink} (h : all1 s.g v) (f : Ink → Int) (w : Int) : w * s.soft * f s.ink = w * s.soft * f v := by
  unfold SmG.soft SmG.ink
  cases s.out
  · rw [cond_false, cond_false, h.2]
  · rw [cond_true, Int.mul_zero, Int.zero_mul, Int.zero_mul]
theorem smk_all {p : PtG} {v : Ink} (h : all1 p.g v) (k : Nat) : all1 (p.smk k).g v := by rw [smk_g]; exact h
theorem sum_all {p : PtG} {v : Ink} (h : all1 p.g v) (f : Ink → Int) : p.sumK f 4 = f v * p.allK 4 := by
  have e : ∀ k, p.w k * (p.smk k).soft * f (p.smk k).ink = p.w k * (p.smk k).soft * f v := fun k => sm_term (smk_all h k) f _
  unfold PtG.sumK PtG.allK PtG.part
  simp only [e]
  simp
  grind
theorem all4 (p : PtG) : p.allK 4 = p.w 0 * (p.smk 0).soft + p.w 1 * (p.smk 1).soft + p.w 2 * (p.smk 2).soft + p.w 3 * (p.smk 3).soft := by
  unfold PtG.allK PtG.part
  simp
theorem all_le (p : PtG) : 0 ≤ p.allK 4 ∧ p.allK 4 ≤ 17112760320 := by
  have hb : ∀ k, 0 ≤ p.w k * (p.smk k).soft ∧ p.w k * (p.smk k).soft ≤ 255 * p.w k := fun k => by
    have := w_ok (p := p) k
    rcases soft_or (p.smk k) with h | h <;> rw [h] <;> omega
  have h0 := hb 0
  have h1 := hb 1
  have h2 := hb 2
  have h3 := hb 3
  have hs := w_sum p
  rw [all4]
  omega
theorem soft_wrap (p : PtG) : p.soft = nr (p.allK 4) 67108864 ∧ 0 ≤ p.soft ∧ p.soft ≤ 255 := by
  have h := all_le p
  have hn := nr_spec (p.allK 4) 67108864 (by decide)
  have e : p.soft = nr (p.allK 4) 67108864 := by
    unfold PtG.soft
    rw [IntKind.wrap_u8]
    omega
  rw [e]
  exact ⟨rfl, by omega, by omega⟩
theorem ink_all1 {p : PtG} {v : Ink} (h : all1 p.g v) (hv : inkOk v) (hs : p.soft ≠ 0) : p.ink = v := by
  have hp := all_pos hs
  have m : ∀ f : Ink → Int, (0 ≤ f v ∧ f v ≤ 255) → p.mix f = f v := fun f hf => by
    unfold PtG.mix
    rw [sum_all h, nr_exact (by omega) rfl, IntKind.wrap_u8]
    omega
  obtain ⟨⟨h0, h1, h2, h3⟩, h4, h5, h6, h7⟩ := hv
  rw [ink1 hs, m _ h0, m _ h1, m _ h2, m _ h3, m _ h4, m _ h5, m _ h6, m _ h7]
/-- Deep within. -/
theorem deep_soft {p : PtG} {v : Ink} (h : all1 p.g v) (hu : 0 ≤ p.u ∧ p.u ≤ p.g.w - 1 ∧ (p.u = p.g.w - 1 → p.a = 0)) (hv : 0 ≤ p.v ∧ p.v ≤ p.g.h - 1 ∧ (p.v = p.g.h - 1 → p.c = 0)) : p.soft = 255 := by
  have hw := w_sum p
  have t0 : p.w 0 * (p.smk 0).soft = 255 * p.w 0 := by
    rw [sm_in (smk_all h 0) ⟨⟨by show 0 ≤ p.u + 0; omega, by show p.u + 0 < p.g.w; omega⟩, by show 0 ≤ p.v + 0; omega, by show p.v + 0 < p.g.h; omega⟩, Int.mul_comm]
  have t1 : p.w 1 * (p.smk 1).soft = 255 * p.w 1 := by
    by_cases e : p.u = p.g.w - 1
    · have : p.w 1 = 0 := by show p.a * (8192 - p.c) = 0; rw [hu.2.2 e, Int.zero_mul]
      rw [this]; omega
    · rw [sm_in (smk_all h 1) ⟨⟨by show 0 ≤ p.u + 1; omega, by show p.u + 1 < p.g.w; omega⟩, by show 0 ≤ p.v + 0; omega, by show p.v + 0 < p.g.h; omega⟩, Int.mul_comm]
  have t2 : p.w 2 * (p.smk 2).soft = 255 * p.w 2 := by
    by_cases e : p.v = p.g.h - 1
    · have : p.w 2 = 0 := by show (8192 - p.a) * p.c = 0; rw [hv.2.2 e, Int.mul_zero]
      rw [this]; omega
    · rw [sm_in (smk_all h 2) ⟨⟨by show 0 ≤ p.u + 0; omega, by show p.u + 0 < p.g.w; omega⟩, by show 0 ≤ p.v + 1; omega, by show p.v + 1 < p.g.h; omega⟩, Int.mul_comm]
  have t3 : p.w 3 * (p.smk 3).soft = 255 * p.w 3 := by
    by_cases e : p.v = p.g.h - 1 ∨ p.u = p.g.w - 1
    · have : p.w 3 = 0 := by
        show p.a * p.c = 0
        rcases e with e | e
        · rw [hv.2.2 e, Int.mul_zero]
        · rw [hu.2.2 e, Int.zero_mul]
      rw [this]; omega
    · rw [sm_in (smk_all h 3) ⟨⟨by show 0 ≤ p.u + 1; omega, by show p.u + 1 < p.g.w; omega⟩, by show 0 ≤ p.v + 1; omega, by show p.v + 1 < p.g.h; omega⟩, Int.mul_comm]
  have ha : p.allK 4 = 255 * 67108864 := by
    rw [all4, t0, t1, t2, t3]
    omega
  rw [(soft_wrap p).1]
  exact nr_exact (by decide) ha
/-- Far outside. -/
theorem far_soft {p : PtG} {v : Ink} (h : all1 p.g v) (hf : (p.u ≤ -1 ∧ (p.u = -1 → p.a = 0)) ∨ p.g.w ≤ p.u ∨ (p.v ≤ -1 ∧ (p.v = -1 → p.c = 0)) ∨ p.g.h ≤ p.v) : p.soft = 0 := by
  have z : ∀ k, p.w k = 0 ∨ (p.smk k).soft = 0 → p.w k * (p.smk k).soft = 0 := fun k hk => by
    rcases hk with e | e <;> rw [e]
    · exact Int.zero_mul _
    · exact Int.mul_zero _
  have t0 : p.w 0 * (p.smk 0).soft = 0 := z 0 (.inr (sm_no (smk_all h 0) (by show p.u + 0 < 0 ∨ p.v + 0 < 0 ∨ p.g.w ≤ p.u + 0 ∨ p.g.h ≤ p.v + 0; omega)))
  have t1 : p.w 1 * (p.smk 1).soft = 0 := by
    by_cases e : p.u = -1
    · by_cases ea : p.a = 0
      · exact z 1 (.inl (by show p.a * (8192 - p.c) = 0; rw [ea, Int.zero_mul]))
      · exact z 1 (.inr (sm_no (smk_all h 1) (by show p.u + 1 < 0 ∨ p.v + 0 < 0 ∨ p.g.w ≤ p.u + 1 ∨ p.g.h ≤ p.v + 0; omega)))
    · exact z 1 (.inr (sm_no (smk_all h 1) (by show p.u + 1 < 0 ∨ p.v + 0 < 0 ∨ p.g.w ≤ p.u + 1 ∨ p.g.h ≤ p.v + 0; omega)))
  have t2 : p.w 2 * (p.smk 2).soft = 0 := by
    by_cases e : p.v = -1
    · by_cases ea : p.c = 0
      · exact z 2 (.inl (by show (8192 - p.a) * p.c = 0; rw [ea, Int.mul_zero]))
      · exact z 2 (.inr (sm_no (smk_all h 2) (by show p.u + 0 < 0 ∨ p.v + 1 < 0 ∨ p.g.w ≤ p.u + 0 ∨ p.g.h ≤ p.v + 1; omega)))
    · exact z 2 (.inr (sm_no (smk_all h 2) (by show p.u + 0 < 0 ∨ p.v + 1 < 0 ∨ p.g.w ≤ p.u + 0 ∨ p.g.h ≤ p.v + 1; omega)))
  have t3 : p.w 3 * (p.smk 3).soft = 0 := by
    by_cases ea : p.a = 0 ∨ p.c = 0
    · refine z 3 (.inl ?_)
      show p.a * p.c = 0
      rcases ea with ea | ea
      · rw [ea, Int.zero_mul]
      · rw [ea, Int.mul_zero]
    · exact z 3 (.inr (sm_no (smk_all h 3) (by show p.u + 1 < 0 ∨ p.v + 1 < 0 ∨ p.g.w ≤ p.u + 1 ∨ p.g.h ≤ p.v + 1; omega)))
  have ha : p.allK 4 = 0 := by
    rw [all4, t0, t1, t2, t3]
    rfl
  rw [(soft_wrap p).1, ha]
  exact nr_exact (by decide) rfl
end Go.Proofs.Ytbmgclpgompjmaa.Isl
