/- Scan row by row: the plain law of its loops. -/
import Derived.Test.YtfjbjbmbdadmhaaFlp
set_option linter.unusedSimpArgs false
set_option linter.unusedVariables false
namespace Go.Proofs.Ytfjbjbmbdadmhaa.Flq
open Rga Rgl Fla Flb Flc Fld Fle Flp
structure ScI where
  y : Int
  i : Nat
  R : List Rn
/-- Ahead of row y. -/
structure ScP (ins : Int → Bool) (g : SoG) (s : ScI) : Prop where
  hy : -8192 ≤ s.y ∧ s.y ≤ 8192
  hi : s.i ≤ g.n
  low : ∀ k, k < s.i → (srtE g k).y ≤ s.y
  vl : vld s.R
  hm : ∀ y x, mem s.R y x = (chi ins g.f g.n y x && decide (y < s.y))
/-- Behind row y. -/
structure ScQ (ins : Int → Bool) (g : SoG) (s : ScI) : Prop where
  hy : -8192 ≤ s.y ∧ s.y < 8192
  hi : s.i ≤ g.n
  low : ∀ k, k < s.i → (srtE g k).y ≤ s.y
  vl : vld s.R
  hm : ∀ y x, mem s.R y x = (chi ins g.f g.n y x && decide (y < s.y + 1))
/-- All edges that begin at row y or above are taken. -/
structure ScM (g : SoG) (s : ScI) (i : Nat) : Prop where
  le : s.i ≤ i
  hi : i ≤ g.n
  low : ∀ k, k < i → (srtE g k).y ≤ s.y
  up : ∀ k, i ≤ k → k < g.n → s.y < (srtE g k).y
structure ScJ where
  i : Nat
  j : Nat
  R : List Rn
structure ScJP (ins : Int → Bool) (g : SoG) (s : ScI) (t : ScJ) : Prop where
  mid : ScM g s t.i
  hj : t.j ≤ (row g s.y t.i).length
  vl : vld t.R
  hm : ∀ y x, mem t.R y x = (chi ins g.f g.n y x && (decide (y < s.y) || decide (y = s.y ∧ 0 < t.j ∧ x < (cI (row g s.y t.i) (t.j - 1)).x)))
def fromI (C : List Cr) (j : Nat) : Int := if j = 0 then 0 else (cI C (j - 1)).x
variable {ins : Int → Bool} {g : SoG}
theorem chi_in {y x : Int} (h : chi ins g.f g.n y x = true) : ((-8192 ≤ y ∧ y < 8192) ∧ -8192 ≤ x ∧ x < 8192) ∧ ins (wE g.f g.n y x) = true := by
  unfold chi at h
  rw [Bool.and_eq_true, decide_eq_true_iff] at h
  exact h
theorem chi_of {y x : Int} (h : (-8192 ≤ y ∧ y < 8192) ∧ -8192 ≤ x ∧ x < 8192) : chi ins g.f g.n y x = ins (wE g.f g.n y x) := by
  unfold chi
  rw [decide_eq_true h, Bool.true_and]
theorem wz {y x : Int} (h : ∀ k, k < g.n → Ed.on (srtE g k) y = false) : wE g.f g.n y x = 0 := by
  have e := sum_srt g (fun e => if Ed.on e y = true ∧ e.first y ≤ x then e.s else 0)
  show sumN _ _ = 0
  rw [← e]
  exact sumN_zero (Nat.zero_le _) fun k _ hk => if_neg fun hc => by rw [h k hk] at hc; cases hc.1
theorem sc_start : ScP ins g ⟨-8192, 0, []⟩ := by
  refine ⟨⟨Int.le_refl _, by decide⟩, Nat.zero_le _, fun k hk => absurd hk (Nat.not_lt_zero _), vld_nil, fun y x => ?_⟩
  show false = _
  symm
  rw [← Bool.not_eq_true, Bool.and_eq_true]
  rintro ⟨h1, h2⟩
  have := (chi_in h1).1
  have : y < -8192 := of_decide_eq_true h2
  omega
theorem sc_done {s : ScI} (h : ScP ins g s) (hy : ¬ s.y < 8192) : s.R = ofSet (chi ins g.f g.n) := by
  refine (ofSet_eq h.vl fun y x => ?_).symm
  rw [h.hm]
  cases hc : chi ins g.f g.n y x with
  | false => rfl
  | true =>
    have := (chi_in hc).1
    rw [decide_eq_true (by omega)]; rfl
theorem off_row (hz : ins 0 = false) {y x : Int} (h : ∀ k, k < g.n → Ed.on (srtE g k) y = false) : chi ins g.f g.n y x = false := by
  unfold chi
  rw [wz h, hz, Bool.and_false]
theorem sc_break (hz : ins 0 = false) {s : ScI} (h : ScP ins g s) {i : Nat} (hm : ScM g s i) (ha : (act (srtE g) s.y i).length = 0) (hn : g.n - i = 0) : s.R = ofSet (chi ins g.f g.n) := by
  refine (ofSet_eq h.vl fun y x => ?_).symm
  rw [h.hm]
  by_cases hy : y < s.y
  · rw [decide_eq_true hy, Bool.and_true]
  · rw [off_row hz (fun k hk => decide_eq_false fun hc => ?_)]; rfl
    have := act_nil ha (show k < i by omega)
    omega
theorem sc_skip (hz : ins 0 = false) {s : ScI} (h : ScP ins g s) {i : Nat} (hm : ScM g s i) (ha : (act (srtE g) s.y i).length = 0) (hn : i < g.n) (hs : s.y < 8192) {Y : Int} (h1 : s.y ≤ Y) (h2 : Y < 8192) (h3 : Y = s.y ∨ Y < (srtE g i).y) : ScQ ins g ⟨Y, i, s.R⟩ := by
  have hup : ∀ k, i ≤ k → k < g.n → Y < (srtE g k).y := fun k hk hkn => by
    have := hm.up k hk hkn
    rcases h3 with h3 | h3
    · omega
    · by_cases c : k = i
      · rw [c]; exact h3
      · have := srt_sorted g (show i < k by omega) hkn
        omega
  refine ⟨⟨Int.le_trans h.hy.1 h1, h2⟩, hm.hi, fun k hk => Int.le_trans (hm.low k hk) h1, h.vl, fun y x => ?_⟩
  rw [h.hm]
  show _ = (chi ins g.f g.n y x && decide (y < Y + 1))
  by_cases hy : y < s.y
  · rw [decide_eq_true hy, decide_eq_true (show y < Y + 1 by omega)]
  · by_cases hy2 : y < Y + 1
    · have e : chi ins g.f g.n y x = false := off_row hz fun k hk => decide_eq_false fun hc => by
        by_cases hki : k < i
        · have := act_nil ha hki
          omega
        · have := hup k (by omega) hk
          omega
      rw [e]; rfl
    · rw [decide_eq_false hy, decide_eq_false hy2]
theorem sc_in0 {s : ScI} (h : ScP ins g s) {i : Nat} (hm : ScM g s i) : ScJP ins g s ⟨i, 0, s.R⟩ := by
  refine ⟨hm, Nat.zero_le _, h.vl, fun y x => ?_⟩
  rw [h.hm]
  have : decide (y = s.y ∧ 0 < (0 : Nat) ∧ x < (cI (row g s.y i) (0 - 1)).x) = false := decide_eq_false fun hc => Nat.lt_irrefl _ hc.2.1
  show _ = (_ && (_ || decide (y = s.y ∧ 0 < (0 : Nat) ∧ x < (cI (row g s.y i) (0 - 1)).x)))
  rw [this, Bool.or_false]
/-- What lies between two crossings. -/
theorem seg_chi {s : ScI} {t : ScJ} (h : ScJP ins g s t) (hs : -8192 ≤ s.y ∧ s.y < 8192) {x : Int} (hx : -8192 ≤ x ∧ x < 8192) (h1 : 0 < t.j → (cI (row g s.y t.i) (t.j - 1)).x ≤ x) (h2 : t.j < (row g s.y t.i).length → x < (cI (row g s.y t.i) t.j).x) :
    chi ins g.f g.n s.y x = ins (pre (row g s.y t.i) t.j) := by
  rw [chi_of ⟨hs, hx⟩, ← row_ws g h.mid.hi h.mid.up x]
  congr 1
  exact seg (C := row g s.y t.i) (fun i j hij hj => crs_sorted (eI (act (srtE g) s.y t.i)) s.y (act (srtE g) s.y t.i).length hij hj) h.hj h1 h2
theorem sc_in2 {s : ScI} {t : ScJ} (h : ScJP ins g s t) (hs : -8192 ≤ s.y ∧ s.y < 8192) (hj : t.j < (row g s.y t.i).length) (hn : ins (pre (row g s.y t.i) t.j) = false) : ScJP ins g s ⟨t.i, t.j + 1, t.R⟩ := by
  refine ⟨h.mid, hj, h.vl, fun y x => ?_⟩
  rw [h.hm]
  show _ = (_ && (_ || decide (y = s.y ∧ 0 < t.j + 1 ∧ x < (cI (row g s.y t.i) t.j).x)))
  cases hc : chi ins g.f g.n y x with
  | false => rfl
  | true =>
    rw [Bool.true_and, Bool.true_and]
    congr 1
    have hin := (chi_in hc).1
    rw [Bool.eq_iff_iff, decide_eq_true_iff, decide_eq_true_iff]
    constructor
    · rintro ⟨e1, e2, e3⟩
      have := crs_sorted (eI (act (srtE g) s.y t.i)) s.y (act (srtE g) s.y t.i).length (show t.j - 1 < t.j by omega) hj
      exact ⟨e1, by omega, Int.lt_of_lt_of_le e3 this⟩
    · rintro ⟨e1, _, e3⟩
      refine Classical.byContradiction fun hno => ?_
      subst e1
      have := seg_chi h hs hin.2 (fun h0 => by
        refine Int.not_lt.1 fun hlt => hno ⟨rfl, h0, hlt⟩) (fun _ => e3)
      rw [hc, hn] at this
      cases this
theorem sc_in1 (hz : ins 0 = false) {s : ScI} {t : ScJ} (h : ScJP ins g s t) (hs : -8192 ≤ s.y ∧ s.y < 8192) (hj : t.j < (row g s.y t.i).length) (hn : ins (pre (row g s.y t.i) t.j) = true)
    {a b : Int} (ha : a = if -8192 > fromI (row g s.y t.i) t.j then -8192 else fromI (row g s.y t.i) t.j) (hb : b = if 8192 < (cI (row g s.y t.i) t.j).x then 8192 else (cI (row g s.y t.i) t.j).x) : ScJP ins g s ⟨t.i, t.j + 1, addR t.R ⟨s.y, a, b⟩⟩ := by
  have j0 : 0 < t.j := by
    refine Nat.pos_of_ne_zero fun hc => ?_
    rw [hc] at hn
    have : pre (row g s.y t.i) 0 = 0 := rfl
    rw [this, hz] at hn
    cases hn
  have hf : fromI (row g s.y t.i) t.j = (cI (row g s.y t.i) (t.j - 1)).x := if_neg (by omega)
  rw [hf] at ha
  have hso := crs_sorted (eI (act (srtE g) s.y t.i)) s.y (act (srtE g) s.y t.i).length (show t.j - 1 < t.j by omega) hj
  have hso : (cI (row g s.y t.i) (t.j - 1)).x ≤ (cI (row g s.y t.i) t.j).x := hso
  have haft : aft t.R s.y a := by
    intro r hr
    have hmem : r ∈ t.R := List.mem_of_getLast? hr
    have ho := h.vl.1 r hmem
    have hin : mem t.R r.y r.x0 = true := (mem_iff _ _ _).2 ⟨r, hmem, rfl, Int.le_refl _, ho.2⟩
    rw [h.hm, Bool.and_eq_true, Bool.or_eq_true, decide_eq_true_iff, decide_eq_true_iff] at hin
    rcases hin.2 with h1 | ⟨h1, _, h3⟩
    · exact .inl h1
    · refine .inr ⟨h1, ?_⟩
      rw [ha]
      split <;> omega
  obtain ⟨q1, q2, _⟩ := add_ok h.vl (r := ⟨s.y, a, b⟩) (fun hab => by
    have hab : a < b := hab
    refine ⟨⟨hs, ⟨?_, ?_⟩, ?_, ?_⟩, hab⟩
    · show -8192 ≤ a; rw [ha]; split <;> omega
    · show a ≤ 8192
      have : b ≤ 8192 := by rw [hb]; split <;> omega
      omega
    · show -8192 ≤ b
      have : -8192 ≤ a := by rw [ha]; split <;> omega
      omega
    · show b ≤ 8192; rw [hb]; split <;> omega) haft
  refine ⟨h.mid, hj, q1, fun y x => ?_⟩
  show mem (addR t.R ⟨s.y, a, b⟩) y x = (_ && (_ || decide (y = s.y ∧ 0 < t.j + 1 ∧ x < (cI (row g s.y t.i) t.j).x)))
  rw [q2, h.hm]
  have hir : inR ⟨s.y, a, b⟩ y x = decide (s.y = y ∧ a ≤ x ∧ x < b) := rfl
  rw [hir]
  cases hc : chi ins g.f g.n y x with
  | false =>
    rw [Bool.false_and, Bool.false_or, Bool.false_and]
    refine decide_eq_false fun hh => ?_
    obtain ⟨rfl, hax, hxb⟩ := hh
    have x1 : -8192 ≤ x ∧ x < 8192 := by
      refine ⟨?_, ?_⟩
      · have : -8192 ≤ a := by rw [ha]; split <;> omega
        omega
      · have : b ≤ 8192 := by rw [hb]; split <;> omega
        omega
    have x2 : (cI (row g s.y t.i) (t.j - 1)).x ≤ x := by
      have : (cI (row g s.y t.i) (t.j - 1)).x ≤ a := by rw [ha]; split <;> omega
      omega
    have x3 : x < (cI (row g s.y t.i) t.j).x := by
      have : b ≤ (cI (row g s.y t.i) t.j).x := by rw [hb]; split <;> omega
      omega
    have := seg_chi h hs x1 (fun _ => x2) (fun _ => x3)
    rw [hc, hn] at this
    cases this
  | true =>
    have hin := (chi_in hc).1
    rw [Bool.true_and, Bool.true_and, Bool.or_assoc]
    congr 1
    rw [Bool.eq_iff_iff, Bool.or_eq_true, decide_eq_true_iff, decide_eq_true_iff, decide_eq_true_iff]
    constructor
    · rintro (⟨e1, e2, e3⟩ | ⟨e1, e2, e3⟩)
      · exact ⟨e1, by omega, Int.lt_of_lt_of_le e3 hso⟩
      · refine ⟨e1.symm, by omega, ?_⟩
        have : b ≤ (cI (row g s.y t.i) t.j).x := by rw [hb]; split <;> omega
        omega
    · rintro ⟨e1, _, e3⟩
      by_cases hlt : x < (cI (row g s.y t.i) (t.j - 1)).x
      · exact .inl ⟨e1, j0, hlt⟩
      · refine .inr ⟨e1.symm, ?_, ?_⟩
        · rw [ha]; split <;> omega
        · rw [hb]; split <;> omega
theorem sc_out (hz : ins 0 = false) (hb : ∀ y, tot g.f g.n y = 0) {s : ScI} {t : ScJ} (h : ScJP ins g s t) (hs : -8192 ≤ s.y ∧ s.y < 8192) (hj : ¬ t.j < (row g s.y t.i).length) : ScQ ins g ⟨s.y, t.i, t.R⟩ := by
  refine ⟨hs, h.mid.hi, h.mid.low, h.vl, fun y x => ?_⟩
  rw [h.hm]
  show _ = (_ && decide (y < s.y + 1))
  cases hc : chi ins g.f g.n y x with
  | false => rfl
  | true =>
    have hin := (chi_in hc).1
    rw [Bool.true_and, Bool.true_and, Bool.eq_iff_iff, Bool.or_eq_true, decide_eq_true_iff, decide_eq_true_iff, decide_eq_true_iff]
    constructor
    · rintro (h1 | ⟨h1, _⟩) <;> omega
    · intro h1
      by_cases hy : y < s.y
      · exact .inl hy
      · have e1 : y = s.y := by omega
        refine .inr ?_
        refine Classical.byContradiction fun hno => ?_
        subst e1
        have e := seg_chi h hs hin.2 (fun h0 => Int.not_lt.1 fun hlt => hno ⟨rfl, h0, hlt⟩) (fun hlt => absurd hlt hj)
        have ej : t.j = (row g s.y t.i).length := Nat.le_antisymm h.hj (Nat.not_lt.1 hj)
        rw [hc, ej, ← wt_sum, row_wt g h.mid.hi h.mid.up, hb, hz] at e
        cases e
theorem sc_next {t : ScI} (h : ScQ ins g t) : ScP ins g ⟨t.y + 1, t.i, t.R⟩ :=
  ⟨⟨by have := h.hy.1; show -8192 ≤ t.y + 1; omega, by have := h.hy.2; show t.y + 1 ≤ 8192; omega⟩, h.hi, fun k hk => by have := h.low k hk; show (srtE g k).y ≤ t.y + 1; omega, h.vl, h.hm⟩
end Go.Proofs.Ytfjbjbmbdadmhaa.Flq
