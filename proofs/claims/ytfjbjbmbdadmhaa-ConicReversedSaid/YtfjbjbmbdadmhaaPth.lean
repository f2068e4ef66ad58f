/- Package path: Check, Subpaths, by the evaluation. -/
import Derived.Test.YtfjbjbmbdadmhaaCoh
set_option linter.unusedSimpArgs false
set_option linter.unusedVariables false
namespace Go.Proofs.Ytfjbjbmbdadmhaa.Pth
open Go.RowKit Sx Num Aff Con Cop Coh
set_option maxRecDepth 100000
structure Pth where
  n : Nat
  f : Nat → Seg
def pthS (g : Pth) : SV := .sl g.n 6 (fun i => lst (segL (g.f i)))
def pfD : SV → Nat → Seg
  | .sl _ _ f => fun i => segD (f i)
  | _ => fun _ => ⟨0, 0, 0, 0, 0, 0⟩
/-- What is wrong with segment i. -/
def Pth.errAt (p : Pth) (i : Nat) : Int :=
  if (p.f i).k < 1 ∨ 4 < (p.f i).k then 14 else if (i = 0 ∨ (p.f (i - 1)).k = 4) ∧ (p.f i).k ≠ 1 then 18 else segE (p.f i)
def Pth.chkF (p : Pth) : Nat → Nat → Int
  | 0, _ => 0
  | m + 1, i => if p.errAt i = 0 then p.chkF m (i + 1) else p.errAt i
def Pth.chk (p : Pth) : Int := if 1000 < p.n then 2 else p.chkF p.n 0
def ckInv (p : Pth) : Inv := ⟨Int, fun i => (0 ≤ i ∧ i ≤ p.n) ∧ p.chkF p.n 0 = p.chkF (p.n - i.toNat) i.toNat, fun i => ⟨[(0, pthS p), (9, pthS p), (10, .int .i64 p.n), (11, .int .i64 i)], []⟩, fun i => (p.n - i).toNat⟩
def spCheckPa : FSpec := mkSpec 14 (γ := Pth) (fun | [s] => some ⟨slLen s, pfD s⟩ | _ => none) (fun p => [pthS p]) (fun p => p.n ≤ 9223372036854775807) (fun p => .int .i64 p.chk)
theorem ok_checkPa : SpecOK Try.prog spCheckPa := by
  refine spec_sound (specs := [spCheckSeg]) (all_ok (⟨ok_checkSeg, trivial⟩)) (eqs := []) (fun _ _ h => (List.not_mem_nil h).elim) Aff.mixed Try.func14 rfl (by kernel_rfl) (fun _ _ => by kernel_rfl) (fun g => (⟨[(4, .inv (ckInv g))], []⟩ : Ann)) (fun g => Nat.le_of_ble_eq_true (by kernel_rfl)) ?_
  rintro p hn
  refine vc_of (B := let z9 := (1 : Int);let z7 := (↑p.n : Int);let z2 := (IntKind.i64 = IntKind.i64); let z8 := (True ∧ True ∧ Sx.Ask z2 ∧ Sx.Ask ((18 : Int) = p.chk));let z0 := (Sx.Ask (p.n = p.n) ∧ ∀ (i : Nat), i < p.n → (((((True ∧ Sx.Ask z2 ∧ Sx.Ask ((p.f i).k = (p.f i).k)) ∧ Sx.Ask z2 ∧ Sx.Ask ((p.f i).x = (p.f i).x)) ∧ Sx.Ask z2 ∧ Sx.Ask ((p.f i).y = (p.f i).y)) ∧ Sx.Ask z2 ∧ Sx.Ask ((p.f i).u = (p.f i).u)) ∧ Sx.Ask z2 ∧ Sx.Ask ((p.f i).v = (p.f i).v)) ∧ Sx.Ask z2 ∧ Sx.Ask ((p.f i).w = (p.f i).w));True ∧ True ∧ True ∧ True ∧ Sx.Br (decide ((1000 : Int) < z7)) (True ∧ True ∧ Sx.Ask z2 ∧ Sx.Ask ((2 : Int) = p.chk)) (True ∧ True ∧ True ∧ (∃ (g : Int), Sx.Ask ((ckInv p).pre g) ∧ (z0 ∧ z0 ∧ (Sx.Ask z2 ∧ Sx.Ask (z7 = z7)) ∧ (Sx.Ask z2 ∧ Sx.Ask ((0 : Int) = g)) ∧ True) ∧ True) ∧ ∀ (g : Int), let z5 := (p.f g.toNat); let z6 := (True ∧ True ∧ True ∧ Sx.Ask z2 ∧ Sx.Ask (Cop.segE z5 = p.chk)); let z4 := (Sx.Ask ((-9223372036854775808 : Int) ≤ g + z9 ∧ g + z9 ≤ (9223372036854775807 : Int)) ∧ True ∧ ∃ (g' : Int), Sx.Ask ((ckInv p).pre g') ∧ ((z0 ∧ z0 ∧ (Sx.Ask z2 ∧ Sx.Ask (z7 = z7)) ∧ (Sx.Ask z2 ∧ Sx.Ask (g + z9 = g')) ∧ True) ∧ True) ∧ Sx.Ask ((ckInv p).meas g' < (ckInv p).meas g)); let z3 := ((((((((True ∧ Sx.Ask z2 ∧ Sx.Ask (z5.k = z5.k)) ∧ Sx.Ask z2 ∧ Sx.Ask (z5.x = z5.x)) ∧ Sx.Ask z2 ∧ Sx.Ask (z5.y = z5.y)) ∧ Sx.Ask z2 ∧ Sx.Ask (z5.u = z5.u)) ∧ Sx.Ask z2 ∧ Sx.Ask (z5.v = z5.v)) ∧ Sx.Ask z2 ∧ Sx.Ask (z5.w = z5.w)) ∧ True) ∧ Sx.Ask True); let z1 := (True ∧ z3 ∧ True ∧ True ∧ True ∧ Sx.Br (decide (Cop.segE z5 ≠ (0 : Int))) z6 z4); (ckInv p).pre g → True ∧ Sx.Br (decide (g < z7)) (True ∧ Sx.Ask ((0 : Int) ≤ g ∧ g < z7) ∧ True ∧ True ∧ True ∧ True ∧ True ∧ True ∧ True ∧ True ∧ Sx.Br (decide (z5.k < z9)) (True ∧ True ∧ True ∧ Sx.Ask z2 ∧ Sx.Ask ((14 : Int) = p.chk)) (True ∧ True ∧ True ∧ True ∧ Sx.Br (decide ((4 : Int) < z5.k)) (True ∧ True ∧ Sx.Ask z2 ∧ Sx.Ask ((14 : Int) = p.chk)) (True ∧ True ∧ True ∧ Sx.Br (decide (g = (0 : Int))) (True ∧ True ∧ True ∧ True ∧ True ∧ True ∧ Sx.Br (decide (z5.k ≠ z9)) z8 z1) (True ∧ True ∧ Sx.Ask ((-9223372036854775808 : Int) ≤ g - z9 ∧ g - z9 ≤ (9223372036854775807 : Int)) ∧ Sx.Ask ((0 : Int) ≤ g - z9 ∧ g - z9 < z7) ∧ True ∧ True ∧ True ∧ True ∧ True ∧ Sx.Br (decide ((p.f (g - z9).toNat).k = (4 : Int))) (True ∧ True ∧ True ∧ True ∧ Sx.Br (decide (z5.k ≠ z9)) z8 z1) (True ∧ True ∧ z3 ∧ True ∧ True ∧ True ∧ Sx.Br (decide (Cop.segE z5 ≠ (0 : Int))) z6 z4))))) (True ∧ True ∧ Sx.Ask z2 ∧ Sx.Ask ((0 : Int) = p.chk)))) (by kernel_rfl) ?_
  simp only [ask_iff, br_iff, eq_self, true_and, and_true, implies_true, forall_const, decide_eq_true_eq, decide_eq_false_iff_not, ne_eq, Nat.mul_one, Nat.add_zero, Nat.zero_add]
  have hc : ¬ 1000 < p.n → p.chk = p.chkF p.n 0 := fun h => if_neg h
  have hc2 : 1000 < p.n → p.chk = 2 := fun h => if_pos h
  refine ⟨fun h => (hc2 (by omega)).symm, fun h1 => ⟨⟨(0 : Int), ⟨⟨Int.le_refl 0, Int.natCast_nonneg _⟩, rfl⟩, rfl⟩, fun i hi => ?_⟩⟩
  have hi' : (0 ≤ i ∧ i ≤ p.n) ∧ p.chkF p.n 0 = p.chkF (p.n - i.toNat) i.toNat := hi
  obtain ⟨⟨i0, i1⟩, i2⟩ := hi'
  rw [← hc (by omega)] at i2
  refine ⟨fun hlt => ?_, fun hge => ?_⟩
  · have ef : p.n - i.toNat = (p.n - (i.toNat + 1)) + 1 := by omega
    rw [ef] at i2
    have i3 : p.chk = if p.errAt i.toNat = 0 then p.chkF (p.n - (i.toNat + 1)) (i.toNat + 1) else p.errAt i.toNat := i2
    have stop : p.errAt i.toNat ≠ 0 → p.chk = p.errAt i.toNat := fun h => by rw [i3, if_neg h]
    have et : (i + 1).toNat = i.toNat + 1 := by omega
    have next : p.errAt i.toNat = 0 → (0 ≤ i + 1 ∧ i + 1 ≤ p.n) ∧ p.chkF p.n 0 = p.chkF (p.n - (i + 1).toNat) (i + 1).toNat := fun h => ⟨⟨by omega, by omega⟩, by rw [← hc (by omega), i3, if_pos h, et]⟩
    have e14 : ((p.f i.toNat).k < 1 ∨ 4 < (p.f i.toNat).k) → p.errAt i.toNat = 14 := fun h => if_pos h
    have ep : (i - 1).toNat = i.toNat - 1 := by omega
    have e18 : ¬ ((p.f i.toNat).k < 1 ∨ 4 < (p.f i.toNat).k) → (i.toNat = 0 ∨ (p.f (i.toNat - 1)).k = 4) → (p.f i.toNat).k ≠ 1 → p.errAt i.toNat = 18 := fun h h2 h3 => by unfold Pth.errAt; rw [if_neg h, if_pos ⟨h2, h3⟩]
    have eS : ¬ ((p.f i.toNat).k < 1 ∨ 4 < (p.f i.toNat).k) → ¬ ((i.toNat = 0 ∨ (p.f (i.toNat - 1)).k = 4) ∧ (p.f i.toNat).k ≠ 1) → p.errAt i.toNat = segE (p.f i.toNat) := fun h h2 => by unfold Pth.errAt; rw [if_neg h, if_neg h2]
    have ms : (p.n - (i + 1)).toNat < (p.n - i).toNat := by omega
    have fin : ∀ (_ : ¬ ((p.f i.toNat).k < 1 ∨ 4 < (p.f i.toNat).k)) (_ : ¬ ((i.toNat = 0 ∨ (p.f (i.toNat - 1)).k = 4) ∧ (p.f i.toNat).k ≠ 1)), (¬ segE (p.f i.toNat) = 0 → segE (p.f i.toNat) = p.chk) ∧ (¬¬ segE (p.f i.toNat) = 0 → (-9223372036854775808 ≤ i + 1 ∧ i + 1 ≤ 9223372036854775807) ∧ ∃ g', (ckInv p).pre g' ∧ i + 1 = g' ∧ (ckInv p).meas g' < (ckInv p).meas i) := fun h h2 => by
      have e := eS h h2
      exact ⟨fun h3 => by rw [stop (by rw [e]; exact h3), e], fun h3 => ⟨by omega, i + 1, next (by rw [e]; exact Classical.not_not.1 h3), rfl, ms⟩⟩
    rw [ep]
    refine ⟨⟨i0, hlt⟩, fun h => by rw [stop (by rw [e14 (.inl h)]; decide), e14 (.inl h)], fun a1 => ⟨fun h => by rw [stop (by rw [e14 (.inr h)]; decide), e14 (.inr h)], fun a2 => ?_⟩⟩
    have a3 : ¬ ((p.f i.toNat).k < 1 ∨ 4 < (p.f i.toNat).k) := fun h => h.elim a1 a2
    refine ⟨fun h0 => ⟨fun h => by have e := e18 a3 (.inl (by clear fin; omega)) h; rw [stop (by rw [e]; decide), e], fun h => fin a3 fun hh => h hh.2⟩, fun h0 => ⟨by omega, ⟨by omega, by omega⟩, fun h4 => ⟨fun h => by have e := e18 a3 (.inr h4) h; rw [stop (by rw [e]; decide), e], fun h => fin a3 fun hh => h hh.2⟩, fun h4 => fin a3 fun hh => ?_⟩⟩
    rcases hh.1 with hh1 | hh1
    · clear fin; omega
    · exact h4 hh1
  · have : p.n - i.toNat = 0 := by omega
    rw [this] at i2
    exact i2.symm
theorem chkF_0 {p : Pth} : ∀ (m i : Nat), p.chkF m i = 0 → ∀ j, i ≤ j → j < i + m → p.errAt j = 0
  | 0, i, _, j, h1, h2 => by omega
  | m + 1, i, h, j, h1, h2 => by
    unfold Pth.chkF at h
    by_cases he : p.errAt i = 0
    · rw [if_pos he] at h
      by_cases hj : j = i
      · subst hj; exact he
      · exact chkF_0 m (i + 1) h j (by omega) (by omega)
    · rw [if_neg he] at h
      exact absurd h he
theorem chkF_1 {p : Pth} : ∀ (m i : Nat), (∀ j, i ≤ j → j < i + m → p.errAt j = 0) → p.chkF m i = 0
  | 0, _, _ => rfl
  | m + 1, i, h => by
    unfold Pth.chkF
    rw [if_pos (h i (by omega) (by omega))]
    exact chkF_1 m (i + 1) fun j h1 h2 => h j (by omega) (by omega)
theorem chk_0 {p : Pth} : p.chk = 0 ↔ p.n ≤ 1000 ∧ ∀ i, i < p.n → p.errAt i = 0 := by
  unfold Pth.chk
  by_cases h : 1000 < p.n
  · rw [if_pos h]
    exact ⟨fun h2 => by omega, fun h2 => by omega⟩
  · rw [if_neg h]
    exact ⟨fun h2 => ⟨by omega, fun i hi => chkF_0 _ _ h2 i (by omega) (by omega)⟩, fun h2 => chkF_1 _ _ fun j _ hj => h2.2 j (by omega)⟩
/-- What is known of a segment of a valid path. -/
theorem seg_ok {p : Pth} (h : p.chk = 0) {i : Nat} (hi : i < p.n) : (1 ≤ (p.f i).k ∧ (p.f i).k ≤ 4) ∧ ((i = 0 ∨ (p.f (i - 1)).k = 4) → (p.f i).k = 1) ∧ segE (p.f i) = 0 := by
  have e := (chk_0.1 h).2 i hi
  unfold Pth.errAt at e
  by_cases h1 : (p.f i).k < 1 ∨ 4 < (p.f i).k
  · rw [if_pos h1] at e; omega
  · rw [if_neg h1] at e
    by_cases h2 : (i = 0 ∨ (p.f (i - 1)).k = 4) ∧ (p.f i).k ≠ 1
    · rw [if_pos h2] at e; omega
    · rw [if_neg h2] at e
      exact ⟨by omega, fun h3 => Classical.byContradiction fun h4 => h2 ⟨h3, h4⟩, e⟩
/-! Subpaths. -/
/-- How many subpaths begin among the first i segments; where subpath t begins, how long it is so far. -/
def Pth.mv (p : Pth) : Nat → Nat
  | 0 => 0
  | i + 1 => p.mv i + if (p.f i).k = 1 then 1 else 0
def Pth.st (p : Pth) : Nat → Nat → Nat
  | 0, _ => 0
  | i + 1, t => if (p.f i).k = 1 ∧ t = p.mv i then i else p.st i t
def Pth.ln (p : Pth) : Nat → Nat → Nat
  | 0, _ => 0
  | i + 1, t => if t + 1 = p.mv (i + 1) then (if (p.f i).k = 1 then 1 else p.ln i t + 1) else p.ln i t
def Pth.sub (p : Pth) (i t : Nat) : Pth := ⟨p.ln i t, fun j => p.f (p.st i t + j)⟩
theorem mv_pos {p : Pth} (h : p.chk = 0) : ∀ i, 0 < i → i ≤ p.n → 1 ≤ p.mv i
  | 0, h0, _ => by omega
  | i + 1, _, hi => by
    show 1 ≤ p.mv i + if (p.f i).k = 1 then 1 else 0
    by_cases h0 : i = 0
    · subst h0
      rw [if_pos ((seg_ok h (i := 0) (by omega)).2.1 (.inl rfl))]
      omega
    · have := mv_pos h i (by omega) (by omega)
      omega
/-- The last subpath so far ends where the next segment stands. -/
theorem st_ln {p : Pth} (h : p.chk = 0) : ∀ i, i ≤ p.n → ∀ t, t + 1 = p.mv i → p.st i t + p.ln i t = i
  | 0, _, t, ht => by unfold Pth.mv at ht; omega
  | i + 1, hi, t, ht => by
    have hm : p.mv (i + 1) = p.mv i + if (p.f i).k = 1 then 1 else 0 := rfl
    show (if (p.f i).k = 1 ∧ t = p.mv i then i else p.st i t) + (if t + 1 = p.mv (i + 1) then (if (p.f i).k = 1 then 1 else p.ln i t + 1) else p.ln i t) = i + 1
    rw [if_pos ht]
    by_cases hk : (p.f i).k = 1
    · rw [if_pos hk] at hm ⊢
      rw [if_pos ⟨hk, by omega⟩]
    · rw [if_neg hk] at hm ⊢
      rw [if_neg (fun hc => hk hc.1)]
      have := st_ln h i (by omega) t (by omega)
      omega
theorem seg6 {s s' : Seg} (h : s = s') : ((((s.k = s'.k ∧ s.x = s'.x) ∧ s.y = s'.y) ∧ s.u = s'.u) ∧ s.v = s'.v) ∧ s.w = s'.w := by
  rw [h]; exact ⟨⟨⟨⟨⟨rfl, rfl⟩, rfl⟩, rfl⟩, rfl⟩, rfl⟩
def subS (p : Pth) (i : Nat) : SV := .sl (p.mv i) 1 (fun t _ => pthS (p.sub i t))
def suInv (p : Pth) : Inv := ⟨Int, fun i => 0 ≤ i ∧ i ≤ p.n, fun i => ⟨[(0, pthS p), (3, .osl 0 0), (7, pthS p), (8, .int .i64 p.n), (9, .int .i64 i)],
  [.row 0 (p.mv i.toNat) 1 (fun t _ => pthS (p.sub i.toNat t)) 22]⟩, fun i => (p.n - i).toNat⟩
def spSubs : FSpec := mkSpec 41 (γ := Pth) (fun | [s] => some ⟨slLen s, pfD s⟩ | _ => none) (fun p => [pthS p]) (fun p => p.chk = 0) (fun p => subS p p.n)
theorem ok_subs : SpecOK Try.prog spSubs := by
  refine spec_sound (specs := []) (all_ok trivial) (eqs := []) (fun _ _ h => (List.not_mem_nil h).elim) Aff.mixed Try.func41 rfl (by kernel_rfl) (fun _ _ => by kernel_rfl) (fun g => (⟨[(3, .inv (suInv g))], [(2, [.own 3 22 1])]⟩ : Ann)) (fun g => Nat.le_of_ble_eq_true (by kernel_rfl)) ?_
  rintro p hp
  refine vc_of (B := let z27 := (suInv p);let z25 := (0 : Nat);let z24 := (0 : Int);let z23 := (↑p.n : Int);let z19 := (9223372036854775807 : Int);let z17 := (-9223372036854775808 : Int);let z9 := (1 : Int);let z3 := (IntKind.i64 = IntKind.i64); let z18 := (Sx.Ask z3 ∧ Sx.Ask (z23 = z23));let z0 := (Sx.Ask (p.n = p.n) ∧ ∀ (i : Nat), i < p.n → (((((True ∧ Sx.Ask z3 ∧ Sx.Ask ((p.f i).k = (p.f i).k)) ∧ Sx.Ask z3 ∧ Sx.Ask ((p.f i).x = (p.f i).x)) ∧ Sx.Ask z3 ∧ Sx.Ask ((p.f i).y = (p.f i).y)) ∧ Sx.Ask z3 ∧ Sx.Ask ((p.f i).u = (p.f i).u)) ∧ Sx.Ask z3 ∧ Sx.Ask ((p.f i).v = (p.f i).v)) ∧ Sx.Ask z3 ∧ Sx.Ask ((p.f i).w = (p.f i).w));True ∧ True ∧ True ∧ True ∧ True ∧ (∃ (g : Int), Sx.Ask (z27.pre g) ∧ (z0 ∧ True ∧ z0 ∧ z18 ∧ (Sx.Ask z3 ∧ Sx.Ask (z24 = g)) ∧ True) ∧ (Sx.Ask (z25 = p.mv g.toNat) ∧ ∀ (i : Nat), i < p.mv g.toNat → True ∧ False) ∧ True) ∧ ∀ (g : Int), let z8 := (↑(p.mv g.toNat) : Int); let z7 := (↑(p.mv g.toNat + (1 : Nat)) : Int); let z26 := ((z7 - z9).toNat < p.mv g.toNat + (1 : Nat)); let z6 := (z17 ≤ g + z9 ∧ g + z9 ≤ z19); let z4 := (↑(p.ln g.toNat (z8 - z9).toNat) : Int); let z1 := (↑(bif decide ((z7 - z9).toNat < p.mv g.toNat) then p.ln g.toNat (z7 - z9).toNat else (g - g).toNat) : Int); z27.pre g → True ∧ Sx.Br (decide (g < z23)) (True ∧ Sx.Ask (z24 ≤ g ∧ g < z23) ∧ True ∧ True ∧ True ∧ True ∧ True ∧ True ∧ True ∧ Sx.Br (decide ((p.f g.toNat).k = z9)) (True ∧ True ∧ True ∧ True ∧ True ∧ Sx.Ask (z24 ≤ g ∧ g ≤ g ∧ g ≤ g ∧ g ≤ z23) ∧ True ∧ Sx.Ask (p.mv g.toNat + (1 : Nat) ≤ (9223372036854775807 : Nat) ∧ (p.mv g.toNat + (1 : Nat)) * (24 : Nat) ≤ (140737488355328 : Nat)) ∧ True ∧ True ∧ True ∧ Sx.Ask (z17 ≤ z7 - z9 ∧ z7 - z9 ≤ z19) ∧ True ∧ True ∧ True ∧ True ∧ True ∧ True ∧ True ∧ Sx.Ask (z24 ≤ z7 - z9 ∧ z7 - z9 < z7) ∧ Sx.Ask z26 ∧ True ∧ Sx.Ask (z17 ≤ g - z1 ∧ g - z1 ≤ z19) ∧ True ∧ Sx.Ask z6 ∧ True ∧ Sx.Ask z6 ∧ Sx.Ask (z24 ≤ g - z1 ∧ g - z1 ≤ g + z9 ∧ g + z9 ≤ g + z9 ∧ g + z9 ≤ z23) ∧ Sx.Ask (z24 ≤ z7 - z9 ∧ z7 - z9 < z7) ∧ Sx.Ask z26 ∧ Sx.Ask z6 ∧ True ∧ ∃ (g' : Int), Sx.Ask (z27.pre g') ∧ ((z0 ∧ True ∧ z0 ∧ z18 ∧ (Sx.Ask z3 ∧ Sx.Ask (g + z9 = g')) ∧ True) ∧ (Sx.Ask (p.mv g.toNat + (1 : Nat) = p.mv g'.toNat) ∧ ∀ (i : Nat), let z22 := (i < p.mv g.toNat); let z2 := (i = (z7 - z9).toNat ∧ z25 ≤ z25 ∧ z25 < z25 + (1 : Nat)); i < p.mv g'.toNat → True ∧ Sx.Ask ((bif decide z2 then (g + z9 - (g - z1)).toNat else bif decide z22 then p.ln g.toNat i else (g - g).toNat) = p.ln g'.toNat i) ∧ ∀ (i_1 : Nat), let z20 := (p.f (g.toNat + i_1)); let z14 := ((p.sub g.toNat i).f i_1); let z12 := ((p.sub g'.toNat i).f i_1); let z10 := (p.f ((g - z1).toNat + i_1)); i_1 < p.ln g'.toNat i → (((((True ∧ Sx.Ask z3 ∧ Sx.Ask ((bif decide z2 then z10.k else bif decide z22 then z14.k else z20.k) = z12.k)) ∧ Sx.Ask z3 ∧ Sx.Ask ((bif decide z2 then z10.x else bif decide z22 then z14.x else z20.x) = z12.x)) ∧ Sx.Ask z3 ∧ Sx.Ask ((bif decide z2 then z10.y else bif decide z22 then z14.y else z20.y) = z12.y)) ∧ Sx.Ask z3 ∧ Sx.Ask ((bif decide z2 then z10.u else bif decide z22 then z14.u else z20.u) = z12.u)) ∧ Sx.Ask z3 ∧ Sx.Ask ((bif decide z2 then z10.v else bif decide z22 then z14.v else z20.v) = z12.v)) ∧ Sx.Ask z3 ∧ Sx.Ask ((bif decide z2 then z10.w else bif decide z22 then z14.w else z20.w) = z12.w)) ∧ True) ∧ Sx.Ask (z27.meas g' < z27.meas g)) (True ∧ True ∧ Sx.Ask (z17 ≤ z8 - z9 ∧ z8 - z9 ≤ z19) ∧ True ∧ True ∧ True ∧ True ∧ True ∧ True ∧ True ∧ Sx.Ask (z24 ≤ z8 - z9 ∧ z8 - z9 < z8) ∧ Sx.Ask ((z8 - z9).toNat < p.mv g.toNat) ∧ True ∧ Sx.Ask (z17 ≤ g - z4 ∧ g - z4 ≤ z19) ∧ True ∧ Sx.Ask z6 ∧ True ∧ Sx.Ask z6 ∧ Sx.Ask (z24 ≤ g - z4 ∧ g - z4 ≤ g + z9 ∧ g + z9 ≤ g + z9 ∧ g + z9 ≤ z23) ∧ Sx.Ask (z24 ≤ z8 - z9 ∧ z8 - z9 < z8) ∧ Sx.Ask ((z8 - z9).toNat < p.mv g.toNat) ∧ Sx.Ask z6 ∧ True ∧ ∃ (g' : Int), Sx.Ask (z27.pre g') ∧ ((z0 ∧ True ∧ z0 ∧ z18 ∧ (Sx.Ask z3 ∧ Sx.Ask (g + z9 = g')) ∧ True) ∧ (Sx.Ask (p.mv g.toNat = p.mv g'.toNat) ∧ ∀ (i : Nat), let z5 := (i = (z8 - z9).toNat ∧ z25 ≤ z25 ∧ z25 < z25 + (1 : Nat)); i < p.mv g'.toNat → True ∧ Sx.Ask ((bif decide z5 then (g + z9 - (g - z4)).toNat else p.ln g.toNat i) = p.ln g'.toNat i) ∧ ∀ (i_1 : Nat), let z15 := ((p.sub g.toNat i).f i_1); let z13 := ((p.sub g'.toNat i).f i_1); let z11 := (p.f ((g - z4).toNat + i_1)); i_1 < p.ln g'.toNat i → (((((True ∧ Sx.Ask z3 ∧ Sx.Ask ((bif decide z5 then z11.k else z15.k) = z13.k)) ∧ Sx.Ask z3 ∧ Sx.Ask ((bif decide z5 then z11.x else z15.x) = z13.x)) ∧ Sx.Ask z3 ∧ Sx.Ask ((bif decide z5 then z11.y else z15.y) = z13.y)) ∧ Sx.Ask z3 ∧ Sx.Ask ((bif decide z5 then z11.u else z15.u) = z13.u)) ∧ Sx.Ask z3 ∧ Sx.Ask ((bif decide z5 then z11.v else z15.v) = z13.v)) ∧ Sx.Ask z3 ∧ Sx.Ask ((bif decide z5 then z11.w else z15.w) = z13.w)) ∧ True) ∧ Sx.Ask (z27.meas g' < z27.meas g))) (True ∧ True ∧ True ∧ Sx.Ask (p.mv g.toNat = p.mv p.n) ∧ ∀ (i : Nat), i < p.mv p.n → True ∧ Sx.Ask (p.ln g.toNat i = p.ln p.n i) ∧ ∀ (i_1 : Nat), let z21 := ((p.sub p.n i).f i_1); let z16 := ((p.sub g.toNat i).f i_1); i_1 < p.ln p.n i → (((((True ∧ Sx.Ask z3 ∧ Sx.Ask (z16.k = z21.k)) ∧ Sx.Ask z3 ∧ Sx.Ask (z16.x = z21.x)) ∧ Sx.Ask z3 ∧ Sx.Ask (z16.y = z21.y)) ∧ Sx.Ask z3 ∧ Sx.Ask (z16.u = z21.u)) ∧ Sx.Ask z3 ∧ Sx.Ask (z16.v = z21.v)) ∧ Sx.Ask z3 ∧ Sx.Ask (z16.w = z21.w))) (by kernel_rfl) ?_
  simp only [ask_iff, br_iff, eq_self, true_and, and_true, implies_true, forall_const, decide_eq_true_eq, decide_eq_false_iff_not, ne_eq, Nat.mul_one, Nat.add_zero, Nat.zero_add]
  refine ⟨⟨(0 : Int), ⟨Int.le_refl 0, Int.natCast_nonneg _⟩, rfl, rfl, fun t ht => absurd ht (Nat.not_lt_zero _)⟩, fun i hi => ?_⟩
  have hi' : 0 ≤ i ∧ i ≤ p.n := hi
  have hn := (chk_0.1 hp).1
  have et : (i + 1).toNat = i.toNat + 1 := by omega
  have hmv : p.mv (i.toNat + 1) = p.mv i.toNat + if (p.f i.toNat).k = 1 then 1 else 0 := rfl
  have hle : p.mv i.toNat ≤ i.toNat := by
    have : ∀ j, p.mv j ≤ j := fun j => by
      induction j with
      | zero => exact Nat.le_refl 0
      | succ j ih => show p.mv j + (if (p.f j).k = 1 then 1 else 0) ≤ j + 1; split <;> omega
    exact this _
  refine ⟨fun hlt => ⟨⟨hi'.1, hlt⟩, fun hk => ?_, fun hk => ?_⟩, fun hge => ?_⟩
  · rw [if_pos hk] at hmv
    have eK : (((p.mv i.toNat + 1 : Nat) : Int) - 1).toNat = p.mv i.toNat := by omega
    have c0 : decide (p.mv i.toNat < p.mv i.toNat) = false := decide_eq_false (Nat.lt_irrefl _)
    have ez : (i - i).toNat = 0 := by omega
    simp only [eK, c0, cond_false, ez]
    refine ⟨by omega, by omega, by omega, by omega, by omega, by omega, by omega, by omega, by omega, by omega, by omega, by omega, i + 1, ⟨show 0 ≤ i + 1 by omega, show i + 1 ≤ (p.n : Int) by omega⟩, ⟨rfl, by rw [et, hmv], fun t ht => ?_⟩, show (p.n - (i + 1)).toNat < (p.n - i).toNat by omega⟩
    rw [et]
    rw [et, hmv] at ht
    have hl : p.ln (i.toNat + 1) t = if t + 1 = p.mv (i.toNat + 1) then (if (p.f i.toNat).k = 1 then 1 else p.ln i.toNat t + 1) else p.ln i.toNat t := rfl
    have hs : p.st (i.toNat + 1) t = if (p.f i.toNat).k = 1 ∧ t = p.mv i.toNat then i.toNat else p.st i.toNat t := rfl
    by_cases e : t = p.mv i.toNat
    · have c1 : decide (t = p.mv i.toNat ∧ 0 ≤ 0 ∧ 0 < 1) = true := decide_eq_true ⟨e, by decide, by decide⟩
      simp only [c1, cond_true]
      rw [if_pos (by omega), if_pos hk] at hl
      rw [if_pos ⟨hk, e⟩] at hs
      refine ⟨by rw [hl]; omega, fun j hj => seg6 ?_⟩
      show p.f _ = p.f (p.st (i.toNat + 1) t + j)
      rw [hs]
      congr 1
      omega
    · have c1 : decide (t = p.mv i.toNat ∧ 0 ≤ 0 ∧ 0 < 1) = false := decide_eq_false fun hc => e hc.1
      have c2 : decide (t < p.mv i.toNat) = true := decide_eq_true (by omega)
      simp only [c1, c2, cond_false, cond_true]
      rw [if_neg (by omega)] at hl
      rw [if_neg fun hc => e hc.2] at hs
      refine ⟨hl.symm, fun j hj => seg6 ?_⟩
      show p.f (p.st i.toNat t + j) = p.f (p.st (i.toNat + 1) t + j)
      rw [hs]
  · rw [if_neg hk] at hmv
    have hi0 : 0 < i.toNat := by
      refine Nat.pos_of_ne_zero fun h0 => hk ?_
      rw [h0]
      exact (seg_ok hp (i := 0) (by omega)).2.1 (.inl rfl)
    have hm1 := mv_pos hp i.toNat hi0 (by omega)
    have hsl := st_ln hp i.toNat (by omega) (p.mv i.toNat - 1) (by omega)
    have eK : (((p.mv i.toNat : Nat) : Int) - 1).toNat = p.mv i.toNat - 1 := by omega
    simp only [eK]
    refine ⟨by omega, by omega, by omega, by omega, by omega, by omega, by omega, by omega, by omega, by omega, i + 1, ⟨show 0 ≤ i + 1 by omega, show i + 1 ≤ (p.n : Int) by omega⟩, ⟨rfl, by rw [et, hmv]; rfl, fun t ht => ?_⟩, show (p.n - (i + 1)).toNat < (p.n - i).toNat by omega⟩
    rw [et]
    rw [et, hmv] at ht
    have hl : p.ln (i.toNat + 1) t = if t + 1 = p.mv (i.toNat + 1) then (if (p.f i.toNat).k = 1 then 1 else p.ln i.toNat t + 1) else p.ln i.toNat t := rfl
    have hs : p.st (i.toNat + 1) t = if (p.f i.toNat).k = 1 ∧ t = p.mv i.toNat then i.toNat else p.st i.toNat t := rfl
    rw [if_neg fun hc => hk hc.1] at hs
    by_cases e : t = p.mv i.toNat - 1
    · have c1 : decide (t = p.mv i.toNat - 1 ∧ 0 ≤ 0 ∧ 0 < 1) = true := decide_eq_true ⟨e, by decide, by decide⟩
      simp only [c1, cond_true]
      rw [if_pos (by omega), if_neg hk] at hl
      rw [← e] at hsl ⊢
      refine ⟨by rw [hl]; omega, fun j hj => seg6 ?_⟩
      show p.f _ = p.f (p.st (i.toNat + 1) t + j)
      rw [hs]
      congr 1
      omega
    · have c1 : decide (t = p.mv i.toNat - 1 ∧ 0 ≤ 0 ∧ 0 < 1) = false := decide_eq_false fun hc => e hc.1
      simp only [c1, cond_false]
      rw [if_neg (by omega)] at hl
      refine ⟨hl.symm, fun j hj => seg6 ?_⟩
      show p.f (p.st i.toNat t + j) = p.f (p.st (i.toNat + 1) t + j)
      rw [hs]
  · rw [show i.toNat = p.n by omega]
    exact ⟨rfl, fun t _ => ⟨rfl, fun j _ => seg6 rfl⟩⟩
end Go.Proofs.Ytfjbjbmbdadmhaa.Pth
