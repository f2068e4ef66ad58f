/- Package path: Check, Subpaths, by the evaluation. -/
import Derived.Test.YthappngbapbkfaaDoorCoh
set_option linter.unusedSimpArgs false
set_option linter.unusedVariables false
namespace Go.Proofs.YthappngbapbkfaaDoor.Pth
open Go.RowKit Sx Num Aff Con Cop Coh
set_option maxRecDepth 100000
structure Pth where
  n : Nat
  f : Nat → Seg
def pthS (g : Pth) : SV := .sl g.n 6 (fun i => lst (segL (g.f i)))
def pfD : SV → Nat → Seg
  | .sl _ _ f => fun i => segD (f i)
  | _ => fun _ => ⟨0, 0, 0, 0, 0, 0⟩
/-- What is wrong with segment i. -/
def Pth.errAt (p : Pth) (i : Nat) : Int :=
  if (p.f i).k < 1 ∨ 4 < (p.f i).k then 14 else if (i = 0 ∨ (p.f (i - 1)).k = 4) ∧ (p.f i).k ≠ 1 then 18 else segE (p.f i)
def Pth.chkF (p : Pth) : Nat → Nat → Int
  | 0, _ => 0
  | m + 1, i => if p.errAt i = 0 then p.chkF m (i + 1) else p.errAt i
def Pth.chk (p : Pth) : Int := if 1000 < p.n then 2 else p.chkF p.n 0
def ckInv (p : Pth) : Inv := ⟨Int, fun i => (0 ≤ i ∧ i ≤ p.n) ∧ p.chkF p.n 0 = p.chkF (p.n - i.toNat) i.toNat, fun i => ⟨[(0, pthS p), (9, pthS p), (10, .int .i64 p.n), (11, .int .i64 i)], []⟩, fun i => (p.n - i).toNat⟩
def spCheckPa : FSpec := mkSpec 6 (γ := Pth) (fun | [s] => some ⟨slLen s, pfD s⟩ | _ => none) (fun p => [pthS p]) (fun p => p.n ≤ 9223372036854775807) (fun p => .int .i64 p.chk)
theorem ok_checkPa : SpecOK Tryd.prog spCheckPa := by
  refine spec_sound (specs := [spCheckSeg]) (all_ok (⟨ok_checkSeg, trivial⟩)) (eqs := []) (fun _ _ h => (List.not_mem_nil h).elim) Aff.mixed Tryd.func6 rfl (by kernel_rfl) (fun _ _ => by kernel_rfl) (fun g => (⟨[(4, .inv (ckInv g))], []⟩ : Ann)) (fun g => Nat.le_of_ble_eq_true (by kernel_rfl)) ?_
  rintro p hn
  refine vc_of (B := let z9 := (1 : Int);let z7 := (↑p.n : Int);let z2 := (IntKind.i64 = IntKind.i64); let z8 := (True ∧ True ∧ Sx.Ask z2 ∧ Sx.Ask ((18 : Int) = p.chk));let z0 := (Sx.Ask (p.n = p.n) ∧ ∀ (i : Nat), i < p.n → (((((True ∧ Sx.Ask z2 ∧ Sx.Ask ((p.f i).k = (p.f i).k)) ∧ Sx.Ask z2 ∧ Sx.Ask ((p.f i).x = (p.f i).x)) ∧ Sx.Ask z2 ∧ Sx.Ask ((p.f i).y = (p.f i).y)) ∧ Sx.Ask z2 ∧ Sx.Ask ((p.f i).u = (p.f i).u)) ∧ Sx.Ask z2 ∧ Sx.Ask ((p.f i).v = (p.f i).v)) ∧ Sx.Ask z2 ∧ Sx.Ask ((p.f i).w = (p.f i).w));True ∧ True ∧ True ∧ True ∧ Sx.Br (decide ((1000 : Int) < z7)) (True ∧ True ∧ Sx.Ask z2 ∧ Sx.Ask ((2 : Int) = p.chk)) (True ∧ True ∧ True ∧ (∃ (g : Int), Sx.Ask ((ckInv p).pre g) ∧ (z0 ∧ z0 ∧ (Sx.Ask z2 ∧ Sx.Ask (z7 = z7)) ∧ (Sx.Ask z2 ∧ Sx.Ask ((0 : Int) = g)) ∧ True) ∧ True) ∧ ∀ (g : Int), let z5 := (p.f g.toNat); let z6 := (True ∧ True ∧ True ∧ Sx.Ask z2 ∧ Sx.Ask (Cop.segE z5 = p.chk)); let z4 := (Sx.Ask ((-9223372036854775808 : Int) ≤ g + z9 ∧ g + z9 ≤ (9223372036854775807 : Int)) ∧ True ∧ ∃ (g' : Int), Sx.Ask ((ckInv p).pre g') ∧ ((z0 ∧ z0 ∧ (Sx.Ask z2 ∧ Sx.Ask (z7 = z7)) ∧ (Sx.Ask z2 ∧ Sx.Ask (g + z9 = g')) ∧ True) ∧ True) ∧ Sx.Ask ((ckInv p).meas g' < (ckInv p).meas g)); let z3 := ((((((((True ∧ Sx.Ask z2 ∧ Sx.Ask (z5.k = z5.k)) ∧ Sx.Ask z2 ∧ Sx.Ask (z5.x = z5.x)) ∧ Sx.Ask z2 ∧ Sx.Ask (z5.y = z5.y)) ∧ Sx.Ask z2 ∧ Sx.Ask (z5.u = z5.u)) ∧ Sx.Ask z2 ∧ Sx.Ask (z5.v = z5.v)) ∧ Sx.Ask z2 ∧ Sx.Ask (z5.w = z5.w)) ∧ True) ∧ Sx.Ask True); let z1 := (True ∧ z3 ∧ True ∧ True ∧ True ∧ Sx.Br (decide (Cop.segE z5 ≠ (0 : Int))) z6 z4); (ckInv p).pre g → True ∧ Sx.Br (decide (g < z7)) (True ∧ Sx.Ask ((0 : Int) ≤ g ∧ g < z7) ∧ True ∧ True ∧ True ∧ True ∧ True ∧ True ∧ True ∧ True ∧ Sx.Br (decide (z5.k < z9)) (True ∧ True ∧ True ∧ Sx.Ask z2 ∧ Sx.Ask ((14 : Int) = p.chk)) (True ∧ True ∧ True ∧ True ∧ Sx.Br (decide ((4 : Int) < z5.k)) (True ∧ True ∧ Sx.Ask z2 ∧ Sx.Ask ((14 : Int) = p.chk)) (True ∧ True ∧ True ∧ Sx.Br (decide (g = (0 : Int))) (True ∧ True ∧ True ∧ True ∧ True ∧ True ∧ Sx.Br (decide (z5.k ≠ z9)) z8 z1) (True ∧ True ∧ Sx.Ask ((-9223372036854775808 : Int) ≤ g - z9 ∧ g - z9 ≤ (9223372036854775807 : Int)) ∧ Sx.Ask ((0 : Int) ≤ g - z9 ∧ g - z9 < z7) ∧ True ∧ True ∧ True ∧ True ∧ True ∧ Sx.Br (decide ((p.f (g - z9).toNat).k = (4 : Int))) (True ∧ True ∧ True ∧ True ∧ Sx.Br (decide (z5.k ≠ z9)) z8 z1) (True ∧ True ∧ z3 ∧ True ∧ True ∧ True ∧ Sx.Br (decide (Cop.segE z5 ≠ (0 : Int))) z6 z4))))) (True ∧ True ∧ Sx.Ask z2 ∧ Sx.Ask ((0 : Int) = p.chk)))) (by kernel_rfl) ?_
  simp only [ask_iff, br_iff, eq_self, true_and, and_true, implies_true, forall_const, decide_eq_true_eq, decide_eq_false_iff_not, ne_eq, Nat.mul_one, Nat.add_zero, Nat.zero_add]
  have hc : ¬ 1000 < p.n → p.chk = p.chkF p.n 0 := fun h => if_neg h
  have hc2 : 1000 < p.n → p.chk = 2 := fun h => if_pos h
  refine ⟨fun h => (hc2 (by omega)).symm, fun h1 => ⟨⟨(0 : Int), ⟨⟨Int.le_refl 0, Int.natCast_nonneg _⟩, rfl⟩, rfl⟩, fun i hi => ?_⟩⟩
  have hi' : (0 ≤ i ∧ i ≤ p.n) ∧ p.chkF p.n 0 = p.chkF (p.n - i.toNat) i.toNat := hi
  obtain ⟨⟨i0, i1⟩, i2⟩ := hi'
  rw [← hc (by omega)] at i2
  refine ⟨fun hlt => ?_, fun hge => ?_⟩
  · have ef : p.n - i.toNat = (p.n - (i.toNat + 1)) + 1 := by omega
    rw [ef] at i2
    have i3 : p.chk = if p.errAt i.toNat = 0 then p.chkF (p.n - (i.toNat + 1)) (i.toNat + 1) else p.errAt i.toNat := i2
    have stop : p.errAt i.toNat ≠ 0 → p.chk = p.errAt i.toNat := fun h => by rw [i3, if_neg h]
    have et : (i + 1).toNat = i.toNat + 1 := by omega
    have next : p.errAt i.toNat = 0 → (0 ≤ i + 1 ∧ i + 1 ≤ p.n) ∧ p.chkF p.n 0 = p.chkF (p.n - (i + 1).toNat) (i + 1).toNat := fun h => ⟨⟨by omega, by omega⟩, by rw [← hc (by omega), i3, if_pos h, et]⟩
    have e14 : ((p.f i.toNat).k < 1 ∨ 4 < (p.f i.toNat).k) → p.errAt i.toNat = 14 := fun h => if_pos h
    have ep : (i - 1).toNat = i.toNat - 1 := by omega
    have e18 : ¬ ((p.f i.toNat).k < 1 ∨ 4 < (p.f i.toNat).k) → (i.toNat = 0 ∨ (p.f (i.toNat - 1)).k = 4) → (p.f i.toNat).k ≠ 1 → p.errAt i.toNat = 18 := fun h h2 h3 => by unfold Pth.errAt; rw [if_neg h, if_pos ⟨h2, h3⟩]
    have eS : ¬ ((p.f i.toNat).k < 1 ∨ 4 < (p.f i.toNat).k) → ¬ ((i.toNat = 0 ∨ (p.f (i.toNat - 1)).k = 4) ∧ (p.f i.toNat).k ≠ 1) → p.errAt i.toNat = segE (p.f i.toNat) := fun h h2 => by unfold Pth.errAt; rw [if_neg h, if_neg h2]
    have ms : (p.n - (i + 1)).toNat < (p.n - i).toNat := by omega
    have fin : ∀ (_ : ¬ ((p.f i.toNat).k < 1 ∨ 4 < (p.f i.toNat).k)) (_ : ¬ ((i.toNat = 0 ∨ (p.f (i.toNat - 1)).k = 4) ∧ (p.f i.toNat).k ≠ 1)), (¬ segE (p.f i.toNat) = 0 → segE (p.f i.toNat) = p.chk) ∧ (¬¬ segE (p.f i.toNat) = 0 → (-9223372036854775808 ≤ i + 1 ∧ i + 1 ≤ 9223372036854775807) ∧ ∃ g', (ckInv p).pre g' ∧ i + 1 = g' ∧ (ckInv p).meas g' < (ckInv p).meas i) := fun h h2 => by
      have e := eS h h2
      exact ⟨fun h3 => by rw [stop (by rw [e]; exact h3), e], fun h3 => ⟨by omega, i + 1, next (by rw [e]; exact Classical.not_not.1 h3), rfl, ms⟩⟩
    rw [ep]
    refine ⟨⟨i0, hlt⟩, fun h => by rw [stop (by rw [e14 (.inl h)]; decide), e14 (.inl h)], fun a1 => ⟨fun h => by rw [stop (by rw [e14 (.inr h)]; decide), e14 (.inr h)], fun a2 => ?_⟩⟩
    have a3 : ¬ ((p.f i.toNat).k < 1 ∨ 4 < (p.f i.toNat).k) := fun h => h.elim a1 a2
    refine ⟨fun h0 => ⟨fun h => by have e := e18 a3 (.inl (by clear fin; omega)) h; rw [stop (by rw [e]; decide), e], fun h => fin a3 fun hh => h hh.2⟩, fun h0 => ⟨by omega, ⟨by omega, by omega⟩, fun h4 => ⟨fun h => by have e := e18 a3 (.inr h4) h; rw [stop (by rw [e]; decide), e], fun h => fin a3 fun hh => h hh.2⟩, fun h4 => fin a3 fun hh => ?_⟩⟩
    rcases hh.1 with hh1 | hh1
    · clear fin; omega
    · exact h4 hh1
  · have : p.n - i.toNat = 0 := by omega
    rw [this] at i2
    exact i2.symm
theorem chkF_0 {p : Pth} : ∀ (m i : Nat), p.chkF m i = 0 → ∀ j, i ≤ j → j < i + m → p.errAt j = 0
  | 0, i, _, j, h1, h2 => by omega
  | m + 1, i, h, j, h1, h2 => by
    unfold Pth.chkF at h
    by_cases he : p.errAt i = 0
    · rw [if_pos he] at h
      by_cases hj : j = i
      · subst hj; exact he
      · exact chkF_0 m (i + 1) h j (by omega) (by omega)
    · rw [if_neg he] at h
      exact absurd h he
theorem chkF_1 {p : Pth} : ∀ (m i : Nat), (∀ j, i ≤ j → j < i + m → p.errAt j = 0) → p.chkF m i = 0
  | 0, _, _ => rfl
  | m + 1, i, h => by
    unfold Pth.chkF
    rw [if_pos (h i (by omega) (by omega))]
    exact chkF_1 m (i + 1) fun j h1 h2 => h j (by omega) (by omega)
theorem chk_0 {p : Pth} : p.chk = 0 ↔ p.n ≤ 1000 ∧ ∀ i, i < p.n → p.errAt i = 0 := by
  unfold Pth.chk
  by_cases h : 1000 < p.n
  · rw [if_pos h]
    exact ⟨fun h2 => by omega, fun h2 => by omega⟩
  · rw [if_neg h]
    exact ⟨fun h2 => ⟨by omega, fun i hi => chkF_0 _ _ h2 i (by omega) (by omega)⟩, fun h2 => chkF_1 _ _ fun j _ hj => h2.2 j (by omega)⟩
/-- What is known of a segment of a valid path. -/
theorem seg_ok {p : Pth} (h : p.chk = 0) {i : Nat} (hi : i < p.n) : (1 ≤ (p.f i).k ∧ (p.f i).k ≤ 4) ∧ ((i = 0 ∨ (p.f (i - 1)).k = 4) → (p.f i).k = 1) ∧ segE (p.f i) = 0 := by
  have e := (chk_0.1 h).2 i hi
  unfold Pth.errAt at e
  by_cases h1 : (p.f i).k < 1 ∨ 4 < (p.f i).k
  · rw [if_pos h1] at e; omega
  · rw [if_neg h1] at e
    by_cases h2 : (i = 0 ∨ (p.f (i - 1)).k = 4) ∧ (p.f i).k ≠ 1
    · rw [if_pos h2] at e; omega
    · rw [if_neg h2] at e
      exact ⟨by omega, fun h3 => Classical.byContradiction fun h4 => h2 ⟨h3, h4⟩, e⟩
/-! Subpaths. -/
/-- How many subpaths begin among the first i segments; where subpath t begins, how long it is so far. -/
def Pth.mv (p : Pth) : Nat → Nat
  | 0 => 0
  | i + 1 => p.mv i + if (p.f i).k = 1 then 1 else 0
def Pth.st (p : Pth) : Nat → Nat → Nat
  | 0, _ => 0
  | i + 1, t => if (p.f i).k = 1 ∧ t = p.mv i then i else p.st i t
def Pth.ln (p : Pth) : Nat → Nat → Nat
  | 0, _ => 0
  | i + 1, t => if t + 1 = p.mv (i + 1) then (if (p.f i).k = 1 then 1 else p.ln i t + 1) else p.ln i t
def Pth.sub (p : Pth) (i t : Nat) : Pth := ⟨p.ln i t, fun j => p.f (p.st i t + j)⟩
theorem mv_pos {p : Pth} (h : p.chk = 0) : ∀ i, 0 < i → i ≤ p.n → 1 ≤ p.mv i
  | 0, h0, _ => by omega
  | i + 1, _, hi => by
    show 1 ≤ p.mv i + if (p.f i).k = 1 then 1 else 0
    by_cases h0 : i = 0
    · subst h0
      rw [if_pos ((seg_ok h (i := 0) (by omega)).2.1 (.inl rfl))]
      omega
    · have := mv_pos h i (by omega) (by omega)
      omega
/-- The last subpath so far ends where the next segment stands. -/
theorem st_ln {p : Pth} (h : p.chk = 0) : ∀ i, i ≤ p.n → ∀ t, t + 1 = p.mv i → p.st i t + p.ln i t = i
  | 0, _, t, ht => by unfold Pth.mv at ht; omega
  | i + 1, hi, t, ht => by
    have hm : p.mv (i + 1) = p.mv i + if (p.f i).k = 1 then 1 else 0 := rfl
    show (if (p.f i).k = 1 ∧ t = p.mv i then i else p.st i t) + (if t + 1 = p.mv (i + 1) then (if (p.f i).k = 1 then 1 else p.ln i t + 1) else p.ln i t) = i + 1
    rw [if_pos ht]
    by_cases hk : (p.f i).k = 1
    · rw [if_pos hk] at hm ⊢
      rw [if_pos ⟨hk, by omega⟩]
    · rw [if_neg hk] at hm ⊢
      rw [if_neg (fun hc => hk hc.1)]
      have := st_ln h i (by omega) t (by omega)
      omega
theorem seg6 {s s' : Seg} (h : s = s') : ((((s.k = s'.k ∧ s.x = s'.x) ∧ s.y = s'.y) ∧ s.u = s'.u) ∧ s.v = s'.v) ∧ s.w = s'.w := by
  rw [h]; exact ⟨⟨⟨⟨⟨rfl, rfl⟩, rfl⟩, rfl⟩, rfl⟩, rfl⟩
def subS (p : Pth) (i : Nat) : SV := .sl (p.mv i) 1 (fun t _ => pthS (p.sub i t))
def suInv (p : Pth) : Inv := ⟨Int, fun i => 0 ≤ i ∧ i ≤ p.n, fun i => ⟨[(0, pthS p), (3, .osl 0 0), (7, pthS p), (8, .int .i64 p.n), (9, .int .i64 i)],
  [.row 0 (p.mv i.toNat) 1 (fun t _ => pthS (p.sub i.toNat t)) 22]⟩, fun i => (p.n - i).toNat⟩
end Go.Proofs.YthappngbapbkfaaDoor.Pth
