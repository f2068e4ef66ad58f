/- Regions: the cells of what combine and Join return; the laws (plain). -/
import Derived.Test.YtbkgncikjhibiaaRgh
set_option linter.unusedSimpArgs false
set_option linter.unusedVariables false
namespace Go.Proofs.Ytbkgncikjhibiaa.Rgo
open Rga Rgl Rgm Rgn Rgb Rgf Rgg Rgh
/-! combine. -/
theorem cb_run {g : CbG} {K : Bool → Bool → Bool} (ha : vld g.a.L) (hb : vld g.b.L) (hK : K false false = false) : ∀ (m : Nat) (s : CsG), CbP g K s → 2 * g.a.n + 2 * g.b.n - s.i - s.j = m → ∃ s', CbP g K s' ∧ s'.i = 2 * g.a.n ∧ s'.j = 2 * g.b.n := by
  intro m
  induction m with
  | zero =>
    intro s P h
    have h1 := P.hi
    have h2 := P.hj
    exact ⟨s, P, by omega, by omega⟩
  | succ m ih =>
    intro s P h
    have h1 := P.hi
    have h2 := P.hj
    by_cases hA : s.i < 2 * g.a.n ∧ (s.j < 2 * g.b.n → le2 (eY g.a.f s.i) (eX g.a.f s.i) (eY g.b.f s.j) (eX g.b.f s.j))
    · exact ih _ (cb_stepA ha hb hK P hA.1 hA.2) (by show 2 * g.a.n + 2 * g.b.n - (s.i + 1) - s.j = m; omega)
    · have hj : s.j < 2 * g.b.n := by
        refine Classical.byContradiction fun hc => hA ⟨by omega, fun h => absurd h hc⟩
      have hle : s.i < 2 * g.a.n → le2 (eY g.b.f s.j) (eX g.b.f s.j) (eY g.a.f s.i) (eX g.a.f s.i) := fun hi => by
        by_cases hc : le2 (eY g.a.f s.i) (eX g.a.f s.i) (eY g.b.f s.j) (eX g.b.f s.j)
        · exact absurd ⟨hi, fun _ => hc⟩ hA
        · omega
      exact ih _ (cb_stepB ha hb hK P hj hle) (by show 2 * g.a.n + 2 * g.b.n - s.i - (s.j + 1) = m; omega)
theorem cb_mem {g : CbG} {K : Bool → Bool → Bool} (ha : vld g.a.L) (hb : vld g.b.L) (hK : K false false = false) (y x : Int) : mem (cbOut K g) y x = K (mem g.a.L y x) (mem g.b.L y x) := by
  obtain ⟨s, P, hi, hj⟩ := cb_run ha hb hK _ _ (cb_start g K) rfl
  have hm := P.hm
  have h0 := P.h0
  rw [show cbOut K g = s.L from cb_end ha hb hK P hi hj]
  have c1 := P.c1; have c2 := P.c2
  rw [hi] at c1 hm h0
  rw [hj] at c2 hm h0
  have e0 : ∀ n : Nat, odd (2 * n) = false := fun n => decide_eq_false (by omega)
  have par : (0 < 2 * g.a.n + 2 * g.b.n → le2 s.from'.y s.from'.x y x) → K (mem g.a.L y x) (mem g.b.L y x) = false := fun h1 => by
    rw [parity ha (Nat.le_refl _) (fun h => by have := c1 h; have := h1 (by omega); omega) (fun h => absurd h (Nat.lt_irrefl _)), parity hb (Nat.le_refl _) (fun h => by have := c2 h; have := h1 (by omega); omega) (fun h => absurd h (Nat.lt_irrefl _)), e0, e0, hK]
  rcases Nat.eq_zero_or_pos (2 * g.a.n + 2 * g.b.n) with h | h
  · rw [h0 h, par (fun h' => by omega)]; rfl
  · rw [hm h]
    by_cases d : lt2 y x s.from'.y s.from'.x
    · rw [decide_eq_true d, Bool.true_and]
    · rw [decide_eq_false d, par (fun _ => by omega)]; rfl
/-- Two lists combined. -/
noncomputable def un (K : Bool → Bool → Bool) (A B : List Rn) : List Rn := cbOut K ⟨⟨A.length, rI A⟩, ⟨B.length, rI B⟩⟩
theorem un_vld (K : Bool → Bool → Bool) (A B : List Rn) : vld (un K A B) := ofSet_vld _
theorem un_mem {K : Bool → Bool → Bool} (hK : K false false = false) {A B : List Rn} (hA : vld A) (hB : vld B) (y x : Int) : mem (un K A B) y x = K (mem A y x) (mem B y x) := by
  have h := cb_mem (g := ⟨⟨A.length, rI A⟩, ⟨B.length, rI B⟩⟩) (K := K) (by rw [Rg.L_of]; exact hA) (by rw [Rg.L_of]; exact hB) hK y x
  rw [Rg.L_of, Rg.L_of] at h
  exact h
/-! Join. -/
theorem jo_run {f : Nat → Rn} {n : Nat} (ok : ∀ k, k < n → okR (f k)) (srt : ∀ j k, j < k → k < n → le0 (f j) (f k)) : ∀ i, i ≤ n → ∃ L, JoP f n i L
  | 0, _ => ⟨[], jo_start f n⟩
  | i + 1, h => by
    obtain ⟨L, P⟩ := jo_run ok srt i (by omega)
    exact ⟨_, jo_step ok srt P h⟩
theorem jo_mem {g : Rg} (hok : ∀ i, i < g.n → okR (g.f i)) (y x : Int) : mem (joOut g) y x = mem g.L y x := by
  have hmem : ∀ k, k < g.n → rI (srt g) k ∈ srt g := fun k hk => by
    unfold rI
    rw [List.getD_eq_getElem?_getD, List.getElem?_eq_getElem (by rw [srt_len]; exact hk)]
    exact List.getElem_mem _
  have oks : ∀ k, k < g.n → okR (rI (srt g) k) := fun k hk => by
    obtain ⟨j, hj, e⟩ := List.mem_map.1 ((srt_perm g).mem_iff.1 (hmem k hk))
    rw [← e]
    exact hok j (List.mem_range.1 hj)
  have srt' : ∀ j k, j < k → k < g.n → le0 (rI (srt g) j) (rI (srt g) k) := fun j k hjk hk => by
    have h := srt_sorted g hjk hk
    rw [lt_iff'] at h
    obtain ⟨⟨⟨a1, a2⟩, ⟨a3, a4⟩, _⟩, _⟩ := oks j (by omega)
    obtain ⟨⟨⟨b1, b2⟩, ⟨b3, b4⟩, _⟩, _⟩ := oks k hk
    rw [cl_ok a1 (by omega), cl_ok a3 a4, cl_ok b1 (by omega), cl_ok b3 b4] at h
    unfold le0
    omega
  obtain ⟨L, P⟩ := jo_run oks srt' g.n (Nat.le_refl _)
  have es : Lf (rI (srt g)) g.n = srt g := by rw [← srt_len g]; exact Lf_rI _
  have e : ∀ y x, mem L y x = mem g.L y x := fun y x => by rw [P.hm, es]; exact mem_congr (fun r => (srt_perm g).mem_iff) y x
  rw [show joOut g = L from ofSet_eq P.hL e]
  exact e y x
/-! near. -/
noncomputable def nr (m : Int) (g : Rg) : List Rn := joOut (NrG.o ⟨g, m⟩).r
theorem nr_vld (m : Int) (g : Rg) : vld (nr m g) := ofSet_vld _
theorem nr_in {m : Int} (hm : 1 ≤ m ∧ m ≤ 1000) {g : Rg} {r : Rn} (hr : r ∈ nr m g) : (-m ≤ r.y ∧ r.y ≤ m) ∧ -m ≤ r.x0 ∧ r.x1 ≤ m + 1 := by
  have hok : ∀ i, i < (NrG.o ⟨g, m⟩).r.n → okR ((NrG.o ⟨g, m⟩).r.f i) := fun i hi => by
    have h := NrG.L_ok ⟨g, m⟩ hm.1 (min g.n 30) _ (pI_mem hi)
    refine okR_pt ?_
    have h : (-m ≤ ((NrG.o ⟨g, m⟩).f i).x ∧ ((NrG.o ⟨g, m⟩).f i).x ≤ m) ∧ -m ≤ ((NrG.o ⟨g, m⟩).f i).y ∧ ((NrG.o ⟨g, m⟩).f i).y ≤ m := h
    unfold okPt
    omega
  have cell : ∀ y x, mem (nr m g) y x = true → (-m ≤ y ∧ y ≤ m) ∧ -m ≤ x ∧ x ≤ m := fun y x h => by
    rw [show nr m g = joOut (NrG.o ⟨g, m⟩).r from rfl, jo_mem hok, mem_g] at h
    obtain ⟨i, hi, e1, e2, e3⟩ := h
    have h := NrG.L_ok ⟨g, m⟩ hm.1 (min g.n 30) _ (pI_mem hi)
    have h : (-m ≤ ((NrG.o ⟨g, m⟩).f i).x ∧ ((NrG.o ⟨g, m⟩).f i).x ≤ m) ∧ -m ≤ ((NrG.o ⟨g, m⟩).f i).y ∧ ((NrG.o ⟨g, m⟩).f i).y ≤ m := h
    have e1 : ((NrG.o ⟨g, m⟩).f i).y = y := e1
    have e2 : ((NrG.o ⟨g, m⟩).f i).x ≤ x := e2
    have e3 : x < ((NrG.o ⟨g, m⟩).f i).x + 1 := e3
    omega
  have ok := (nr_vld m g).1 r hr
  have h1 := cell r.y r.x0 ((mem_iff _ _ _).2 ⟨r, hr, rfl, Int.le_refl _, ok.2⟩)
  have h2 := cell r.y (r.x1 - 1) ((mem_iff _ _ _).2 ⟨r, hr, rfl, by have := ok.2; omega, by omega⟩)
  omega
/-! The laws. -/
theorem algebra {A B C : List Rn} (hA : vld A) (hB : vld B) (hC : vld C) : un and A (un or B C) = un or (un and A B) (un and A C) ∧ un mn A (un or B C) = un and (un mn A B) (un mn A C) := by
  constructor
  · refine uniq _ _ (un_vld _ _ _) (un_vld _ _ _) (fun y x => ?_)
    rw [un_mem rfl hA (un_vld _ _ _), un_mem rfl hB hC, un_mem rfl (un_vld _ _ _) (un_vld _ _ _), un_mem rfl hA hB, un_mem rfl hA hC]
    cases mem A y x <;> cases mem B y x <;> cases mem C y x <;> rfl
  · refine uniq _ _ (un_vld _ _ _) (un_vld _ _ _) (fun y x => ?_)
    rw [un_mem rfl hA (un_vld _ _ _), un_mem rfl hB hC, un_mem rfl (un_vld _ _ _) (un_vld _ _ _), un_mem rfl hA hB, un_mem rfl hA hC]
    cases mem A y x <;> cases mem B y x <;> cases mem C y x <;> rfl
theorem areas' {A B : List Rn} (hA : vld A) (hB : vld B) : areaL (un or A B) = areaL A + areaL B - areaL (un and A B) ∧ areaL (un mn A B) = areaL A - areaL (un and A B) ∧ areaL (un bne A B) = areaL (un or A B) - areaL (un and A B) :=
  areas hA hB (un_vld _ _ _) (un_vld _ _ _) (un_vld _ _ _) (un_vld _ _ _) (un_mem rfl hA hB) (un_mem rfl hA hB) (un_mem rfl hA hB) (un_mem rfl hA hB)
end Go.Proofs.Ytbkgncikjhibiaa.Rgo
