/- Regions as sets of cells: the plain law. -/
import Derived.Test.YtbkgncikjhibiaaRga
set_option linter.unusedSimpArgs false
set_option linter.unusedVariables false
namespace Go.Proofs.Ytbkgncikjhibiaa.Rgl
open Rga
/-- The cells of runs. -/
def inR (r : Rn) (y x : Int) : Bool := decide (r.y = y ∧ r.x0 ≤ x ∧ x < r.x1)
def mem (L : List Rn) (y x : Int) : Bool := L.any (fun r => inR r y x)
theorem inR_iff (r : Rn) (y x : Int) : inR r y x = true ↔ r.y = y ∧ r.x0 ≤ x ∧ x < r.x1 := decide_eq_true_iff
theorem mem_iff (L : List Rn) (y x : Int) : mem L y x = true ↔ ∃ r ∈ L, r.y = y ∧ r.x0 ≤ x ∧ x < r.x1 := by
  unfold mem
  rw [List.any_eq_true]
  exact ⟨fun ⟨r, h, e⟩ => ⟨r, h, (inR_iff _ _ _).1 e⟩, fun ⟨r, h, e⟩ => ⟨r, h, (inR_iff _ _ _).2 e⟩⟩
theorem mem_cons (r : Rn) (L : List Rn) (y x : Int) : mem (r :: L) y x = (inR r y x || mem L y x) := rfl
theorem mem_app (L M : List Rn) (y x : Int) : mem (L ++ M) y x = (mem L y x || mem M y x) := by
  unfold mem; rw [List.any_append]
theorem mem_one (r : Rn) (y x : Int) : mem [r] y x = inR r y x := by
  unfold mem; simp
theorem vld_nil : vld [] := ⟨fun _ h => (List.not_mem_nil h).elim, List.Pairwise.nil⟩
theorem vld_cons {r : Rn} {L : List Rn} : vld (r :: L) ↔ okR r ∧ (∀ s ∈ L, ltR r s) ∧ vld L := by
  unfold vld
  rw [List.pairwise_cons]
  constructor
  · rintro ⟨h1, h2, h3⟩
    exact ⟨h1 r (List.mem_cons_self ..), h2, fun s hs => h1 s (List.mem_cons_of_mem _ hs), h3⟩
  · rintro ⟨h1, h2, h3, h4⟩
    refine ⟨fun s hs => ?_, h2, h4⟩
    rcases List.mem_cons.1 hs with rfl | hs
    · exact h1
    · exact h3 s hs
theorem vld_snoc {r : Rn} {L : List Rn} : vld (L ++ [r]) ↔ vld L ∧ okR r ∧ ∀ s ∈ L, ltR s r := by
  unfold vld
  rw [List.pairwise_append]
  constructor
  · rintro ⟨h1, h2, _, h3⟩
    exact ⟨⟨fun s hs => h1 s (List.mem_append_left _ hs), h2⟩, h1 r (List.mem_append_right _ (List.mem_singleton.2 rfl)), fun s hs => h3 s hs r (List.mem_singleton.2 rfl)⟩
  · rintro ⟨⟨h1, h2⟩, h3, h4⟩
    refine ⟨fun s hs => ?_, h2, List.pairwise_singleton _ _, fun s hs t ht => ?_⟩
    · rcases List.mem_append.1 hs with hs | hs
      · exact h1 s hs
      · rw [List.mem_singleton.1 hs]; exact h3
    · rw [List.mem_singleton.1 ht]; exact h4 s hs
/-- What comes after a first run lies beyond it. -/
theorem beyond {r : Rn} {L : List Rn} (h : vld (r :: L)) {y x : Int} (hm : mem L y x = true) : r.y < y ∨ (r.y = y ∧ r.x1 < x) := by
  obtain ⟨s, hs, h1, h2, h3⟩ := (mem_iff _ _ _).1 hm
  have := (vld_cons.1 h).2.1 s hs
  unfold ltR at this
  omega
theorem from_first {r : Rn} {L : List Rn} (h : vld (r :: L)) {y x : Int} (hm : mem (r :: L) y x = true) : r.y < y ∨ (r.y = y ∧ r.x0 ≤ x) := by
  rw [mem_cons, Bool.or_eq_true] at hm
  rcases hm with hm | hm
  · have := (inR_iff _ _ _).1 hm; omega
  · have := beyond h hm
    have := (vld_cons.1 h).1.2
    omega
theorem first_in {r : Rn} {L : List Rn} (h : vld (r :: L)) : mem (r :: L) r.y r.x0 = true := by
  rw [mem_cons, (inR_iff _ _ _).2 ⟨rfl, Int.le_refl _, (vld_cons.1 h).1.2⟩]; rfl
theorem tail_mem {r : Rn} {L : List Rn} (h : vld (r :: L)) (y x : Int) : mem L y x = (mem (r :: L) y x && !inR r y x) := by
  rw [mem_cons]
  by_cases hr : inR r y x = true
  · rw [hr]
    have : mem L y x ≠ true := fun hm => by
      have := beyond h hm
      have := (inR_iff _ _ _).1 hr
      omega
    simpa using this
  · rw [Bool.not_eq_true] at hr
    rw [hr]; simp
theorem noend {r : Rn} {L : List Rn} (h : vld (r :: L)) : ¬ mem (r :: L) r.y r.x1 = true := by
  rw [mem_cons, Bool.or_eq_true]
  rintro (hm | hm)
  · have := (inR_iff _ _ _).1 hm; omega
  · have := beyond h hm; omega
/-- A valid list of runs is known by its cells. -/
theorem uniq : ∀ (L M : List Rn), vld L → vld M → (∀ y x, mem L y x = mem M y x) → L = M := by
  intro L
  induction L with
  | nil =>
    intro M _ hM h
    cases M with
    | nil => rfl
    | cons s M =>
      have := first_in hM
      rw [← h] at this
      cases this
  | cons r L ih =>
    intro M hL hM h
    cases M with
    | nil =>
      have := first_in hL
      rw [h] at this
      cases this
    | cons s M =>
      have h1 := from_first hM (by rw [← h]; exact first_in hL)
      have h2 := from_first hL (by rw [h]; exact first_in hM)
      have ey : r.y = s.y := by omega
      have ex : r.x0 = s.x0 := by omega
      have o1 := (vld_cons.1 hL).1.2
      have o2 := (vld_cons.1 hM).1.2
      have e1 : r.x1 = s.x1 := by
        rcases Int.lt_trichotomy r.x1 s.x1 with hlt | he | hlt
        · exact absurd (by rw [h, ey, mem_cons, (inR_iff _ _ _).2 ⟨rfl, by omega, hlt⟩]; rfl) (noend hL)
        · exact he
        · exact absurd (by rw [← h, ← ey, mem_cons, (inR_iff _ _ _).2 ⟨rfl, by omega, hlt⟩]; rfl) (noend hM)
      have e : r = s := by cases r; cases s; simp only at ey ex e1; subst ey ex e1; rfl
      subst e
      rw [ih M (vld_cons.1 hL).2.2 (vld_cons.1 hM).2.2 (fun y x => by rw [tail_mem hL, tail_mem hM, h])]
/-- The region of a set of cells, if there is one. -/
noncomputable def ofSet (χ : Int → Int → Bool) : List Rn := open Classical in if h : ∃ L, vld L ∧ ∀ y x, mem L y x = χ y x then h.choose else []
theorem ofSet_vld (χ : Int → Int → Bool) : vld (ofSet χ) := by
  unfold ofSet
  split
  · next h => exact h.choose_spec.1
  · exact vld_nil
theorem ofSet_eq {χ : Int → Int → Bool} {L : List Rn} (h1 : vld L) (h2 : ∀ y x, mem L y x = χ y x) : ofSet χ = L := by
  unfold ofSet
  have h : ∃ L, vld L ∧ ∀ y x, mem L y x = χ y x := ⟨L, h1, h2⟩
  rw [dif_pos h]
  exact uniq _ _ h.choose_spec.1 h1 (fun y x => by rw [h.choose_spec.2, h2])
/-! How many runs. -/
def key (r : Rn) : Int := r.y * 16385 + r.x0
theorem vld_len' : ∀ (L : List Rn) (r : Rn), vld (r :: L) → ((r :: L).length : Int) ≤ 134226112 - key r := by
  intro L
  induction L with
  | nil =>
    intro r h
    obtain ⟨⟨⟨h1, h2⟩, ⟨h3, h4⟩, h5, h6⟩, h7⟩ := (vld_cons.1 h).1
    show (1 : Int) ≤ _
    unfold key; omega
  | cons s L ih =>
    intro r h
    have h0 := ih s (vld_cons.1 h).2.2
    have hl := (vld_cons.1 h).2.1 s (List.mem_cons_self ..)
    obtain ⟨⟨⟨h1, h2⟩, ⟨h3, h4⟩, h5, h6⟩, h7⟩ := (vld_cons.1 h).1
    obtain ⟨⟨⟨k1, k2⟩, ⟨k3, k4⟩, k5, k6⟩, k7⟩ := (vld_cons.1 (vld_cons.1 h).2.2).1
    have e : ((r :: s :: L).length : Int) = ((s :: L).length : Int) + 1 := by simp
    rw [e]
    unfold key ltR at *
    omega
theorem vld_len {L : List Rn} (h : vld L) : L.length ≤ 300000000 := by
  cases L with
  | nil => exact Nat.zero_le _
  | cons r L =>
    have := vld_len' L r h
    obtain ⟨⟨⟨h1, h2⟩, ⟨h3, h4⟩, h5, h6⟩, h7⟩ := (vld_cons.1 h).1
    unfold key at this
    omega
/-! Adding a run. -/
theorem last_cases (L : List Rn) : L = [] ∨ ∃ P s, L = P ++ [s] := by
  rcases List.eq_nil_or_concat L with h | ⟨P, s, h⟩
  · exact .inl h
  · exact .inr ⟨P, s, by rw [h, List.concat_eq_append]⟩
theorem add_snoc (P : List Rn) (s r : Rn) : addR (P ++ [s]) r = if r.x0 < r.x1 then (if s.y = r.y ∧ r.x0 ≤ s.x1 then P ++ [⟨s.y, s.x0, if r.x1 > s.x1 then r.x1 else s.x1⟩] else P ++ [s] ++ [r]) else P ++ [s] := by
  unfold addR
  simp
theorem add_nil (r : Rn) : addR [] r = if r.x0 < r.x1 then [r] else [] := rfl
/-- The last run begins no later. -/
def aft (L : List Rn) (y x : Int) : Prop := ∀ s, L.getLast? = some s → s.y < y ∨ (s.y = y ∧ s.x0 ≤ x)
/-- The last run ends no later. -/
def aftE (L : List Rn) (y x : Int) : Prop := ∀ s, L.getLast? = some s → s.y < y ∨ (s.y = y ∧ s.x1 ≤ x)
theorem aft_snoc {P : List Rn} {s : Rn} {y x : Int} : aft (P ++ [s]) y x ↔ s.y < y ∨ (s.y = y ∧ s.x0 ≤ x) := by
  unfold aft; simp
theorem aftE_snoc {P : List Rn} {s : Rn} {y x : Int} : aftE (P ++ [s]) y x ↔ s.y < y ∨ (s.y = y ∧ s.x1 ≤ x) := by
  unfold aftE; simp
theorem aft_nil {y x : Int} : aft [] y x := fun s h => by cases h
theorem aftE_nil {y x : Int} : aftE [] y x := fun s h => by cases h
theorem aft_of {L : List Rn} (hL : vld L) {y x : Int} (h : aftE L y x) : aft L y x := by
  rcases last_cases L with rfl | ⟨P, s, rfl⟩
  · exact aft_nil
  · rw [aftE_snoc] at h
    rw [aft_snoc]
    have := (vld_snoc.1 hL).2.1.2
    omega
theorem add_ok {L : List Rn} (hL : vld L) {r : Rn} (hr : r.x0 < r.x1 → okR r) (h : aft L r.y r.x0) :
    vld (addR L r) ∧ (∀ y x, mem (addR L r) y x = (mem L y x || inR r y x)) ∧ (∀ y x, (r.y < y ∨ (r.y = y ∧ r.x0 ≤ x)) → aft (addR L r) y x) := by
  by_cases hx : r.x0 < r.x1
  · have hr := hr hx
    rcases last_cases L with rfl | ⟨P, s, rfl⟩
    · rw [add_nil, if_pos hx]
      refine ⟨vld_cons.2 ⟨hr, fun _ h => (List.not_mem_nil h).elim, vld_nil⟩, fun y x => ?_, fun y x hy => ?_⟩
      · rw [mem_one]; rfl
      · exact (aft_snoc (P := [])).2 hy
    · rw [add_snoc, if_pos hx]
      obtain ⟨hP, hs, hPs⟩ := vld_snoc.1 hL
      rw [aft_snoc] at h
      obtain ⟨⟨⟨h1, h2⟩, ⟨h3, h4⟩, h5, h6⟩, h7⟩ := hr
      obtain ⟨⟨⟨k1, k2⟩, ⟨k3, k4⟩, k5, k6⟩, k7⟩ := hs
      by_cases hm : s.y = r.y ∧ r.x0 ≤ s.x1
      · rw [if_pos hm]
        refine ⟨vld_snoc.2 ⟨hP, ⟨⟨⟨k1, k2⟩, ⟨k3, k4⟩, ?_⟩, ?_⟩, fun p hp => hPs p hp⟩, fun y x => ?_, fun y x hy => ?_⟩
        · show -8192 ≤ (if r.x1 > s.x1 then r.x1 else s.x1) ∧ (if r.x1 > s.x1 then r.x1 else s.x1) ≤ 8192
          split <;> omega
        · show s.x0 < (if r.x1 > s.x1 then r.x1 else s.x1)
          split <;> omega
        · rw [mem_app, mem_app, mem_one, mem_one, Bool.or_assoc]
          congr 1
          rw [Bool.eq_iff_iff, Bool.or_eq_true, inR_iff, inR_iff, inR_iff]
          show s.y = y ∧ s.x0 ≤ x ∧ x < (if r.x1 > s.x1 then r.x1 else s.x1) ↔ _
          split <;> omega
        · rw [aft_snoc]
          show s.y < y ∨ (s.y = y ∧ s.x0 ≤ x)
          omega
      · rw [if_neg hm]
        refine ⟨vld_snoc.2 ⟨hL, ⟨⟨⟨h1, h2⟩, ⟨h3, h4⟩, h5, h6⟩, h7⟩, fun p hp => ?_⟩, fun y x => ?_, fun y x hy => aft_snoc.2 hy⟩
        · have hsr : ltR s r := by unfold ltR; omega
          rcases List.mem_append.1 hp with hp | hp
          · have := hPs p hp
            unfold ltR at *
            omega
          · rw [List.mem_singleton.1 hp]; exact hsr
        · rw [mem_app _ [r], mem_one]
  · have e : addR L r = L := if_neg hx
    rw [e]
    refine ⟨hL, fun y x => ?_, fun y x hy s hs => ?_⟩
    · have : inR r y x = false := by
        rw [← Bool.not_eq_true, inR_iff]; omega
      rw [this, Bool.or_false]
    · have := h s hs
      omega
theorem add_end {L : List Rn} {r : Rn} (h : aftE L r.y r.x0) (hx : r.x0 ≤ r.x1) : aftE (addR L r) r.y r.x1 := by
  by_cases hx' : r.x0 < r.x1
  · rcases last_cases L with rfl | ⟨P, s, rfl⟩
    · rw [add_nil, if_pos hx']
      exact (aftE_snoc (P := [])).2 (.inr ⟨rfl, Int.le_refl _⟩)
    · rw [add_snoc, if_pos hx']
      rw [aftE_snoc] at h
      split
      · next hm =>
        rw [aftE_snoc]
        show s.y < r.y ∨ (s.y = r.y ∧ (if r.x1 > s.x1 then r.x1 else s.x1) ≤ r.x1)
        split <;> omega
      · exact aftE_snoc.2 (.inr ⟨rfl, Int.le_refl _⟩)
  · rw [show addR L r = L from if_neg hx']
    intro s hs
    have := h s hs
    omega
end Go.Proofs.Ytbkgncikjhibiaa.Rgl
