/- Regions: the sweep over the edges of two of them (plain law). -/
import Derived.Test.YtbkgncikjhibiaaRgl
set_option linter.unusedSimpArgs false
set_option linter.unusedVariables false
namespace Go.Proofs.Ytbkgncikjhibiaa.Rgm
open Rga Rgl
def eY (f : Nat → Rn) (k : Nat) : Int := (f (k / 2)).y
abbrev le2 (y x y' x' : Int) : Prop := y < y' ∨ (y = y' ∧ x ≤ x')
abbrev lt2 (y x y' x' : Int) : Prop := y < y' ∨ (y = y' ∧ x < x')
theorem le2_trans {a b c d e f : Int} (h : le2 a b c d) (h' : le2 c d e f) : le2 a b e f := by omega
theorem lt2_le {a b c d : Int} (h : lt2 a b c d) : le2 a b c d := by omega
def odd (i : Nat) : Bool := decide (i % 2 = 1)
theorem ok_of {g : Rg} (h : vld g.L) {i : Nat} (hi : i < g.n) : okR (g.f i) := h.1 _ (List.mem_map.2 ⟨i, List.mem_range.2 hi, rfl⟩)
theorem lt_of {g : Rg} (h : vld g.L) {i j : Nat} (hij : i < j) (hj : j < g.n) : ltR (g.f i) (g.f j) := by
  have := List.pairwise_iff_getElem.1 h.2 i j (by rw [Rg.len]; omega) (by rw [Rg.len]; exact hj) hij
  simpa [Rg.L] using this
theorem mem_g {g : Rg} {y x : Int} : mem g.L y x = true ↔ ∃ i, i < g.n ∧ (g.f i).y = y ∧ (g.f i).x0 ≤ x ∧ x < (g.f i).x1 := by
  rw [mem_iff]
  unfold Rg.L
  constructor
  · rintro ⟨r, hr, h⟩
    obtain ⟨i, hi, rfl⟩ := List.mem_map.1 hr
    exact ⟨i, List.mem_range.1 hi, h⟩
  · rintro ⟨i, hi, h⟩
    exact ⟨_, List.mem_map.2 ⟨i, List.mem_range.2 hi, rfl⟩, h⟩
/-- An edge's bounds. -/
theorem edge_ok {g : Rg} (h : vld g.L) {k : Nat} (hk : k < 2 * g.n) : (-8192 ≤ eY g.f k ∧ eY g.f k < 8192) ∧ -8192 ≤ eX g.f k ∧ eX g.f k ≤ 8192 := by
  obtain ⟨⟨⟨h1, h2⟩, ⟨h3, h4⟩, h5, h6⟩, h7⟩ := ok_of h (show k / 2 < g.n by omega)
  unfold eY eX
  split <;> omega
theorem edge_lt {g : Rg} (h : vld g.L) {k l : Nat} (hkl : k < l) (hl : l < 2 * g.n) : lt2 (eY g.f k) (eX g.f k) (eY g.f l) (eX g.f l) := by
  have ok := (ok_of h (show k / 2 < g.n by omega)).2
  have ol := (ok_of h (show l / 2 < g.n by omega)).2
  unfold eY eX
  by_cases e : k / 2 = l / 2
  · rw [if_pos (by omega), if_neg (by omega), ← e]
    exact .inr ⟨rfl, ok⟩
  · have hlt := lt_of h (show k / 2 < l / 2 by omega) (by omega)
    unfold ltR at hlt
    split <;> split <;> omega
theorem edge_le {g : Rg} (h : vld g.L) {k l : Nat} (hkl : k ≤ l) (hl : l < 2 * g.n) : le2 (eY g.f k) (eX g.f k) (eY g.f l) (eX g.f l) := by
  rcases Nat.lt_or_eq_of_le hkl with hlt | rfl
  · have := edge_lt h hlt hl
    omega
  · exact .inr ⟨rfl, Int.le_refl _⟩
/-- Within a region is where an odd number of edges came before. -/
theorem parity {g : Rg} (h : vld g.L) {i : Nat} (hi : i ≤ 2 * g.n) {y x : Int} (h1 : 0 < i → le2 (eY g.f (i - 1)) (eX g.f (i - 1)) y x) (h2 : i < 2 * g.n → lt2 y x (eY g.f i) (eX g.f i)) : mem g.L y x = odd i := by
  unfold odd
  by_cases ho : i % 2 = 1
  · rw [decide_eq_true ho, mem_g]
    refine ⟨i / 2, by omega, ?_⟩
    have a1 := h1 (by omega)
    have a2 := h2 (by omega)
    unfold eY eX at a1 a2
    rw [if_pos (show (i - 1) % 2 = 0 by omega), show (i - 1) / 2 = i / 2 by omega] at a1
    rw [if_neg (show ¬ i % 2 = 0 by omega)] at a2
    omega
  · rw [decide_eq_false ho, ← Bool.not_eq_true, mem_g]
    rintro ⟨p, hp, e, a, b⟩
    by_cases hpi : 2 * p < i
    · have hle := edge_le h (show 2 * p + 1 ≤ i - 1 by omega) (by omega)
      have a1 := h1 (by omega)
      have e1 : eY g.f (2 * p + 1) = (g.f p).y := by unfold eY; rw [show (2 * p + 1) / 2 = p by omega]
      have e2 : eX g.f (2 * p + 1) = (g.f p).x1 := by unfold eX; rw [if_neg (by omega), show (2 * p + 1) / 2 = p by omega]
      rw [e1, e2] at hle
      omega
    · have hle := edge_le h (show i ≤ 2 * p by omega) (by omega)
      have a2 := h2 (by omega)
      have e1 : eY g.f (2 * p) = (g.f p).y := by unfold eY; rw [show 2 * p / 2 = p by omega]
      have e2 : eX g.f (2 * p) = (g.f p).x0 := by unfold eX; rw [if_pos (by omega), show 2 * p / 2 = p by omega]
      rw [e1, e2] at hle
      omega
/-- The row stays within an open run. -/
theorem same_row (f : Nat → Rn) {i : Nat} (ho : i % 2 = 1) : eY f (i - 1) = eY f i := by
  unfold eY; rw [show (i - 1) / 2 = i / 2 by omega]
/-- One step of the sweep. -/
theorem sweep {a b : Rg} (ha : vld a.L) (hb : vld b.L) {K : Bool → Bool → Bool} (hK : K false false = false) {i j : Nat} (hi : i ≤ 2 * a.n) (hj : j ≤ 2 * b.n) {fy fx ty tx : Int}
    (c1 : 0 < i → le2 (eY a.f (i - 1)) (eX a.f (i - 1)) fy fx) (c2 : 0 < j → le2 (eY b.f (j - 1)) (eX b.f (j - 1)) fy fx)
    (u1 : i < 2 * a.n → le2 ty tx (eY a.f i) (eX a.f i)) (u2 : j < 2 * b.n → le2 ty tx (eY b.f j) (eX b.f j))
    (hft : 0 < i + j → le2 fy fx ty tx) (fok : (-8192 ≤ fy ∧ fy < 8192) ∧ -8192 ≤ fx ∧ fx ≤ 8192) (tok : (-8192 ≤ ty ∧ ty < 8192) ∧ -8192 ≤ tx ∧ tx ≤ 8192)
    {L : List Rn} (hL : vld L) (hE : 0 < i + j → aftE L fy fx) (h0 : i + j = 0 → L = [])
    (hm : 0 < i + j → ∀ y x, mem L y x = (decide (lt2 y x fy fx) && K (mem a.L y x) (mem b.L y x)))
    {L' : List Rn} (hL' : L' = if K (odd i) (odd j) then addR L ⟨fy, fx, tx⟩ else L) :
    vld L' ∧ aftE L' ty tx ∧ ∀ y x, mem L' y x = (decide (lt2 y x ty tx) && K (mem a.L y x) (mem b.L y x)) := by
  have par : ∀ y x, (0 < i + j → le2 fy fx y x) → lt2 y x ty tx → K (mem a.L y x) (mem b.L y x) = K (odd i) (odd j) := fun y x h1 h2 => by
    rw [parity ha hi (fun h => by have := c1 h; have := h1 (by omega); omega) (fun h => by have := u1 h; omega), parity hb hj (fun h => by have := c2 h; have := h1 (by omega); omega) (fun h => by have := u2 h; omega)]
  by_cases hk : K (odd i) (odd j) = true
  · rw [if_pos hk] at hL'
    have hpos : 0 < i + j := by
      rcases Nat.eq_zero_or_pos (i + j) with h | h
      · rw [show i = 0 by omega, show j = 0 by omega] at hk
        exact absurd (hk.symm.trans hK) (by decide)
      · exact h
    have hy : fy = ty := by
      have hft := hft hpos
      by_cases oi : i % 2 = 1
      · have := same_row a.f oi
        have := c1 (by omega)
        have := u1 (by omega)
        omega
      · by_cases oj : j % 2 = 1
        · have := same_row b.f oj
          have := c2 (by omega)
          have := u2 (by omega)
          omega
        · rw [show odd i = false from decide_eq_false oi, show odd j = false from decide_eq_false oj] at hk
          exact absurd (hk.symm.trans hK) (by decide)
    have hft := hft hpos
    have hE := hE hpos
    have hm := hm hpos
    subst hy
    obtain ⟨v, m, _⟩ := add_ok hL (r := ⟨fy, fx, tx⟩) (fun h => ⟨⟨fok.1, ⟨fok.2.1, by have : fx < tx := h; show fx ≤ 8192; omega⟩, tok.2⟩, h⟩) (aft_of hL hE)
    have en := add_end (r := ⟨fy, fx, tx⟩) hE (by show fx ≤ tx; omega)
    rw [hL']
    refine ⟨v, en, fun y x => ?_⟩
    rw [m, hm]
    have hr : inR ⟨fy, fx, tx⟩ y x = decide (fy = y ∧ fx ≤ x ∧ x < tx) := rfl
    rw [hr]
    by_cases d1 : lt2 y x fy fx
    · rw [decide_eq_true d1, decide_eq_true (show lt2 y x fy tx by omega), decide_eq_false (by omega), Bool.or_false]
    · rw [decide_eq_false d1, Bool.false_and, Bool.false_or]
      by_cases d2 : lt2 y x fy tx
      · rw [decide_eq_true d2, decide_eq_true (by omega), par y x (fun _ => by omega) d2, hk]; rfl
      · rw [decide_eq_false d2, decide_eq_false (by omega)]; rfl
  · rw [if_neg hk] at hL'
    subst hL'
    rw [Bool.not_eq_true] at hk
    rcases Nat.eq_zero_or_pos (i + j) with h | h
    · rw [h0 h]
      refine ⟨vld_nil, aftE_nil, fun y x => ?_⟩
      by_cases d : lt2 y x ty tx
      · rw [par y x (fun h' => by omega) d, hk, Bool.and_false]; rfl
      · rw [decide_eq_false d]; rfl
    · have hft := hft h
      refine ⟨hL, fun s hs => by have := hE h s hs; omega, fun y x => ?_⟩
      rw [hm h]
      by_cases d1 : lt2 y x fy fx
      · rw [decide_eq_true d1, decide_eq_true (show lt2 y x ty tx by omega)]
      · rw [decide_eq_false d1, Bool.false_and]
        by_cases d2 : lt2 y x ty tx
        · rw [par y x (fun _ => by omega) d2, hk, Bool.and_false]
        · rw [decide_eq_false d2, Bool.false_and]
/-- The end of the sweep. -/
theorem swept {a b : Rg} (ha : vld a.L) (hb : vld b.L) {K : Bool → Bool → Bool} (hK : K false false = false) {fy fx : Int}
    (c1 : 0 < 2 * a.n → le2 (eY a.f (2 * a.n - 1)) (eX a.f (2 * a.n - 1)) fy fx) (c2 : 0 < 2 * b.n → le2 (eY b.f (2 * b.n - 1)) (eX b.f (2 * b.n - 1)) fy fx)
    {L : List Rn} (hL : vld L) (h0 : 2 * a.n + 2 * b.n = 0 → L = [])
    (hm : 0 < 2 * a.n + 2 * b.n → ∀ y x, mem L y x = (decide (lt2 y x fy fx) && K (mem a.L y x) (mem b.L y x))) :
    ofSet (fun y x => K (mem a.L y x) (mem b.L y x)) = L := by
  refine ofSet_eq hL (fun y x => ?_)
  have e0 : ∀ n : Nat, odd (2 * n) = false := fun n => decide_eq_false (by omega)
  have par : (0 < 2 * a.n + 2 * b.n → le2 fy fx y x) → K (mem a.L y x) (mem b.L y x) = false := fun h1 => by
    rw [parity ha (Nat.le_refl _) (fun h => by have := c1 h; have := h1 (by omega); omega) (fun h => absurd h (Nat.lt_irrefl _)), parity hb (Nat.le_refl _) (fun h => by have := c2 h; have := h1 (by omega); omega) (fun h => absurd h (Nat.lt_irrefl _)), e0, e0, hK]
  rcases Nat.eq_zero_or_pos (2 * a.n + 2 * b.n) with h | h
  · rw [h0 h, par (fun h' => by omega)]; rfl
  · rw [hm h]
    by_cases d : lt2 y x fy fx
    · rw [decide_eq_true d, Bool.true_and]
    · rw [decide_eq_false d, par (fun _ => by omega)]; rfl
/-- cmp.Or of the differences compares places. -/
theorem or_le (y x y' x' : Int) : orI (y - y') (x - x') ≤ 0 ↔ le2 y x y' x' := by
  unfold orI
  split <;> omega
/-! The sweep's states. -/
structure CbG where
  a : Rg
  b : Rg
structure CsG where
  i : Nat
  j : Nat
  from' : Rga.Eg
  L : List Rn
structure CbP (g : CbG) (K : Bool → Bool → Bool) (s : CsG) : Prop where
  hi : s.i ≤ 2 * g.a.n
  hj : s.j ≤ 2 * g.b.n
  c1 : 0 < s.i → le2 (eY g.a.f (s.i - 1)) (eX g.a.f (s.i - 1)) s.from'.y s.from'.x
  c2 : 0 < s.j → le2 (eY g.b.f (s.j - 1)) (eX g.b.f (s.j - 1)) s.from'.y s.from'.x
  u1 : 0 < s.i + s.j → s.i < 2 * g.a.n → le2 s.from'.y s.from'.x (eY g.a.f s.i) (eX g.a.f s.i)
  u2 : 0 < s.i + s.j → s.j < 2 * g.b.n → le2 s.from'.y s.from'.x (eY g.b.f s.j) (eX g.b.f s.j)
  fok : (-8192 ≤ s.from'.y ∧ s.from'.y < 8192) ∧ -8192 ≤ s.from'.x ∧ s.from'.x ≤ 8192
  hL : vld s.L
  hE : 0 < s.i + s.j → aftE s.L s.from'.y s.from'.x
  h0 : s.i + s.j = 0 → s.L = []
  hm : 0 < s.i + s.j → ∀ y x, mem s.L y x = (decide (lt2 y x s.from'.y s.from'.x) && K (mem g.a.L y x) (mem g.b.L y x))
theorem cb_start (g : CbG) (K : Bool → Bool → Bool) : CbP g K ⟨0, 0, ⟨0, 0, 0⟩, []⟩ where
  hi := Nat.zero_le _
  hj := Nat.zero_le _
  c1 := fun h => absurd h (Nat.lt_irrefl _)
  c2 := fun h => absurd h (Nat.lt_irrefl _)
  u1 := fun h => absurd h (Nat.lt_irrefl _)
  u2 := fun h => absurd h (Nat.lt_irrefl _)
  fok := by decide
  hL := vld_nil
  hE := fun h => absurd h (Nat.lt_irrefl _)
  h0 := fun _ => rfl
  hm := fun h => absurd h (Nat.lt_irrefl _)
/-- The next state's runs. -/
def nxL (K : Bool → Bool → Bool) (s : CsG) (tx : Int) : List Rn := if K (odd s.i) (odd s.j) then addR s.L ⟨s.from'.y, s.from'.x, tx⟩ else s.L
theorem cb_stepA {g : CbG} {K : Bool → Bool → Bool} {s : CsG} (ha : vld g.a.L) (hb : vld g.b.L) (hK : K false false = false) (h : CbP g K s) (hi : s.i < 2 * g.a.n) (hle : s.j < 2 * g.b.n → le2 (eY g.a.f s.i) (eX g.a.f s.i) (eY g.b.f s.j) (eX g.b.f s.j)) :
    CbP g K ⟨s.i + 1, s.j, eAt g.a.f 0 s.i, nxL K s (eX g.a.f s.i)⟩ := by
  have ho := edge_ok ha hi
  obtain ⟨v, e, m⟩ := sweep ha hb hK h.hi h.hj h.c1 h.c2 (fun _ => .inr ⟨rfl, Int.le_refl _⟩) hle (fun h' => h.u1 h' hi) h.fok ho h.hL h.hE h.h0 h.hm (L' := nxL K s (eX g.a.f s.i)) rfl
  exact { hi := hi, hj := h.hj, c1 := fun _ => .inr ⟨rfl, Int.le_refl _⟩, c2 := fun h' => by
            have h' : 0 < s.j := h'
            exact le2_trans (h.c2 h') (h.u1 (by omega) hi)
          u1 := fun _ h' => lt2_le (edge_lt ha (Nat.lt_succ_self s.i) h')
          u2 := fun _ h' => hle h', fok := ho, hL := v, hE := fun _ => e, h0 := fun h' => absurd (show s.i + 1 + s.j = 0 from h') (by omega), hm := fun _ => m }
theorem cb_stepB {g : CbG} {K : Bool → Bool → Bool} {s : CsG} (ha : vld g.a.L) (hb : vld g.b.L) (hK : K false false = false) (h : CbP g K s) (hj : s.j < 2 * g.b.n) (hle : s.i < 2 * g.a.n → le2 (eY g.b.f s.j) (eX g.b.f s.j) (eY g.a.f s.i) (eX g.a.f s.i)) :
    CbP g K ⟨s.i, s.j + 1, eAt g.b.f 1 s.j, nxL K s (eX g.b.f s.j)⟩ := by
  have ho := edge_ok hb hj
  obtain ⟨v, e, m⟩ := sweep ha hb hK h.hi h.hj h.c1 h.c2 hle (fun _ => .inr ⟨rfl, Int.le_refl _⟩) (fun h' => h.u2 h' hj) h.fok ho h.hL h.hE h.h0 h.hm (L' := nxL K s (eX g.b.f s.j)) rfl
  exact { hi := h.hi, hj := hj, c2 := fun _ => .inr ⟨rfl, Int.le_refl _⟩, c1 := fun h' => by
            have h' : 0 < s.i := h'
            exact le2_trans (h.c1 h') (h.u2 (by omega) hj)
          u2 := fun _ h' => lt2_le (edge_lt hb (Nat.lt_succ_self s.j) h')
          u1 := fun _ h' => hle h', fok := ho, hL := v, hE := fun _ => e, h0 := fun h' => absurd (show s.i + (s.j + 1) = 0 from h') (by omega), hm := fun _ => m }
theorem cb_end {g : CbG} {K : Bool → Bool → Bool} {s : CsG} (ha : vld g.a.L) (hb : vld g.b.L) (hK : K false false = false) (h : CbP g K s) (hi : s.i = 2 * g.a.n) (hj : s.j = 2 * g.b.n) :
    ofSet (fun y x => K (mem g.a.L y x) (mem g.b.L y x)) = s.L := by
  have c1 := h.c1; have c2 := h.c2; have h0 := h.h0; have hm := h.hm
  rw [hi] at c1 h0 hm
  rw [hj] at c2 h0 hm
  exact swept ha hb hK c1 c2 h.hL h0 hm
end Go.Proofs.Ytbkgncikjhibiaa.Rgm
