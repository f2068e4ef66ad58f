/- Morphology: the plain laws of erosion. -/
import Derived.Test.YtbkgncikjhibiaaMol
set_option linter.unusedSimpArgs false
set_option linter.unusedVariables false
namespace Go.Proofs.Ytbkgncikjhibiaa.Moe
open Rga Rgl Rgm Rgn Rgo Itr Mol
def Ls (L : List Rn) : Rg := ⟨L.length, rI L⟩
def mxL (L : List Rn) (x : Int) : Prop := ∃ r ∈ L, r.x0 ≤ x ∧ x < r.x1
theorem mx_Ls {L : List Rn} {x : Int} : mx (Ls L) 0 x ↔ mxL L x := by
  constructor
  · rintro ⟨k, _, h1, h2, h3⟩
    exact ⟨_, rI_mem h1, h2, h3⟩
  · rintro ⟨r, hr, h2, h3⟩
    obtain ⟨i, hi, rfl⟩ := List.mem_iff_getElem.1 hr
    have e : rI L i = L[i] := by
      unfold rI
      rw [List.getD_eq_getElem?_getD, List.getElem?_eq_getElem hi]; rfl
    exact ⟨i, Nat.zero_le _, hi, by show (rI L i).x0 ≤ x; rw [e]; exact h2, by show x < (rI L i).x1; rw [e]; exact h3⟩
theorem mem_mxL {L : List Rn} {y : Int} (h : ∀ r ∈ L, r.y = y) {x : Int} : mem L y x = true ↔ mxL L x := by
  rw [mem_iff]
  exact ⟨fun ⟨r, a, _, b⟩ => ⟨r, a, b⟩, fun ⟨r, a, b⟩ => ⟨r, a, h r a, b⟩⟩
theorem oneRow {L : List Rn} {y : Int} (hv : vld L) (h : ∀ r ∈ L, r.y = y) : OneRow (Ls L) := by
  refine ⟨fun i hi => hv.1 _ (rI_mem hi), fun i j hij hj => ?_⟩
  have hv' : vld (Ls L).L := by rw [show (Ls L).L = L from Rg.L_of L]; exact hv
  have hl := lt_of hv' hij hj
  have e1 := h _ (rI_mem (L := L) (i := i) (by have hj : j < L.length := hj; omega))
  have e2 := h _ (rI_mem (L := L) (i := j) hj)
  unfold ltR at hl
  have e1 : ((Ls L).f i).y = y := e1
  have e2 : ((Ls L).f j).y = y := e2
  omega
/-! What meet answers. -/
theorem mt_run {g : MtG} (hg : g.Ok) : ∀ (m : Nat) (s : MtS), MtP g s → g.a.n - s.i + (g.b.n - s.j) = m → ∃ s', MtP g s' ∧ (¬ s'.i < g.a.n ∨ ¬ s'.j < g.b.n) := by
  intro m
  induction m with
  | zero => exact fun s P h => ⟨s, P, .inl (by omega)⟩
  | succ m ih =>
    intro s P h
    by_cases hi : s.i < g.a.n
    · by_cases hj : s.j < g.b.n
      · by_cases hc : (g.a.f s.i).x1 < (g.b.f s.j).x1
        · exact ih _ (mt_stepA hg P hi hj hc) (by show g.a.n - (s.i + 1) + (g.b.n - s.j) = m; omega)
        · exact ih _ (mt_stepB hg P hi hj hc) (by show g.a.n - s.i + (g.b.n - (s.j + 1)) = m; omega)
      · exact ⟨s, P, .inr hj⟩
    · exact ⟨s, P, .inl hi⟩
theorem mt_mem {g : MtG} (hg : g.Ok) : (∀ r ∈ g.o, r.y = g.y) ∧ ∀ x, mxL g.o x ↔ mx g.a 0 x ∧ mx g.b 0 x := by
  obtain ⟨s, P, h⟩ := mt_run hg _ _ (mt_start g) rfl
  rw [mt_end P h]
  refine ⟨P.hy, fun x => ?_⟩
  rw [← mem_mxL P.hy, P.hm]
  constructor
  · exact fun h => .inl h
  · rintro (h' | ⟨⟨k, h1, h2, _⟩, l, h3, h4, _⟩)
    · exact h'
    · omega
/-! The narrowed runs of a row. -/
def nar (w : Nat) (r : Rn) : Rn := ⟨r.y, r.x0 + w, r.x1 - w⟩
def isN (w : Nat) (y : Int) (r : Rn) : Bool := decide (r.y = y ∧ r.x0 + w < r.x1 - w)
def nwP (h : DiG) (i : Nat) (y : Int) : List Rn := ((Lf h.g.f i).filter (isN h.w y)).map (nar h.w)
theorem nwP_succ (h : DiG) (i : Nat) (y : Int) : nwP h (i + 1) y = if (h.g.f i).y = y ∧ (h.g.f i).x0 + h.w < (h.g.f i).x1 - h.w then nwP h i y ++ [nar h.w (h.g.f i)] else nwP h i y := by
  unfold nwP
  rw [Lf_succ, List.filter_append, List.map_append]
  by_cases c : (h.g.f i).y = y ∧ (h.g.f i).x0 + h.w < (h.g.f i).x1 - h.w
  · rw [if_pos c, List.filter_cons_of_pos (show isN h.w y (h.g.f i) = true from decide_eq_true c)]; rfl
  · rw [if_neg c, List.filter_cons_of_neg (show ¬ isN h.w y (h.g.f i) = true by unfold isN; rw [decide_eq_true_eq]; exact c)]; simp
theorem nwP_zero (h : DiG) (y : Int) : nwP h 0 y = [] := rfl
theorem nwP_len (h : DiG) (i : Nat) (y : Int) : (nwP h i y).length ≤ i := by
  unfold nwP
  rw [List.length_map]
  exact Nat.le_trans (List.length_filter_le _ _) (by rw [Lf_len]; exact Nat.le_refl _)
def nw (h : DiG) (y : Int) : List Rn := nwP h h.g.n y
theorem nw_in {h : DiG} {y : Int} {r : Rn} : r ∈ nw h y ↔ ∃ i, i < h.g.n ∧ (h.g.f i).y = y ∧ (h.g.f i).x0 + h.w < (h.g.f i).x1 - h.w ∧ r = nar h.w (h.g.f i) := by
  unfold nw nwP
  rw [List.mem_map]
  constructor
  · rintro ⟨s, hs, rfl⟩
    obtain ⟨h1, h2⟩ := List.mem_filter.1 hs
    obtain ⟨i, hi, rfl⟩ := List.mem_map.1 h1
    have h2 := of_decide_eq_true h2
    exact ⟨i, List.mem_range.1 hi, h2.1, h2.2, rfl⟩
  · rintro ⟨i, hi, h1, h2, rfl⟩
    exact ⟨h.g.f i, List.mem_filter.2 ⟨List.mem_map.2 ⟨i, List.mem_range.2 hi, rfl⟩, decide_eq_true ⟨h1, h2⟩⟩, rfl⟩
theorem nw_y {h : DiG} {y : Int} : ∀ r ∈ nw h y, r.y = y := fun r hr => by
  obtain ⟨i, _, h1, _, rfl⟩ := nw_in.1 hr
  exact h1
theorem nw_vld {h : DiG} (hh : h.Ok) (y : Int) : vld (nw h y) := by
  refine ⟨fun r hr => ?_, ?_⟩
  · obtain ⟨i, hi, h1, h2, rfl⟩ := nw_in.1 hr
    have ok := ok_of hh.g.v hi
    unfold okR at ok
    unfold nar okR
    show ((-8192 ≤ (h.g.f i).y ∧ (h.g.f i).y < 8192) ∧ (-8192 ≤ (h.g.f i).x0 + (h.w : Int) ∧ (h.g.f i).x0 + (h.w : Int) ≤ 8192) ∧ -8192 ≤ (h.g.f i).x1 - (h.w : Int) ∧ (h.g.f i).x1 - (h.w : Int) ≤ 8192) ∧ (h.g.f i).x0 + (h.w : Int) < (h.g.f i).x1 - (h.w : Int)
    omega
  · have hp : (Lf h.g.f h.g.n).Pairwise ltR := hh.g.v.2
    refine List.pairwise_map.2 ((hp.filter _).imp (fun {r s} hrs => ?_))
    unfold ltR at hrs ⊢
    show r.y < s.y ∨ (r.y = s.y ∧ r.x1 - (h.w : Int) < s.x0 + (h.w : Int))
    omega
/-! The common places of the rows around a row. -/
noncomputable def m1 (h : DiG) (y : Int) (L : List Rn) (d : Nat) : MtG := ⟨Ls L, Ls (nw h (y - d)), y⟩
noncomputable def m2 (h : DiG) (y : Int) (L : List Rn) (d : Nat) : MtG := ⟨Ls (m1 h y L d).o, Ls (nw h (y + d)), y⟩
noncomputable def E (h : DiG) (y : Int) : Nat → List Rn
  | 0 => nw h y
  | d + 1 => (m2 h y (E h y d) (d + 1)).o
structure EOk (h : DiG) (y : Int) (d : Nat) : Prop where
  v : vld (E h y d)
  r : ∀ r ∈ E h y d, r.y = y
  m : ∀ x, mxL (E h y d) x ↔ ∀ a : Int, -(d : Int) ≤ a → a ≤ d → mxL (nw h (y + a)) x
theorem m1_ok {h : DiG} (hh : h.Ok) {y : Int} (hy : -8192 ≤ y ∧ y < 8192) {d : Nat} (P : EOk h y d) : (m1 h y (E h y d) (d + 1)).Ok := ⟨oneRow P.v P.r, oneRow (nw_vld hh _) nw_y, hy⟩
theorem m2_ok {h : DiG} (hh : h.Ok) {y : Int} (hy : -8192 ≤ y ∧ y < 8192) {d : Nat} (P : EOk h y d) : (m2 h y (E h y d) (d + 1)).Ok := ⟨oneRow (mt_vld _) (mt_mem (m1_ok hh hy P)).1, oneRow (nw_vld hh _) nw_y, hy⟩
theorem E_ok {h : DiG} (hh : h.Ok) {y : Int} (hy : -8192 ≤ y ∧ y < 8192) : ∀ d, EOk h y d
  | 0 => ⟨nw_vld hh y, nw_y, fun x => ⟨fun hx a h1 h2 => by rw [show y + a = y by omega]; exact hx, fun hx => by have := hx 0 (by omega) (by omega); rwa [Int.add_zero] at this⟩⟩
  | d + 1 => by
    have P := E_ok hh hy d
    have h1 := mt_mem (m1_ok hh hy P)
    have h2 := mt_mem (m2_ok hh hy P)
    refine ⟨mt_vld _, h2.1, fun x => ?_⟩
    show mxL (m2 h y (E h y d) (d + 1)).o x ↔ _
    rw [h2.2, show (m2 h y (E h y d) (d + 1)).a = Ls (m1 h y (E h y d) (d + 1)).o from rfl, mx_Ls, h1.2, show (m1 h y (E h y d) (d + 1)).a = Ls (E h y d) from rfl, mx_Ls, P.m, show (m1 h y (E h y d) (d + 1)).b = Ls (nw h (y - (d + 1 : Nat))) from rfl, mx_Ls, show (m2 h y (E h y d) (d + 1)).b = Ls (nw h (y + (d + 1 : Nat))) from rfl, mx_Ls]
    constructor
    · rintro ⟨⟨k1, k2⟩, k3⟩ a ha hb
      by_cases c1 : a = ((d + 1 : Nat) : Int)
      · rw [c1]; exact k3
      · by_cases c2 : a = -((d + 1 : Nat) : Int)
        · rw [c2]; exact k2
        · exact k1 a (by omega) (by omega)
    · intro k
      exact ⟨⟨fun a ha hb => k a (by omega) (by omega), k (-((d + 1 : Nat) : Int)) (by omega) (by omega)⟩, k ((d + 1 : Nat) : Int) (by omega) (by omega)⟩
theorem nil_of {L : List Rn} (hv : vld L) (h : ∀ x, ¬ mxL L x) : L = [] := by
  cases L with
  | nil => rfl
  | cons r L => exact absurd ⟨r, List.mem_cons_self .., Int.le_refl _, (vld_cons.1 hv).1.2⟩ (h r.x0)
/-- Once empty, empty. -/
theorem E_nil {h : DiG} (hh : h.Ok) {y : Int} (hy : -8192 ≤ y ∧ y < 8192) {d e : Nat} (hde : d ≤ e) (h0 : E h y d = []) : E h y e = E h y d := by
  rw [h0]
  refine nil_of (E_ok hh hy e).v (fun x hx => ?_)
  have := ((E_ok hh hy d).m x).2 (fun a h1 h2 => ((E_ok hh hy e).m x).1 hx a (by omega) (by omega))
  rw [h0] at this
  obtain ⟨r, hr, _⟩ := this
  exact List.not_mem_nil hr
/-! Adding the rows. -/
def adA (L M : List Rn) : Nat → List Rn
  | 0 => L
  | i + 1 => addR (adA L M i) (rI M i)
theorem adA_len (L M : List Rn) : ∀ i, (adA L M i).length ≤ L.length + i
  | 0 => Nat.le_refl _
  | i + 1 => by
    have h1 := addR_len (adA L M i) (rI M i)
    have h2 := adA_len L M i
    show (addR (adA L M i) (rI M i)).length ≤ L.length + (i + 1)
    omega
def yR (h : DiG) (j : Nat) : Int := (h.g.f (rp h.g j)).y
noncomputable def OUT (h : DiG) : Nat → List Rn
  | 0 => []
  | j + 1 => adA (OUT h j) (E h (yR h j) h.w) (E h (yR h j) h.w).length
noncomputable def ero (h : DiG) : List Rn := OUT h (rc h.g)
theorem rp_mono {g : Rg} {i j : Nat} (h : i < j) (hj : j ≤ rc g) : rp g i < rp g j := by
  induction j with
  | zero => omega
  | succ j ih =>
    have h1 := row_pos (g := g) (j := j) (by omega)
    by_cases e : i = j
    · rw [e]; exact h1
    · have := ih (by omega) (by omega); omega
theorem yR_lt {h : DiG} (hv : vld h.g.L) {i j : Nat} (hij : i < j) (hj : j < rc h.g) : yR h i < yR h j := by
  have h0 := rc_lt hj
  have h1 : rp h.g (i + 1) ≤ rp h.g j := by
    by_cases e : i + 1 = j
    · rw [e]; exact Nat.le_refl _
    · exact Nat.le_of_lt (rp_mono (by omega) (by omega))
  have h2 : (h.g.f (rp h.g (i + 1))).y ≠ (h.g.f (rp h.g i)).y := nxt_end (rp_le _ _) (show rp h.g (i + 1) < h.g.n by omega)
  have h3 := lt_of hv (row_pos (show i < rc h.g by omega)) (show rp h.g (i + 1) < h.g.n by omega)
  have h4 : (h.g.f (rp h.g (i + 1))).y ≤ (h.g.f (rp h.g j)).y := by
    by_cases e : rp h.g (i + 1) = rp h.g j
    · rw [e]; exact Int.le_refl _
    · have := lt_of hv (show rp h.g (i + 1) < rp h.g j by omega) h0
      unfold ltR at this
      omega
  unfold ltR at h3
  show (h.g.f (rp h.g i)).y < (h.g.f (rp h.g j)).y
  omega
theorem row_of {g : Rg} {i : Nat} (hi : i < g.n) : ∃ j, j < rc g ∧ rp g j ≤ i ∧ i < rp g (j + 1) := by
  have key : ∀ m, m ≤ rc g → i < rp g m → ∃ j, j < m ∧ rp g j ≤ i ∧ i < rp g (j + 1) := by
    intro m
    induction m with
    | zero => intro _ h; exact absurd h (Nat.not_lt_zero i)
    | succ m ih =>
      intro hm h
      by_cases c : i < rp g m
      · obtain ⟨j, a, b⟩ := ih (by omega) c
        exact ⟨j, by omega, b⟩
      · exact ⟨m, Nat.lt_succ_self m, by omega, h⟩
  exact key (rc g) (Nat.le_refl _) (by rw [rc_end]; exact hi)
theorem yR_ok {h : DiG} (hh : h.Ok) {j : Nat} (hj : j < rc h.g) : -1000 ≤ yR h j ∧ yR h j ≤ 1000 := (hh.g.b _ (rc_lt hj)).1
structure OP (h : DiG) (j : Nat) : Prop where
  v : vld (OUT h j)
  m : ∀ y x, mem (OUT h j) y x = true ↔ ∃ k, k < j ∧ y = yR h k ∧ mxL (E h (yR h k) h.w) x
  a : ∀ y x, (∀ k, k < j → yR h k < y) → aft (OUT h j) y x
structure AP (h : DiG) (j i : Nat) : Prop where
  v : vld (adA (OUT h j) (E h (yR h j) h.w) i)
  m : ∀ y x, mem (adA (OUT h j) (E h (yR h j) h.w) i) y x = true ↔ mem (OUT h j) y x = true ∨ (y = yR h j ∧ ∃ k, k < i ∧ (rI (E h (yR h j) h.w) k).x0 ≤ x ∧ x < (rI (E h (yR h j) h.w) k).x1)
  a : ∀ y x, (yR h j < y ∨ (y = yR h j ∧ ∀ k, k < i → (rI (E h (yR h j) h.w) k).x0 ≤ x)) → aft (adA (OUT h j) (E h (yR h j) h.w) i) y x
theorem AP_ok {h : DiG} (hh : h.Ok) {j : Nat} (hj : j < rc h.g) (P : OP h j) : ∀ i, i ≤ (E h (yR h j) h.w).length → AP h j i
  | 0, _ => ⟨P.v, fun y x => ⟨fun h => .inl h, fun h => h.elim id (fun ⟨_, k, hk, _⟩ => absurd hk (Nat.not_lt_zero k))⟩, fun y x hyx => P.a y x (fun k hk => by have := yR_lt hh.g.v hk hj; omega)⟩
  | i + 1, hi => by
    have A := AP_ok hh hj P i (by omega)
    have yb := yR_ok hh hj
    have W := E_ok hh (y := yR h j) (by omega) h.w
    have O := oneRow W.v W.r
    have okr := W.v.1 _ (rI_mem (show i < (E h (yR h j) h.w).length by omega))
    have yr := W.r _ (rI_mem (show i < (E h (yR h j) h.w).length by omega))
    have srt : ∀ k, k < i → (rI (E h (yR h j) h.w) k).x0 ≤ (rI (E h (yR h j) h.w) i).x0 := fun k hk => by
      have h1 : (rI (E h (yR h j) h.w) k).x1 < (rI (E h (yR h j) h.w) i).x0 := O.lt k i hk (show i < (E h (yR h j) h.w).length by omega)
      have h2 := (W.v.1 _ (rI_mem (show k < (E h (yR h j) h.w).length by omega))).2
      omega
    obtain ⟨v, m, a⟩ := add_ok A.v (fun _ => okr) (A.a _ _ (.inr ⟨yr, srt⟩))
    refine ⟨v, fun y x => ?_, fun y x hyx => a y x ?_⟩
    · show mem (addR (adA (OUT h j) (E h (yR h j) h.w) i) (rI (E h (yR h j) h.w) i)) y x = true ↔ _
      rw [m, Bool.or_eq_true, A.m, inR_iff, yr]
      constructor
      · rintro ((h1 | ⟨h1, k, hk, h2⟩) | ⟨h1, h2⟩)
        · exact .inl h1
        · exact .inr ⟨h1, k, by omega, h2⟩
        · exact .inr ⟨h1.symm, i, Nat.lt_succ_self i, h2⟩
      · rintro (h1 | ⟨h1, k, hk, h2⟩)
        · exact .inl (.inl h1)
        · by_cases e : k = i
          · rw [e] at h2; exact .inr ⟨h1.symm, h2⟩
          · exact .inl (.inr ⟨h1, k, by omega, h2⟩)
    · rw [yr]
      rcases hyx with h1 | ⟨h1, h2⟩
      · exact .inl h1
      · exact .inr ⟨h1.symm, h2 i (Nat.lt_succ_self i)⟩
theorem mxL_rI {L : List Rn} {x : Int} : mxL L x ↔ ∃ k, k < L.length ∧ (rI L k).x0 ≤ x ∧ x < (rI L k).x1 := by
  rw [← mx_Ls]
  exact ⟨fun ⟨k, _, h⟩ => ⟨k, h⟩, fun ⟨k, h⟩ => ⟨k, Nat.zero_le _, h⟩⟩
theorem OP_ok {h : DiG} (hh : h.Ok) : ∀ j, j ≤ rc h.g → OP h j
  | 0, _ => ⟨vld_nil, fun y x => ⟨fun h => (by cases h), fun ⟨k, hk, _⟩ => absurd hk (Nat.not_lt_zero k)⟩, fun _ _ _ => aft_nil⟩
  | j + 1, hj => by
    have P := OP_ok hh j (by omega)
    have A := AP_ok hh (show j < rc h.g by omega) P _ (Nat.le_refl _)
    refine ⟨A.v, fun y x => ?_, fun y x hyx => A.a y x (.inl (hyx j (Nat.lt_succ_self j)))⟩
    show mem (adA (OUT h j) (E h (yR h j) h.w) _) y x = true ↔ _
    rw [A.m, P.m, ← mxL_rI]
    constructor
    · rintro (⟨k, hk, h1⟩ | ⟨h1, h2⟩)
      · exact ⟨k, by omega, h1⟩
      · exact ⟨j, Nat.lt_succ_self j, h1, h2⟩
    · rintro ⟨k, hk, h1, h2⟩
      by_cases e : k = j
      · rw [e] at h1 h2; exact .inr ⟨h1, h2⟩
      · exact .inl ⟨k, by omega, h1, h2⟩
theorem ero_vld {h : DiG} (hh : h.Ok) : vld (ero h) := (OP_ok hh _ (Nat.le_refl _)).v
/-- The end of a run is no cell. -/
theorem end_out {g : Rg} (hv : vld g.L) {i : Nat} (hi : i < g.n) : ¬ mem g.L (g.f i).y (g.f i).x1 = true := by
  rw [mem_g]
  rintro ⟨k, hk, h1, h2, h3⟩
  have ok := (ok_of hv hi).2
  rcases Nat.lt_trichotomy k i with h | h | h
  · have := lt_of hv h hi; unfold ltR at this; omega
  · rw [h] at h3; omega
  · have := lt_of hv h hk; unfold ltR at this; omega
theorem nw_mx {h : DiG} (hh : h.Ok) {y x : Int} : mxL (nw h y) x ↔ ∀ b : Int, -(h.w : Int) ≤ b → b ≤ h.w → mem h.g.L y (x + b) = true := by
  constructor
  · rintro ⟨r, hr, h1, h2⟩ b hb1 hb2
    obtain ⟨i, hi, e, _, rfl⟩ := nw_in.1 hr
    have h1 : (h.g.f i).x0 + (h.w : Int) ≤ x := h1
    have h2 : x < (h.g.f i).x1 - (h.w : Int) := h2
    exact mem_g.2 ⟨i, hi, e, by omega, by omega⟩
  · intro hb
    obtain ⟨i, hi, e, h1, h2⟩ := mem_g.1 (hb (-(h.w : Int)) (Int.le_refl _) (by omega))
    have h3 : x + h.w < (h.g.f i).x1 := Classical.byContradiction fun hc => by
      have := hb ((h.g.f i).x1 - x) (by omega) (by omega)
      rw [show x + ((h.g.f i).x1 - x) = (h.g.f i).x1 by omega, ← e] at this
      exact end_out hh.g.v hi this
    exact ⟨_, nw_in.2 ⟨i, hi, e, by omega, rfl⟩, by show (h.g.f i).x0 + (h.w : Int) ≤ x; omega, by show x < (h.g.f i).x1 - (h.w : Int); omega⟩
theorem ero_mem {h : DiG} (hh : h.Ok) {y x : Int} : mem (ero h) y x = true ↔ ∀ a b : Int, (-(h.w : Int) ≤ a ∧ a ≤ h.w) → (-(h.w : Int) ≤ b ∧ b ≤ h.w) → mem h.g.L (y + a) (x + b) = true := by
  unfold ero
  rw [(OP_ok hh _ (Nat.le_refl _)).m]
  constructor
  · rintro ⟨k, hk, rfl, hx⟩ a b ha hb
    have yb := yR_ok hh hk
    exact (nw_mx hh).1 (((E_ok hh (by omega) h.w).m x).1 hx a ha.1 ha.2) b hb.1 hb.2
  · intro hm
    have h0 := hm 0 0 (by omega) (by omega)
    rw [Int.add_zero, Int.add_zero] at h0
    obtain ⟨i, hi, e, _, _⟩ := mem_g.1 h0
    obtain ⟨j, hj, j1, j2⟩ := row_of hi
    have ey : y = yR h j := by
      rw [← e]
      exact nxt_eq j1 j2
    have yb := yR_ok hh hj
    exact ⟨j, hj, ey, ((E_ok hh (by omega) h.w).m x).2 (fun a h1 h2 => (nw_mx hh).2 (fun b h3 h4 => by rw [← ey]; exact hm a b ⟨h1, h2⟩ ⟨h3, h4⟩))⟩
end Go.Proofs.Ytbkgncikjhibiaa.Moe
