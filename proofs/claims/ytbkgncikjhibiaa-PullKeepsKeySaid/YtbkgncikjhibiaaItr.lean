/- region.Rows and region.Cells, and the iterators that they return: by the evaluation. -/
import Derived.Test.YtbkgncikjhibiaaSxr
import Derived.Test.YtbkgncikjhibiaaRgh
import Derived.Test.YtbkgncikjhibiaaRgo
set_option linter.unusedSimpArgs false
set_option linter.unusedVariables false
namespace Go.Proofs.Ytbkgncikjhibiaa.Itr
open Go.RowKit Sx Num Aff Con Rga Rgl Rgm Rgn
set_option maxRecDepth 100000
/-! The rows of runs. -/
def nxF (f : Nat → Rn) (y : Int) : Nat → Nat → Nat
  | 0, k => k
  | m + 1, k => if (f k).y = y then nxF f y m (k + 1) else k
theorem nxF_ge (f : Nat → Rn) (y : Int) : ∀ m k, k ≤ nxF f y m k
  | 0, k => Nat.le_refl k
  | m + 1, k => by
    unfold nxF; split
    · exact Nat.le_trans (Nat.le_succ k) (nxF_ge f y m (k + 1))
    · exact Nat.le_refl k
theorem nxF_le (f : Nat → Rn) (y : Int) : ∀ m k, nxF f y m k ≤ k + m
  | 0, k => Nat.le_refl k
  | m + 1, k => by
    unfold nxF; split
    · have := nxF_le f y m (k + 1); omega
    · omega
theorem nxF_eq (f : Nat → Rn) (y : Int) : ∀ m k j, k ≤ j → j < nxF f y m k → (f j).y = y
  | 0, k, j, h1, h2 => by unfold nxF at h2; omega
  | m + 1, k, j, h1, h2 => by
    unfold nxF at h2
    split at h2
    · next he =>
      by_cases hk : j = k
      · rw [hk]; exact he
      · exact nxF_eq f y m (k + 1) j (by omega) h2
    · omega
theorem nxF_end (f : Nat → Rn) (y : Int) : ∀ m k, nxF f y m k < k + m → (f (nxF f y m k)).y ≠ y
  | 0, k, h => by unfold nxF at h; omega
  | m + 1, k, h => by
    unfold nxF at h ⊢
    split
    · next he =>
      rw [if_pos he] at h
      exact nxF_end f y m (k + 1) (by omega)
    · next he => exact he
def nxt (g : Rg) (i : Nat) : Nat := nxF g.f (g.f i).y (g.n - i) i
theorem nxt_gt {g : Rg} {i : Nat} (h : i < g.n) : i < nxt g i := by
  unfold nxt
  obtain ⟨m, hm⟩ : ∃ m, g.n - i = m + 1 := ⟨g.n - i - 1, by omega⟩
  rw [hm]
  unfold nxF
  rw [if_pos rfl]
  exact nxF_ge _ _ m (i + 1)
theorem nxt_le {g : Rg} {i : Nat} (h : i ≤ g.n) : nxt g i ≤ g.n := by
  have := nxF_le g.f (g.f i).y (g.n - i) i
  unfold nxt; omega
theorem nxt_eq {g : Rg} {i j : Nat} (h1 : i ≤ j) (h2 : j < nxt g i) : (g.f j).y = (g.f i).y := nxF_eq _ _ _ _ j h1 h2
theorem nxt_end {g : Rg} {i : Nat} (h : i ≤ g.n) (h2 : nxt g i < g.n) : (g.f (nxt g i)).y ≠ (g.f i).y := nxF_end _ _ _ _ (by unfold nxt at h2; omega)
/-- Where a row ends. -/
theorem nxt_is {g : Rg} {i k : Nat} (hi : i ≤ g.n) (h1 : i ≤ k) (h2 : k ≤ nxt g i) (h : k < g.n → (g.f k).y ≠ (g.f i).y) : k = nxt g i := by
  refine Classical.byContradiction fun hne => ?_
  have hle := nxt_le hi
  exact h (by omega) (nxt_eq h1 (by omega))
/-- Where row j begins. -/
def rp (g : Rg) : Nat → Nat
  | 0 => 0
  | j + 1 => nxt g (rp g j)
theorem rp_le (g : Rg) : ∀ j, rp g j ≤ g.n
  | 0 => Nat.zero_le _
  | j + 1 => nxt_le (rp_le g j)
theorem rp_ge (g : Rg) : ∀ j, j ≤ rp g j ∨ rp g j = g.n
  | 0 => .inl (Nat.le_refl _)
  | j + 1 => by
    have h0 := rp_le g j
    by_cases h : rp g j < g.n
    · have := nxt_gt h
      rcases rp_ge g j with h1 | h1
      · exact .inl (by show j + 1 ≤ nxt g (rp g j); omega)
      · omega
    · refine .inr ?_
      have e : rp g j = g.n := by omega
      show nxt g (rp g j) = g.n
      rw [e]; unfold nxt; rw [Nat.sub_self]; rfl
def rcF (g : Rg) : Nat → Nat
  | 0 => 0
  | m + 1 => if rp g (rcF g m) < g.n then rcF g m + 1 else rcF g m
theorem rcF_ok (g : Rg) : ∀ m, (∀ k, k < rcF g m → rp g k < g.n) ∧ (rp g (rcF g m) < g.n → rcF g m = m)
  | 0 => ⟨fun k h => absurd h (Nat.not_lt_zero k), fun _ => rfl⟩
  | m + 1 => by
    obtain ⟨h1, h2⟩ := rcF_ok g m
    unfold rcF
    by_cases h : rp g (rcF g m) < g.n
    · rw [if_pos h]
      refine ⟨fun k hk => ?_, fun _ => by rw [h2 h]⟩
      by_cases hk' : k = rcF g m
      · rw [hk']; exact h
      · exact h1 k (by omega)
    · rw [if_neg h]
      exact ⟨h1, fun h' => absurd h' h⟩
/-- How many rows. -/
def rc (g : Rg) : Nat := rcF g g.n
theorem rc_lt {g : Rg} {j : Nat} (h : j < rc g) : rp g j < g.n := (rcF_ok g g.n).1 j h
theorem rc_end (g : Rg) : rp g (rc g) = g.n := by
  have h0 := rp_le g (rc g)
  refine Classical.byContradiction fun hne => ?_
  have e := (rcF_ok g g.n).2 (show rp g (rc g) < g.n by omega)
  have e : rc g = g.n := e
  have := rp_ge g (rc g)
  omega
theorem rc_iff {g : Rg} {j : Nat} (h : j ≤ rc g) : rp g j < g.n ↔ j < rc g :=
  ⟨fun h1 => Classical.byContradiction fun hc => by
    have e : j = rc g := by omega
    rw [e, rc_end] at h1; omega, rc_lt⟩
/-- A row. -/
def row (g : Rg) (j : Nat) : Rg := ⟨rp g (j + 1) - rp g j, fun i => g.f (rp g j + i)⟩
theorem row_pos {g : Rg} {j : Nat} (h : j < rc g) : rp g j < rp g (j + 1) := nxt_gt (rc_lt h)
theorem row_y {g : Rg} {j i : Nat} (hi : i < (row g j).n) : ((row g j).f i).y = (g.f (rp g j)).y := nxt_eq (Nat.le_add_right _ _) (by show _ < rp g (j + 1); have : i < rp g (j + 1) - rp g j := hi; omega)
def rowsRef (g : Rg) : SV := .ref 1 (fun _ => rgS g)
def refD : List SV → Option Rg
  | [.ref _ f] => some ⟨slLen (f 0), rgD (f 0)⟩
  | _ => none
/-! The cells of runs, one by one. -/
def wd (r : Rn) : Nat := (r.x1 - r.x0).toNat
def off (f : Nat → Rn) : Nat → Nat
  | 0 => 0
  | m + 1 => off f m + wd (f m)
theorem off_mono (f : Nat → Rn) {m n : Nat} (h : m ≤ n) : off f m ≤ off f n := by
  induction n with
  | zero => rw [Nat.le_zero.1 h]; exact Nat.le_refl _
  | succ n ih =>
    by_cases hm : m = n + 1
    · rw [hm]; exact Nat.le_refl _
    · exact Nat.le_trans (ih (by omega)) (Nat.le_add_right _ _)
def cellF (f : Nat → Rn) : Nat → Nat → Pt
  | 0, _ => ⟨0, 0⟩
  | n + 1, i => if off f n ≤ i then ⟨(f n).x0 + ((i - off f n : Nat) : Int), (f n).y⟩ else cellF f n i
theorem cellF_at (f : Nat → Rn) : ∀ {n m k : Nat}, m < n → k < wd (f m) → cellF f n (off f m + k) = ⟨(f m).x0 + (k : Int), (f m).y⟩
  | 0, m, k, h, _ => absurd h (Nat.not_lt_zero m)
  | n + 1, m, k, h, hk => by
    unfold cellF
    by_cases e : m = n
    · subst e
      rw [if_pos (Nat.le_add_right _ _), Nat.add_sub_cancel_left]
    · have h1 := off_mono f (show m + 1 ≤ n by omega)
      have h2 : off f (m + 1) = off f m + wd (f m) := rfl
      rw [if_neg (by omega)]
      exact cellF_at f (by omega) hk
theorem cellF_split (f : Nat → Rn) : ∀ {n i : Nat}, i < off f n → ∃ m k, m < n ∧ k < wd (f m) ∧ i = off f m + k
  | 0, i, h => absurd h (Nat.not_lt_zero i)
  | n + 1, i, h => by
    by_cases hi : i < off f n
    · obtain ⟨m, k, h1, h2, h3⟩ := cellF_split f hi
      exact ⟨m, k, by omega, h2, h3⟩
    · have h2 : off f (n + 1) = off f n + wd (f n) := rfl
      exact ⟨n, i - off f n, by omega, by omega, by omega⟩
def cellG (g : Rg) (i : Nat) : Pt := cellF g.f g.n i
/-! Clone of runs that are then lent. -/
def spCloneF : FSpec := mkSpec 63 (γ := Rg) (fun | [s] => some ⟨slLen s, rgD s⟩ | _ => none) (fun g => [rgS g]) (fun g => 0 < g.n ∧ g.n ≤ 4294967296) (fun g => rgS g)
theorem ok_cloneF : SpecOK Try.prog spCloneF := by
  refine spec_sound (specs := []) (all_ok trivial) (eqs := []) (fun _ _ h => (List.not_mem_nil h).elim) Aff.mixed Try.func63 rfl (by kernel_rfl) (fun _ _ => by kernel_rfl) (fun g => (⟨[], [(1, [.nilc 0])]⟩ : Ann)) (fun g => Nat.le_of_ble_eq_true (by kernel_rfl)) ?_
  rintro g ⟨h0, hn⟩
  refine vc_of (B := let z1 := (0 : Nat);let z0 := (IntKind.i64 = IntKind.i64);True ∧ (g.n = z1 → True ∧ True ∧ True ∧ True ∧ Sx.Ask (g.n = z1)) ∧ True ∧ True ∧ True ∧ True ∧ Sx.Ask (z1 + g.n ≤ (9223372036854775807 : Nat) ∧ (z1 + g.n) * (24 : Nat) ≤ (140737488355328 : Nat)) ∧ True ∧ True ∧ Sx.Ask (z1 + g.n = g.n) ∧ ∀ (i : Nat), i < g.n → ((True ∧ Sx.Ask z0 ∧ Sx.Ask ((g.f (i - z1)).y = (g.f i).y)) ∧ Sx.Ask z0 ∧ Sx.Ask ((g.f (i - z1)).x0 = (g.f i).x0)) ∧ Sx.Ask z0 ∧ Sx.Ask ((g.f (i - z1)).x1 = (g.f i).x1)) (by kernel_rfl) ?_
  simp only [ask_iff, br_iff, eq_self, true_and, and_true, implies_true, forall_const, decide_eq_true_eq, decide_eq_false_iff_not, ne_eq, Nat.mul_one, Nat.add_zero, Nat.zero_add]
  refine ⟨fun h => by omega, by omega, fun i _ => ?_⟩
  rw [Nat.sub_zero]
  exact ⟨⟨rfl, rfl⟩, rfl⟩
/-! The iterator of the rows. -/
def rwK (g : Rg) (Y : Value) (j : Nat) : Inv := ⟨Nat, fun k => rp g j ≤ k ∧ k ≤ nxt g (rp g j), fun k => ⟨[(0, .con Y), (1, rowsRef g), (3, .int .i64 (rp g j)), (4, .int .i64 k)], []⟩, fun k => g.n - k⟩
def rwL (g : Rg) (Y : Value) : YLoop := ⟨Nat, fun j => j ≤ rc g, fun j => [(0, .con Y), (1, rowsRef g), (3, .int .i64 (rp g j))], fun j => j, fun j => rc g - j, fun j => ⟨[(4, .inv (rwK g Y j))], []⟩, fun _ => 0⟩
/-! The iterator of the cells. -/
def ceL (g : Rg) (Y : Value) : YLoop := ⟨Nat, fun m => m ≤ g.n, fun m => [(0, .con Y), (1, rowsRef g), (9, rgS g), (10, .int .i64 g.n), (11, .int .i64 m)], fun m => off g.f m, fun m => g.n - m, fun _ => ⟨[], [(1000003, [.tmp 4])]⟩, fun m => m⟩
def cxL (g : Rg) (Y : Value) (m : Nat) : YLoop := ⟨Nat, fun k => m < g.n ∧ k ≤ wd (g.f m), fun k => [(0, .con Y), (1, rowsRef g), (9, rgS g), (10, .int .i64 g.n), (11, .int .i64 m), (4, .ref 3 (fun i => lst (rnL (g.f m)) i)), (5, .int .i64 ((g.f m).x0 + (k : Int)))], fun k => off g.f m + k, fun k => wd (g.f m) - k, fun _ => A0, fun _ => 0⟩
end Go.Proofs.Ytbkgncikjhibiaa.Itr
