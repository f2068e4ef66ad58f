/- Plain law: the merging of slices.SortStableFunc (swapRange, rotate, symMerge) sorts; sums and what holds of all elements stay. -/
import Derived.Test.YtfjbjbmbdadmhaaFlb
set_option linter.unusedSimpArgs false
set_option linter.unusedVariables false
namespace Go.Proofs.Ytfjbjbmbdadmhaa.Flc
open Go.RowKit Sx Num Aff Con Fla Flb
def sumN (φ : Nat → Int) : Nat → Int
  | 0 => 0
  | n + 1 => sumN φ n + φ n
theorem sumN_congr {φ ψ : Nat → Int} : ∀ {n : Nat}, (∀ k, k < n → φ k = ψ k) → sumN φ n = sumN ψ n
  | 0, _ => rfl
  | n + 1, h => by
    show sumN φ n + φ n = sumN ψ n + ψ n
    rw [sumN_congr (fun k hk => h k (by omega)), h n (by omega)]
theorem sumN_upd (ψ : Nat → Int) (x : Int) {i : Nat} : ∀ n, i < n → sumN (fun k => if k = i then x else ψ k) n = sumN ψ n - ψ i + x
  | 0, h => absurd h (Nat.not_lt_zero _)
  | n + 1, h => by
    show sumN (fun k => if k = i then x else ψ k) n + (if n = i then x else ψ n) = sumN ψ n + ψ n - ψ i + x
    by_cases hi : n = i
    · subst hi
      rw [if_pos rfl, sumN_congr (ψ := ψ) (fun k hk => if_neg (by omega))]
      omega
    · rw [if_neg hi, sumN_upd ψ x n (by omega)]
      omega
/-- Two elements change places. -/
def sw2 (f : Nat → Ed) (i j k : Nat) : Ed := if k = i then f j else if k = j then f i else f k
theorem sum_sw2 (φ : Ed → Int) (f : Nat → Ed) {i j : Nat} (h : i < j) (n : Nat) (hn : j < n) : sumN (fun k => φ (sw2 f i j k)) n = sumN (fun k => φ (f k)) n := by
  have e : ∀ k, k < n → φ (sw2 f i j k) = (fun k => if k = i then φ (f j) else (fun k => if k = j then φ (f i) else φ (f k)) k) k := fun k _ => by
    unfold sw2
    simp only []
    split
    · rfl
    · split
      · rfl
      · rfl
  rw [sumN_congr e, sumN_upd (fun k => if k = j then φ (f i) else φ (f k)) (φ (f j)) n (by omega), sumN_upd (fun k => φ (f k)) (φ (f i)) n hn, if_neg (by omega)]
  omega
/-- Blocks of i elements at a and at b change places. -/
def swr (f : Nat → Ed) (a b i k : Nat) : Ed := if a ≤ k ∧ k < a + i then f (k - a + b) else if b ≤ k ∧ k < b + i then f (k - b + a) else f k
theorem swr_zero (f : Nat → Ed) (a b : Nat) : swr f a b 0 = f := by
  funext k
  unfold swr
  rw [if_neg (by omega), if_neg (by omega)]
theorem swr_succ (f : Nat → Ed) {a b i : Nat} (h : a + i < b) : swr f a b (i + 1) = sw2 (swr f a b i) (a + i) (b + i) := by
  funext k
  unfold sw2 swr
  repeat' split
  all_goals first
    | rfl
    | (exfalso; omega)
    | exact congrArg f (by omega)
theorem sum_swr (φ : Ed → Int) (f : Nat → Ed) {a b n : Nat} : ∀ i, a + i ≤ b → b + i ≤ n → sumN (fun k => φ (swr f a b i k)) n = sumN (fun k => φ (f k)) n
  | 0, _, _ => by rw [swr_zero]
  | i + 1, h1, h2 => by rw [swr_succ f (by omega), sum_sw2 φ _ (by omega) n (by omega), sum_swr φ f i (by omega) (by omega)]
/-- The blocks from a to m and from m to b change places. -/
def rot (f : Nat → Ed) (a m b k : Nat) : Ed := if k < a ∨ b ≤ k then f k else if k < a + (b - m) then f (k - a + m) else f (k - (b - m))
theorem rot_big (f : Nat → Ed) {m i j : Nat} (hi : i ≤ m) (h : j < i) : rot (swr f (m - i) m j) (m - (i - j)) m (m + j) = rot f (m - i) m (m + j) := by
  funext k
  unfold rot swr
  repeat' split
  all_goals first
    | rfl
    | (exfalso; omega)
    | exact congrArg f (by omega)
theorem rot_small (f : Nat → Ed) {m i j : Nat} (hi : i ≤ m) (h : i < j) : rot (swr f (m - i) (m + j - i) i) (m - i) m (m + (j - i)) = rot f (m - i) m (m + j) := by
  funext k
  unfold rot swr
  repeat' split
  all_goals first
    | rfl
    | (exfalso; omega)
    | exact congrArg f (by omega)
theorem rot_same (f : Nat → Ed) {m i : Nat} (hi : i ≤ m) : swr f (m - i) m i = rot f (m - i) m (m + i) := by
  funext k
  unfold rot swr
  repeat' split
  all_goals first
    | rfl
    | (exfalso; omega)
    | exact congrArg f (by omega)
theorem rot_none (f : Nat → Ed) {a m b : Nat} (h : a ≤ m) (h2 : m ≤ b) (h3 : a = m ∨ m = b) : rot f a m b = f := by
  funext k
  unfold rot
  repeat' split
  all_goals first
    | rfl
    | (exfalso; omega)
    | exact congrArg f (by omega)
theorem rot_out (f : Nat → Ed) {a m b k : Nat} (h : k < a ∨ b ≤ k) : rot f a m b k = f k := if_pos h
theorem rot_left (f : Nat → Ed) {a m b k : Nat} (h1 : a ≤ k) (h2 : k < a + (b - m)) (hm : a ≤ m) (hb : m ≤ b) : rot f a m b k = f (k - a + m) := by
  unfold rot
  rw [if_neg (by omega), if_pos h2]
theorem rot_right (f : Nat → Ed) {a m b k : Nat} (h1 : a + (b - m) ≤ k) (h2 : k < b) : rot f a m b k = f (k - (b - m)) := by
  unfold rot
  rw [if_neg (by omega), if_neg (by omega)]
theorem sum_rotN (φ : Ed → Int) {n m : Nat} : ∀ (s i j : Nat) (f : Nat → Ed), i + j ≤ s → i ≤ m → m + j ≤ n → sumN (fun k => φ (rot f (m - i) m (m + j) k)) n = sumN (fun k => φ (f k)) n
  | 0, i, j, f, hs, _, _ => by rw [rot_none f (by omega) (by omega) (by omega)]
  | s + 1, i, j, f, hs, hi, hj => by
    by_cases h0 : i = 0 ∨ j = 0
    · rw [rot_none f (by omega) (by omega) (by omega)]
    · by_cases h1 : i = j
      · subst h1
        rw [← rot_same f hi, sum_swr φ f i (by omega) (by omega)]
      · by_cases h2 : j < i
        · rw [← rot_big f hi h2, sum_rotN φ s (i - j) j _ (by omega) (by omega) hj, sum_swr φ f j (by omega) (by omega)]
        · rw [← rot_small f hi (by omega), sum_rotN φ s i (j - i) _ (by omega) hi (by omega), sum_swr φ f i (by omega) (by omega)]
theorem sum_rot (φ : Ed → Int) (f : Nat → Ed) {n a m b : Nat} (h1 : a ≤ m) (h2 : m ≤ b) (h3 : b ≤ n) : sumN (fun k => φ (rot f a m b k)) n = sumN (fun k => φ (f k)) n := by
  have := sum_rotN φ (n := n) (m := m) _ (m - a) (b - m) f (Nat.le_refl _) (by omega) (by omega)
  rwa [show m - (m - a) = a by omega, show m + (b - m) = b by omega] at this
theorem all_rot {P : Ed → Prop} {f : Nat → Ed} {lo n a m b : Nat} (h0 : lo ≤ a) (h1 : a ≤ m) (h2 : m ≤ b) (h3 : b ≤ n) (h : ∀ k, lo ≤ k → k < n → P (f k)) : ∀ k, lo ≤ k → k < n → P (rot f a m b k) := fun k hl hk => by
  unfold rot
  repeat' split
  all_goals exact h _ (by omega) (by omega)
/-- Bisection. -/
def bis (p : Nat → Bool) : Nat → Nat → Nat → Nat
  | 0, i, _ => i
  | k + 1, i, j => if i < j then if p ((i + j) / 2) then bis p k ((i + j) / 2 + 1) j else bis p k i ((i + j) / 2) else i
theorem bis_in (p : Nat → Bool) : ∀ k i j, i ≤ j → i ≤ bis p k i j ∧ bis p k i j ≤ j
  | 0, i, j, h => ⟨Nat.le_refl _, h⟩
  | k + 1, i, j, h => by
    simp only [bis]
    split
    · split
      · have := bis_in p k ((i + j) / 2 + 1) j (by omega)
        omega
      · have := bis_in p k i ((i + j) / 2) (by omega)
        omega
    · omega
theorem bis_lo (p : Nat → Bool) : ∀ k i j, bis p k i j = i ∨ (i < bis p k i j ∧ p (bis p k i j - 1) = true)
  | 0, i, j => .inl rfl
  | k + 1, i, j => by
    simp only [bis]
    split
    · split
      · rename_i h1 h2
        rcases bis_lo p k ((i + j) / 2 + 1) j with h | h
        · refine .inr ⟨by omega, ?_⟩
          rw [h, Nat.add_sub_cancel]
          exact h2
        · exact .inr ⟨by omega, h.2⟩
      · exact bis_lo p k i _
    · exact .inl rfl
theorem bis_hi (p : Nat → Bool) : ∀ k i j, j - i ≤ k → i ≤ j → bis p k i j = j ∨ (bis p k i j < j ∧ p (bis p k i j) = false)
  | 0, i, j, h, h2 => .inl (by show i = j; omega)
  | k + 1, i, j, h, h2 => by
    simp only [bis]
    split
    · split
      · exact bis_hi p k _ j (by omega) (by omega)
      · rename_i h1 h2
        rcases bis_hi p k i ((i + j) / 2) (by omega) (by omega) with h | h
        · refine .inr ⟨by omega, ?_⟩
          rw [h]
          simpa using h2
        · exact .inr ⟨by omega, h.2⟩
    · exact .inl (by omega)
theorem bis_fuel (p : Nat → Bool) : ∀ k l i j, j - i ≤ k → j - i ≤ l → bis p k i j = bis p l i j
  | 0, 0, i, j, _, _ => rfl
  | 0, l + 1, i, j, h, _ => by show i = _; simp only [bis]; rw [if_neg (by omega)]
  | k + 1, 0, i, j, _, h => by show _ = i; simp only [bis]; rw [if_neg (by omega)]
  | k + 1, l + 1, i, j, h1, h2 => by
    simp only [bis]
    split
    · split
      · exact bis_fuel p k l _ j (by omega) (by omega)
      · exact bis_fuel p k l i _ (by omega) (by omega)
    · rfl
/-- The bisection of a part. -/
def bs (p : Nat → Bool) (i j : Nat) : Nat := bis p (j - i) i j
theorem bs_end (p : Nat → Bool) {i j : Nat} (h : ¬ i < j) : bs p i j = i := by
  unfold bs
  rw [show j - i = 0 by omega]
  rfl
theorem bs_up (p : Nat → Bool) {i j : Nat} (h : i < j) (hp : p ((i + j) / 2) = true) : bs p ((i + j) / 2 + 1) j = bs p i j := by
  unfold bs
  obtain ⟨k, hk⟩ : ∃ k, j - i = k + 1 := ⟨j - i - 1, by omega⟩
  rw [hk]
  show _ = if i < j then if p ((i + j) / 2) then bis p k ((i + j) / 2 + 1) j else bis p k i ((i + j) / 2) else i
  rw [if_pos h, if_pos hp]
  exact bis_fuel p _ _ _ _ (Nat.le_refl _) (by omega)
theorem bs_dn (p : Nat → Bool) {i j : Nat} (h : i < j) (hp : p ((i + j) / 2) = false) : bs p i ((i + j) / 2) = bs p i j := by
  unfold bs
  obtain ⟨k, hk⟩ : ∃ k, j - i = k + 1 := ⟨j - i - 1, by omega⟩
  rw [hk]
  show _ = if i < j then if p ((i + j) / 2) then bis p k ((i + j) / 2 + 1) j else bis p k i ((i + j) / 2) else i
  rw [if_pos h, if_neg (by rw [hp]; exact Bool.false_ne_true)]
  exact bis_fuel p _ _ _ _ (Nat.le_refl _) (by omega)
def less (f : Nat → Ed) (i j : Nat) : Bool := decide ((f i).y < (f j).y)
def mid (a b : Nat) : Nat := (a + b) / 2
/-- The place where symMerge cuts. -/
def cutB (f : Nat → Ed) (a m b : Nat) : Nat := bs (fun c => !less f (mid a b + m - 1 - c) c) (if mid a b < m then mid a b + m - b else a) (if mid a b < m then mid a b else m)
def symR (f : Nat → Ed) (a m b s : Nat) : Nat → Ed := if s < m ∧ m < mid a b + m - s then rot f s m (mid a b + m - s) else f
def symL (S : (Nat → Ed) → Nat → Nat → Nat → Nat → Ed) (f : Nat → Ed) (a b s : Nat) : Nat → Ed := if a < s ∧ s < mid a b then S f a s (mid a b) else f
def symH (S : (Nat → Ed) → Nat → Nat → Nat → Nat → Ed) (f : Nat → Ed) (a b e : Nat) : Nat → Ed := if mid a b < e ∧ e < b then S f (mid a b) e b else f
def symF : Nat → (Nat → Ed) → Nat → Nat → Nat → Nat → Ed
  | 0, f, _, _, _ => f
  | k + 1, f, a, m, b =>
    if m - a = 1 then rot f a m (bs (fun h => less f h a) m b)
    else if b - m = 1 then rot f (bs (fun h => !less f m h) a m) m b
    else symH (symF k) (symL (symF k) (symR f a m b (cutB f a m b)) a b (cutB f a m b)) a b (mid a b + m - cutB f a m b)
theorem cut_in (f : Nat → Ed) {a m b : Nat} (h1 : a < m) (h2 : m < b) : a ≤ cutB f a m b ∧ cutB f a m b ≤ m ∧ cutB f a m b ≤ mid a b ∧ mid a b + m - cutB f a m b ≤ b ∧ m ≤ mid a b + m - cutB f a m b := by
  have hm : 2 * mid a b ≤ a + b ∧ a + b ≤ 2 * mid a b + 1 := by unfold mid; omega
  unfold cutB
  split
  · have := bis_in (fun c => !less f (mid a b + m - 1 - c) c) (mid a b - (mid a b + m - b)) (mid a b + m - b) (mid a b) (by omega)
    change _ ≤ bs _ _ _ ∧ bs _ _ _ ≤ _ at this
    omega
  · have := bis_in (fun c => !less f (mid a b + m - 1 - c) c) (m - a) a m (by omega)
    change _ ≤ bs _ _ _ ∧ bs _ _ _ ≤ _ at this
    omega
/-- What the cut says of its neighbours. -/
theorem cut_says (f : Nat → Ed) {a m b : Nat} (h1 : a < m) (h2 : m < b) :
    (cutB f a m b = a ∨ mid a b + m - cutB f a m b = b ∨ (a < cutB f a m b ∧ (f (cutB f a m b - 1)).y ≤ (f (mid a b + m - cutB f a m b)).y)) ∧
    (cutB f a m b = m ∨ mid a b + m - cutB f a m b = m ∨ (f (mid a b + m - cutB f a m b - 1)).y < (f (cutB f a m b)).y) := by
  have hm : 2 * mid a b ≤ a + b ∧ a + b ≤ 2 * mid a b + 1 := by unfold mid; omega
  have key : ∀ lo hi, lo ≤ hi → cutB f a m b = bs (fun c => !less f (mid a b + m - 1 - c) c) lo hi → (cutB f a m b = lo ∨ (lo < cutB f a m b ∧ (f (mid a b + m - 1 - (cutB f a m b - 1))).y ≥ (f (cutB f a m b - 1)).y)) ∧ (cutB f a m b = hi ∨ (f (mid a b + m - 1 - cutB f a m b)).y < (f (cutB f a m b)).y) := fun lo hi hle e => by
    have q1 := bis_lo (fun c => !less f (mid a b + m - 1 - c) c) (hi - lo) lo hi
    have q2 := bis_hi (fun c => !less f (mid a b + m - 1 - c) c) (hi - lo) lo hi (Nat.le_refl _) hle
    change bs _ lo hi = lo ∨ (lo < bs _ lo hi ∧ (!less f (mid a b + m - 1 - (bs _ lo hi - 1)) (bs _ lo hi - 1)) = true) at q1
    change bs _ lo hi = hi ∨ (bs _ lo hi < hi ∧ (!less f (mid a b + m - 1 - bs _ lo hi) (bs _ lo hi)) = false) at q2
    rw [← e] at q1 q2
    refine ⟨?_, ?_⟩
    · rcases q1 with q1 | q1
      · exact .inl q1
      · refine .inr ⟨q1.1, ?_⟩
        have := q1.2
        unfold less at this
        simp at this
        omega
    · rcases q2 with q2 | q2
      · exact .inl q2
      · refine .inr ?_
        have := q2.2
        unfold less at this
        simpa using this
  have hin := cut_in f h1 h2
  by_cases hc : mid a b < m
  · obtain ⟨k1, k2⟩ := key (mid a b + m - b) (mid a b) (by omega) (by unfold cutB; rw [if_pos hc, if_pos hc])
    refine ⟨?_, ?_⟩
    · rcases k1 with k1 | ⟨k0, k1⟩
      · exact .inr (.inl (by omega))
      · refine .inr (.inr ⟨by omega, ?_⟩)
        rw [show mid a b + m - 1 - (cutB f a m b - 1) = mid a b + m - cutB f a m b by omega] at k1
        exact k1
    · rcases k2 with k2 | k2
      · exact .inr (.inl (by omega))
      · refine .inr (.inr ?_)
        rw [show mid a b + m - cutB f a m b - 1 = mid a b + m - 1 - cutB f a m b by omega]
        exact k2
  · obtain ⟨k1, k2⟩ := key a m (by omega) (by unfold cutB; rw [if_neg hc, if_neg hc])
    refine ⟨?_, ?_⟩
    · rcases k1 with k1 | ⟨k0, k1⟩
      · exact .inl k1
      · refine .inr (.inr ⟨by omega, ?_⟩)
        rw [show mid a b + m - 1 - (cutB f a m b - 1) = mid a b + m - cutB f a m b by omega] at k1
        exact k1
    · rcases k2 with k2 | k2
      · exact .inl k2
      · refine .inr (.inr ?_)
        rw [show mid a b + m - cutB f a m b - 1 = mid a b + m - 1 - cutB f a m b by omega]
        exact k2
/-! What it keeps. -/
theorem sum_symF (φ : Ed → Int) {n : Nat} : ∀ k f a m b, a < m → m < b → b ≤ n → sumN (fun i => φ (symF k f a m b i)) n = sumN (fun i => φ (f i)) n
  | 0, f, a, m, b, _, _, _ => rfl
  | k + 1, f, a, m, b, h1, h2, h3 => by
    have hm : 2 * mid a b ≤ a + b ∧ a + b ≤ 2 * mid a b + 1 := by unfold mid; omega
    have hc := cut_in f h1 h2
    simp only [symF]
    split
    · have := bis_in (fun h => less f h a) (b - m) m b (by omega)
      change _ ≤ bs _ _ _ ∧ bs _ _ _ ≤ _ at this
      exact sum_rot φ f (by omega) (by omega) (by omega)
    · split
      · have := bis_in (fun h => !less f m h) (m - a) a m (by omega)
        change _ ≤ bs _ _ _ ∧ bs _ _ _ ≤ _ at this
        exact sum_rot φ f (by omega) (by omega) (by omega)
      · have e3 : ∀ g, sumN (fun i => φ (symH (symF k) g a b (mid a b + m - cutB f a m b) i)) n = sumN (fun i => φ (g i)) n := fun g => by
          unfold symH
          split
          · exact sum_symF φ k g _ _ _ (by omega) (by omega) (by omega)
          · rfl
        have e2 : ∀ g, sumN (fun i => φ (symL (symF k) g a b (cutB f a m b) i)) n = sumN (fun i => φ (g i)) n := fun g => by
          unfold symL
          split
          · exact sum_symF φ k g _ _ _ (by omega) (by omega) (by omega)
          · rfl
        rw [e3, e2]
        unfold symR
        split
        · exact sum_rot φ f (by omega) (by omega) (by omega)
        · rfl
theorem all_symF {P : Ed → Prop} {lo n : Nat} : ∀ k f a m b, lo ≤ a → a < m → m < b → b ≤ n → (∀ i, lo ≤ i → i < n → P (f i)) → ∀ i, lo ≤ i → i < n → P (symF k f a m b i)
  | 0, f, a, m, b, _, _, _, _, h => h
  | k + 1, f, a, m, b, h0, h1, h2, h3, h => by
    have hm : 2 * mid a b ≤ a + b ∧ a + b ≤ 2 * mid a b + 1 := by unfold mid; omega
    have hc := cut_in f h1 h2
    simp only [symF]
    split
    · have := bis_in (fun h => less f h a) (b - m) m b (by omega)
      change _ ≤ bs _ _ _ ∧ bs _ _ _ ≤ _ at this
      exact all_rot (by omega) (by omega) (by omega) (by omega) h
    · split
      · have := bis_in (fun h => !less f m h) (m - a) a m (by omega)
        change _ ≤ bs _ _ _ ∧ bs _ _ _ ≤ _ at this
        exact all_rot (by omega) (by omega) (by omega) (by omega) h
      · have e3 : ∀ g : Nat → Ed, (∀ i, lo ≤ i → i < n → P (g i)) → ∀ i, lo ≤ i → i < n → P (symH (symF k) g a b (mid a b + m - cutB f a m b) i) := fun g hg => by
          unfold symH
          split
          · exact all_symF k g _ _ _ (by omega) (by omega) (by omega) (by omega) hg
          · exact hg
        have e2 : ∀ g : Nat → Ed, (∀ i, lo ≤ i → i < n → P (g i)) → ∀ i, lo ≤ i → i < n → P (symL (symF k) g a b (cutB f a m b) i) := fun g hg => by
          unfold symL
          split
          · exact all_symF k g _ _ _ (by omega) (by omega) (by omega) (by omega) hg
          · exact hg
        refine e3 _ (e2 _ ?_)
        unfold symR
        split
        · exact all_rot (by omega) (by omega) (by omega) (by omega) h
        · exact h
theorem symF_out : ∀ k f a m b, a < m → m < b → ∀ i, i < a ∨ b ≤ i → symF k f a m b i = f i
  | 0, f, a, m, b, _, _ => fun _ _ => rfl
  | k + 1, f, a, m, b, h1, h2 => fun i hi => by
    have hm : 2 * mid a b ≤ a + b ∧ a + b ≤ 2 * mid a b + 1 := by unfold mid; omega
    have hc := cut_in f h1 h2
    simp only [symF]
    split
    · have := bis_in (fun h => less f h a) (b - m) m b (by omega)
      change _ ≤ bs _ _ _ ∧ bs _ _ _ ≤ _ at this
      exact rot_out f (by omega)
    · split
      · have := bis_in (fun h => !less f m h) (m - a) a m (by omega)
        change _ ≤ bs _ _ _ ∧ bs _ _ _ ≤ _ at this
        exact rot_out f (by omega)
      · have e3 : ∀ g, symH (symF k) g a b (mid a b + m - cutB f a m b) i = g i := fun g => by
          unfold symH
          split
          · exact symF_out k g _ _ _ (by omega) (by omega) i (by omega)
          · rfl
        have e2 : ∀ g, symL (symF k) g a b (cutB f a m b) i = g i := fun g => by
          unfold symL
          split
          · exact symF_out k g _ _ _ (by omega) (by omega) i (by omega)
          · rfl
        rw [e3, e2]
        unfold symR
        split
        · exact rot_out f (by omega)
        · rfl
/-- Sorted from a to b. -/
def srtd (f : Nat → Ed) (a b : Nat) : Prop := ∀ p q, a ≤ p → p < q → q < b → (f p).y ≤ (f q).y
theorem srtd.sub {f : Nat → Ed} {a b c d : Nat} (h : srtd f a b) (h1 : a ≤ c) (h2 : d ≤ b) : srtd f c d := fun p q hp hpq hq => h p q (by omega) hpq (by omega)
theorem srtd.congr {f g : Nat → Ed} {a b : Nat} (h : srtd f a b) (e : ∀ k, a ≤ k → k < b → g k = f k) : srtd g a b := fun p q hp hpq hq => by
  rw [e p hp (by omega), e q (by omega) hq]
  exact h p q hp hpq hq
/-- Two sorted parts, the left one not above the right one. -/
theorem srtd.glue {f : Nat → Ed} {a c b : Nat} (h1 : srtd f a c) (h2 : srtd f c b) (h : ∀ p q, a ≤ p → p < c → c ≤ q → q < b → (f p).y ≤ (f q).y) : srtd f a b := fun p q hp hpq hq => by
  by_cases hc : q < c
  · exact h1 p q hp hpq hc
  · by_cases hc2 : p < c
    · exact h p q hp hc2 (by omega) hq
    · exact h2 p q (by omega) hpq hq
theorem srt_rot {f : Nat → Ed} {a m b : Nat} (ha : a ≤ m) (hb : m ≤ b) (h1 : srtd f a m) (h2 : srtd f m b) (h : a = m ∨ m = b ∨ (f (b - 1)).y ≤ (f a).y) : srtd (rot f a m b) a b := by
  refine srtd.glue (c := a + (b - m)) (fun p q hp hpq hq => ?_) (fun p q hp hpq hq => ?_) (fun p q hp hpc hcq hq => ?_)
  · rw [rot_left f hp (by omega) ha hb, rot_left f (by omega) hq ha hb]
    exact h2 _ _ (by omega) (by omega) (by omega)
  · rw [rot_right f hp (by omega), rot_right f (by omega) hq]
    exact h1 _ _ (by omega) (by omega) (by omega)
  · rw [rot_left f hp (by omega) ha hb, rot_right f (by omega) hq]
    have e1 : (f (p - a + m)).y ≤ (f (b - 1)).y := by
      by_cases e : p - a + m = b - 1
      · rw [e]; exact Int.le_refl _
      · exact h2 _ _ (by omega) (by omega) (by omega)
    have e2 : (f a).y ≤ (f (q - (b - m))).y := by
      by_cases e : q - (b - m) = a
      · rw [e]; exact Int.le_refl _
      · exact h1 _ _ (by omega) (by omega) (by omega)
    omega
theorem symF_srt : ∀ k f a m b, a < m → m < b → b - a ≤ k → srtd f a m → srtd f m b → srtd (symF k f a m b) a b
  | 0, f, a, m, b, h1, h2, h3 => by omega
  | k + 1, f, a, m, b, h1, h2, h3 => fun ha hb => by
    have hm : 2 * mid a b ≤ a + b ∧ a + b ≤ 2 * mid a b + 1 := by unfold mid; omega
    have hc := cut_in f h1 h2
    have hs := cut_says f h1 h2
    simp only [symF]
    split
    · have hi := bis_in (fun h => less f h a) (b - m) m b (by omega)
      have hl := bis_lo (fun h => less f h a) (b - m) m b
      have hh := bis_hi (fun h => less f h a) (b - m) m b (Nat.le_refl _) (by omega)
      change _ ≤ bs _ _ _ ∧ bs _ _ _ ≤ _ at hi
      change bs _ _ _ = _ ∨ (_ < bs _ _ _ ∧ less f (bs _ _ _ - 1) a = true) at hl
      change bs _ _ _ = _ ∨ (bs _ _ _ < _ ∧ less f (bs _ _ _) a = false) at hh
      generalize bs (fun h => less f h a) m b = s at *
      unfold less at hl hh
      rw [decide_eq_true_eq] at hl
      rw [decide_eq_false_iff_not] at hh
      refine srtd.glue (c := s) (srt_rot (by omega) (by omega) ha (hb.sub (Nat.le_refl _) (by omega)) (by omega)) ((hb.sub (by omega) (Nat.le_refl _)).congr fun k hk _ => rot_out f (.inr hk)) fun p q hp hps hsq hq => ?_
      rw [rot_out f (.inr hsq)]
      have e1 : (f s).y ≤ (f q).y := by
        by_cases e : s = q
        · rw [e]; exact Int.le_refl _
        · exact hb s q (by omega) (by omega) hq
      by_cases hpl : p < a + (s - m)
      · rw [rot_left f hp hpl (by omega) (by omega)]
        have := hb (p - a + m) q (by omega) (by omega) hq
        exact this
      · rw [rot_right f (by omega) hps, show p - (s - m) = a by omega]
        omega
    · split
      · have hi := bis_in (fun h => !less f m h) (m - a) a m (by omega)
        have hl := bis_lo (fun h => !less f m h) (m - a) a m
        have hh := bis_hi (fun h => !less f m h) (m - a) a m (Nat.le_refl _) (by omega)
        change _ ≤ bs _ _ _ ∧ bs _ _ _ ≤ _ at hi
        change bs _ _ _ = _ ∨ (_ < bs _ _ _ ∧ (!less f m (bs _ _ _ - 1)) = true) at hl
        change bs _ _ _ = _ ∨ (bs _ _ _ < _ ∧ (!less f m (bs _ _ _)) = false) at hh
        generalize bs (fun h => !less f m h) a m = s at *
        unfold less at hl hh
        simp only [Bool.not_eq_true', Bool.not_eq_false', decide_eq_true_eq, decide_eq_false_iff_not] at hl hh
        obtain rfl : b = m + 1 := by omega
        refine srtd.glue (c := s) ((ha.sub (Nat.le_refl _) (by omega)).congr fun k _ hk => rot_out f (.inl hk)) (srt_rot (by omega) (by omega) (ha.sub (by omega) (Nat.le_refl _)) hb (by rw [Nat.add_sub_cancel]; omega)) fun p q hp hps hsq hq => ?_
        rw [rot_out f (.inl hps)]
        by_cases hql : q < s + 1
        · rw [rot_left f hsq (by omega) (by omega) (by omega), show q - s + m = m by omega]
          have e1 : (f p).y ≤ (f (s - 1)).y := by
            by_cases e : p = s - 1
            · rw [e]; exact Int.le_refl _
            · exact ha p (s - 1) hp (by omega) (by omega)
          omega
        · rw [rot_right f (by omega) hq, show q - (m + 1 - m) = q - 1 by omega]
          exact ha p (q - 1) hp (by omega) (by omega)
      · generalize cutB f a m b = s at *
        obtain ⟨e, he⟩ : ∃ e, mid a b + m - s = e := ⟨_, rfl⟩
        rw [he] at hc hs ⊢
        have er : symR f a m b s = rot f s m e := by
          unfold symR
          rw [he]
          split
          · rfl
          · rw [rot_none f (by omega) (by omega) (by omega)]
        rw [er]
        have l1 : ∀ i, i < s → rot f s m e i = f i := fun i hi => rot_out f (.inl hi)
        have l2 : ∀ i, s ≤ i → i < mid a b → rot f s m e i = f (i - s + m) := fun i h1 h2 => rot_left f h1 (by omega) (by omega) (by omega)
        have l3 : ∀ i, mid a b ≤ i → i < e → rot f s m e i = f (i - (e - m)) := fun i h1 h2 => rot_right f (by omega) h2
        have l4 : ∀ i, e ≤ i → rot f s m e i = f i := fun i hi => rot_out f (.inr hi)
        generalize rot f s m e = g at *
        have p1 : srtd g a s := (ha.sub (Nat.le_refl _) (by omega)).congr fun i _ hi => l1 i hi
        have p2 : srtd g s (mid a b) := fun p q hp hpq hq => by
          rw [l2 p hp (by omega), l2 q (by omega) hq]
          exact hb _ _ (by omega) (by omega) (by omega)
        have p3 : srtd g (mid a b) e := fun p q hp hpq hq => by
          rw [l3 p hp (by omega), l3 q (by omega) hq]
          exact ha _ _ (by omega) (by omega) (by omega)
        have p4 : srtd g e b := (hb.sub (by omega) (Nat.le_refl _)).congr fun i hi _ => l4 i hi
        have half : ∀ p q, a ≤ p → p < mid a b → mid a b ≤ q → q < b → (g p).y ≤ (g q).y := fun p q hp hpm hmq hq => by
          by_cases c1 : p < s
          · rw [l1 p c1]
            by_cases c2 : q < e
            · rw [l3 q hmq c2]
              exact ha _ _ hp (by omega) (by omega)
            · rw [l4 q (by omega)]
              have e1 : (f p).y ≤ (f (s - 1)).y := by
                by_cases e : p = s - 1
                · rw [e]; exact Int.le_refl _
                · exact ha p (s - 1) hp (by omega) (by omega)
              have e2 : (f e).y ≤ (f q).y := by
                by_cases e' : e = q
                · rw [e']; exact Int.le_refl _
                · exact hb e q (by omega) (by omega) hq
              omega
          · rw [l2 p (by omega) hpm]
            by_cases c2 : q < e
            · rw [l3 q hmq c2]
              have e1 : (f (p - s + m)).y ≤ (f (e - 1)).y := by
                by_cases e' : p - s + m = e - 1
                · rw [e']; exact Int.le_refl _
                · exact hb _ _ (by omega) (by omega) (by omega)
              have e2 : (f s).y ≤ (f (q - (e - m))).y := by
                by_cases e' : q - (e - m) = s
                · rw [e']; exact Int.le_refl _
                · exact ha _ _ (by omega) (by omega) (by omega)
              omega
            · rw [l4 q (by omega)]
              exact hb _ _ (by omega) (by omega) hq
        have L : srtd (symL (symF k) g a b s) a (mid a b) ∧ (∀ i, i < a ∨ mid a b ≤ i → symL (symF k) g a b s i = g i) := by
          unfold symL
          split
          · exact ⟨symF_srt k g _ _ _ (by omega) (by omega) (by omega) p1 p2, symF_out k g _ _ _ (by omega) (by omega)⟩
          · refine ⟨?_, fun _ _ => rfl⟩
            by_cases c : a = s
            · exact p2.sub (by omega) (Nat.le_refl _)
            · exact p1.sub (Nat.le_refl _) (by omega)
        have hL : ∀ q, mid a b ≤ q → q < b → ∀ i, a ≤ i → i < mid a b → (symL (symF k) g a b s i).y ≤ (g q).y := fun q hq1 hq2 => by
          unfold symL
          split
          · exact all_symF (P := fun d => d.y ≤ (g q).y) (lo := a) (n := mid a b) k g a s (mid a b) (Nat.le_refl _) (by omega) (by omega) (Nat.le_refl _) (fun p hp hpm => half p q hp hpm hq1 hq2)
          · exact fun p hp hpm => half p q hp hpm hq1 hq2
        obtain ⟨L1, L2⟩ := L
        generalize symL (symF k) g a b s = G at *
        have H : srtd (symH (symF k) G a b e) (mid a b) b ∧ (∀ i, i < mid a b ∨ b ≤ i → symH (symF k) G a b e i = G i) := by
          have P3 : srtd G (mid a b) e := p3.congr fun i hi _ => L2 i (.inr hi)
          have P4 : srtd G e b := p4.congr fun i hi _ => L2 i (.inr (by omega))
          unfold symH
          split
          · exact ⟨symF_srt k G _ _ _ (by omega) (by omega) (by omega) P3 P4, symF_out k G _ _ _ (by omega) (by omega)⟩
          · refine ⟨?_, fun _ _ => rfl⟩
            by_cases c : mid a b = e
            · exact P4.sub (by omega) (Nat.le_refl _)
            · exact P3.sub (Nat.le_refl _) (by omega)
        have hH : ∀ p, a ≤ p → p < mid a b → ∀ i, mid a b ≤ i → i < b → (G p).y ≤ (symH (symF k) G a b e i).y := fun p hp1 hp2 => by
          have base : ∀ q, mid a b ≤ q → q < b → (G p).y ≤ (G q).y := fun q hq1 hq2 => by
            rw [L2 q (.inr hq1)]
            exact hL q hq1 hq2 p hp1 hp2
          unfold symH
          split
          · exact all_symF (P := fun d => (G p).y ≤ d.y) (lo := mid a b) (n := b) k G (mid a b) e b (Nat.le_refl _) (by omega) (by omega) (Nat.le_refl _) base
          · exact base
        obtain ⟨H1, H2⟩ := H
        refine srtd.glue (c := mid a b) (L1.congr fun i _ hi => H2 i (.inl hi)) H1 fun p q hp hpm hmq hq => ?_
        rw [H2 p (.inl hpm)]
        exact hH p hp hpm q hmq hq
def symA (f : Nat → Ed) (a m b : Nat) : Nat → Ed := symF (b - a) f a m b
/-! The passes. -/
def pasF (n z : Nat) : Nat → (Nat → Ed) → Nat → (Nat → Ed)
  | 0, f, _ => f
  | k + 1, f, a => if a + 2 * z ≤ n then pasF n z k (symA f a (a + z) (a + 2 * z)) (a + 2 * z) else if a + z < n then symA f a (a + z) n else f
def mrgF (n : Nat) : Nat → (Nat → Ed) → Nat → (Nat → Ed)
  | 0, f, _ => f
  | k + 1, f, z => if z < n then mrgF n k (pasF n z n f 0) (2 * z) else f
def insB (n : Nat) : Nat → (Nat → Ed) → Nat → (Nat → Ed)
  | 0, f, _ => f
  | k + 1, f, a => if a + 20 ≤ n then insB n k (insF a f 19) (a + 20) else insF a f (n - a - 1)
/-- The sorted edges. -/
def srtF (f : Nat → Ed) (n : Nat) : Nat → Ed := mrgF n n (insB n (n + 1) f 0) 20
theorem sum_swp (φ : Ed → Int) (f : Nat → Ed) {j : Nat} (h0 : 1 ≤ j) : ∀ n, j < n → sumN (fun k => φ (swp f j k)) n = sumN (fun k => φ (f k)) n := fun n hn => by
  have e : swp f j = sw2 f (j - 1) j := by
    funext k
    unfold swp sw2
    repeat' split
    all_goals first
      | rfl
      | (exfalso; omega)
      | exact congrArg f (by omega)
  rw [e]
  exact sum_sw2 φ f (by omega) n hn
theorem sum_bub (φ : Ed → Int) (a n : Nat) : ∀ (j : Nat) (f : Nat → Ed), j < n → sumN (fun k => φ (bub a f j k)) n = sumN (fun k => φ (f k)) n
  | 0, _, _ => rfl
  | j + 1, f, h => by
    simp only [bub]
    split
    · rw [sum_bub φ a n j _ (by omega), sum_swp φ f (by omega) n h]
    · rfl
theorem sum_ins (φ : Ed → Int) (f : Nat → Ed) (a n : Nat) : ∀ i, (i = 0 ∨ a + i < n) → sumN (fun k => φ (insF a f i k)) n = sumN (fun k => φ (f k)) n
  | 0, _ => rfl
  | i + 1, h => by
    show sumN (fun k => φ (bub a (insF a f i) (a + i + 1) k)) n = _
    rw [sum_bub φ a n _ _ (by omega), sum_ins φ f a n i (by omega)]
theorem bub_out (a : Nat) : ∀ (j : Nat) (f : Nat → Ed), ∀ k, k < a ∨ j < k → bub a f j k = f k
  | 0, _ => fun _ _ => rfl
  | j + 1, f => fun k hk => by
    simp only [bub]
    split
    · rename_i hc
      rw [bub_out a j _ k (by omega)]
      unfold swp
      rw [if_neg (by omega), if_neg (by omega)]
    · rfl
theorem all_swp {P : Ed → Prop} {f : Nat → Ed} {n j : Nat} (h0 : 1 ≤ j) (hj : j < n) (h : ∀ k, k < n → P (f k)) : ∀ k, k < n → P (swp f j k) := fun k hk => by
  unfold swp
  split
  · exact h _ (by omega)
  · split
    · exact h _ hj
    · exact h _ hk
theorem all_bub {P : Ed → Prop} (a n : Nat) : ∀ (j : Nat) (f : Nat → Ed), j < n → (∀ k, k < n → P (f k)) → ∀ k, k < n → P (bub a f j k)
  | 0, _, _, h => h
  | j + 1, f, hj, h => by
    simp only [bub]
    split
    · exact all_bub a n j _ (by omega) (all_swp (by omega) hj h)
    · exact h
theorem all_ins {P : Ed → Prop} (f : Nat → Ed) (a n : Nat) (h : ∀ k, k < n → P (f k)) : ∀ i, (i = 0 ∨ a + i < n) → ∀ k, k < n → P (insF a f i k)
  | 0, _ => h
  | i + 1, hi => all_bub a n _ _ (by omega) (all_ins f a n h i (by omega))
theorem ins_out (f : Nat → Ed) (a : Nat) : ∀ i k, k < a ∨ a + i < k → insF a f i k = f k
  | 0, _, _ => rfl
  | i + 1, k, hk => by
    show bub a (insF a f i) (a + i + 1) k = f k
    rw [bub_out a _ _ k (by omega), ins_out f a i k (by omega)]
theorem srt_bub (a i : Nat) : ∀ (j : Nat) (f : Nat → Ed), a ≤ j → j ≤ i → (∀ p q, a ≤ p → p < q → q ≤ i → q ≠ j → (f p).y ≤ (f q).y) → ∀ p q, a ≤ p → p < q → q ≤ i → (bub a f j p).y ≤ (bub a f j q).y
  | 0, f, h0, _, h => fun p q hp hpq hq => h p q hp hpq hq (by omega)
  | j + 1, f, h0, hj, h => by
    simp only [bub]
    split
    · rename_i hc
      refine srt_bub a i j (swp f (j + 1)) (by omega) (by omega) fun p q hp0 hpq hq hne => ?_
      have a0 : swp f (j + 1) (j + 1) = f j := by unfold swp; rw [if_pos rfl]; rfl
      have a1 : swp f (j + 1) j = f (j + 1) := by unfold swp; rw [if_neg (by omega), if_pos (by omega)]
      have a2 : ∀ k, k ≠ j + 1 → k ≠ j → swp f (j + 1) k = f k := fun k h1 h2 => by unfold swp; rw [if_neg h1, if_neg (by omega)]
      by_cases hq1 : q = j + 1
      · subst hq1
        rw [a0]
        by_cases hp : p = j
        · subst hp; rw [a1]; omega
        · rw [a2 p (by omega) hp]
          exact h p j (by omega) (by omega) (by omega) (by omega)
      · rw [a2 q hq1 hne]
        by_cases hp1 : p = j + 1
        · subst hp1; rw [a0]; exact h j q (by omega) (by omega) hq hq1
        · by_cases hp : p = j
          · subst hp; rw [a1]; exact h (p + 1) q (by omega) (by omega) hq hq1
          · rw [a2 p hp1 hp]; exact h p q (by omega) hpq hq hq1
    · rename_i hc
      intro p q hp0 hpq hq
      by_cases hq1 : q = j + 1
      · subst hq1
        by_cases hp : p = j
        · subst hp
          omega
        · have := h p j (by omega) (by omega) (by omega) (by omega)
          omega
      · exact h p q hp0 hpq hq hq1
theorem srt_ins (f : Nat → Ed) (a : Nat) : ∀ i, srtd (insF a f i) a (a + i + 1)
  | 0 => fun p q h1 h2 h3 => by omega
  | i + 1 => fun p q h1 h2 h3 => srt_bub a (a + i + 1) (a + i + 1) (insF a f i) (by omega) (Nat.le_refl _) (fun p q h1 h2 h3 h4 => srt_ins f a i p q h1 h2 (by omega)) p q h1 h2 (by omega)
/-- The blocks of z elements are sorted. -/
def blks (f : Nat → Ed) (z n s : Nat) : Prop := srtd f (s * z) (min (s * z + z) n)
theorem insB_blk (n : Nat) : ∀ k f a t, a = t * 20 → n < a + k → (∀ s, s < t → blks f 20 n s) → ∀ s, blks (insB n k f a) 20 n s
  | 0, f, a, t, ha, hk, h => fun s => by
    by_cases hs : s < t
    · exact h s hs
    · intro p q h1 h2 h3
      omega
  | k + 1, f, a, t, ha, hk, h => by
    simp only [insB]
    split
    · refine insB_blk n k _ _ (t + 1) (by omega) (by omega) fun s hs => ?_
      by_cases e : s = t
      · subst e
        exact (srt_ins f a 19).sub (by omega) (by omega)
      · exact (h s (by omega)).congr fun i _ hi => ins_out f a 19 i (by omega)
    · intro s
      by_cases hs : s < t
      · exact (h s hs).congr fun i _ hi => ins_out f a _ i (by omega)
      · by_cases e : s = t
        · subst e
          exact (srt_ins f a (n - a - 1)).sub (by omega) (by omega)
        · intro p q h1 h2 h3
          omega
theorem symA_out {f : Nat → Ed} {a m b i : Nat} (h1 : a < m) (h2 : m < b) (hi : i < a ∨ b ≤ i) : symA f a m b i = f i := symF_out _ f a m b h1 h2 i hi
theorem symA_srt {f : Nat → Ed} {a m b : Nat} (h1 : a < m) (h2 : m < b) (h3 : srtd f a m) (h4 : srtd f m b) : srtd (symA f a m b) a b := symF_srt _ f a m b h1 h2 (Nat.le_refl _) h3 h4
theorem pasF_blk (n z : Nat) (hz : 0 < z) : ∀ k f a t, a = t * (2 * z) → n ≤ a + k → (∀ s, 2 * t ≤ s → blks f z n s) → (∀ s, s < t → blks f (2 * z) n s) → ∀ s, blks (pasF n z k f a) (2 * z) n s := fun k => by
  induction k with
  | zero =>
    intro f a t ha hk h1 h2 s
    by_cases hs : s < t
    · exact h2 s hs
    · have := Nat.mul_le_mul_right (2 * z) (show t ≤ s by omega)
      intro p q h1 h2 h3
      omega
  | succ k ih =>
    intro f a t ha hk h1 h2
    have m0 : 2 * t * z = a := by rw [ha, Nat.mul_comm 2 t, Nat.mul_assoc]
    have m1 : (2 * t + 1) * z = a + z := by rw [Nat.add_mul, m0, Nat.one_mul]
    have b0 : srtd f a (min (a + z) n) := by have := h1 (2 * t) (Nat.le_refl _); unfold blks at this; rwa [m0] at this
    have b1 : srtd f (a + z) (min (a + z + z) n) := by have := h1 (2 * t + 1) (by omega); unfold blks at this; rwa [m1] at this
    simp only [pasF]
    split
    · rename_i hle
      refine ih _ _ (t + 1) (by rw [Nat.add_mul, ← ha]; omega) (by omega) (fun s hs => ?_) (fun s hs => ?_)
      · have := Nat.mul_le_mul_right z hs
        rw [show 2 * (t + 1) = 2 * t + 1 + 1 by omega, Nat.add_mul, m1] at this
        exact (h1 s (by omega)).congr fun i hi _ => symA_out (by omega) (by omega) (.inr (by omega))
      · by_cases e : s = t
        · subst e
          exact (symA_srt (by omega) (by omega) (b0.sub (Nat.le_refl _) (by omega)) (b1.sub (Nat.le_refl _) (by omega))).sub (by omega) (by omega)
        · have := Nat.mul_le_mul_right (2 * z) (show s + 1 ≤ t by omega)
          rw [Nat.add_mul, ← ha] at this
          exact (h2 s (by omega)).congr fun i _ hi => symA_out (by omega) (by omega) (.inl (by omega))
    · split
      · intro s
        by_cases hs : s < t
        · have := Nat.mul_le_mul_right (2 * z) (show s + 1 ≤ t by omega)
          rw [Nat.add_mul, ← ha] at this
          exact (h2 s (by omega)).congr fun i _ hi => symA_out (by omega) (by omega) (.inl (by omega))
        · by_cases e : s = t
          · subst e
            exact (symA_srt (by omega) (by omega) (b0.sub (Nat.le_refl _) (by omega)) (b1.sub (Nat.le_refl _) (by omega))).sub (by omega) (by omega)
          · have := Nat.mul_le_mul_right (2 * z) (show t + 1 ≤ s by omega)
            rw [Nat.add_mul, ← ha] at this
            intro p q h1 h2 h3
            omega
      · intro s
        by_cases hs : s < t
        · exact h2 s hs
        · by_cases e : s = t
          · subst e
            exact b0.sub (by omega) (by omega)
          · have := Nat.mul_le_mul_right (2 * z) (show t + 1 ≤ s by omega)
            rw [Nat.add_mul, ← ha] at this
            intro p q h1 h2 h3
            omega
theorem mrgF_srt (n : Nat) : ∀ k f z, 0 < z → n ≤ z + k → (∀ s, blks f z n s) → srtd (mrgF n k f z) 0 n
  | 0, f, z, h0, hk, h => by
    have := h 0
    unfold blks at this
    exact this.sub (by omega) (by omega)
  | k + 1, f, z, h0, hk, h => by
    simp only [mrgF]
    split
    · exact mrgF_srt n k _ (2 * z) (by omega) (by omega) (pasF_blk n z h0 n f 0 0 (by omega) (by omega) (fun s _ => h s) (fun s hs => absurd hs (Nat.not_lt_zero _)))
    · have := h 0
      unfold blks at this
      exact this.sub (by omega) (by omega)
theorem srtF_srt (f : Nat → Ed) (n : Nat) : srtd (srtF f n) 0 n := mrgF_srt n n _ 20 (by omega) (by omega) (insB_blk n (n + 1) f 0 0 (by omega) (by omega) fun s hs => absurd hs (Nat.not_lt_zero _))
theorem sum_insB (φ : Ed → Int) (n : Nat) : ∀ k f a, sumN (fun i => φ (insB n k f a i)) n = sumN (fun i => φ (f i)) n
  | 0, _, _ => rfl
  | k + 1, f, a => by
    simp only [insB]
    split
    · rw [sum_insB φ n k, sum_ins φ f a n 19 (by omega)]
    · rw [sum_ins φ f a n _ (by omega)]
theorem sum_pasF (φ : Ed → Int) (n z : Nat) (hz : 0 < z) : ∀ k f a, sumN (fun i => φ (pasF n z k f a i)) n = sumN (fun i => φ (f i)) n
  | 0, _, _ => rfl
  | k + 1, f, a => by
    simp only [pasF]
    split
    · rw [sum_pasF φ n z hz k]
      exact sum_symF φ _ f _ _ _ (by omega) (by omega) (by omega)
    · split
      · exact sum_symF φ _ f _ _ _ (by omega) (by omega) (by omega)
      · rfl
theorem sum_mrgF (φ : Ed → Int) (n : Nat) : ∀ k f z, 0 < z → sumN (fun i => φ (mrgF n k f z i)) n = sumN (fun i => φ (f i)) n
  | 0, _, _, _ => rfl
  | k + 1, f, z, h => by
    simp only [mrgF]
    split
    · rw [sum_mrgF φ n k _ _ (by omega), sum_pasF φ n z h]
    · rfl
theorem sum_srtF (φ : Ed → Int) (f : Nat → Ed) (n : Nat) : sumN (fun i => φ (srtF f n i)) n = sumN (fun i => φ (f i)) n := by
  unfold srtF
  rw [sum_mrgF φ n n _ 20 (by omega), sum_insB]
theorem all_insB {P : Ed → Prop} (n : Nat) : ∀ k f a, (∀ i, i < n → P (f i)) → ∀ i, i < n → P (insB n k f a i)
  | 0, _, _, h => h
  | k + 1, f, a, h => by
    simp only [insB]
    split
    · exact all_insB n k _ _ (all_ins f a n h 19 (by omega))
    · exact all_ins f a n h _ (by omega)
theorem all_symA {P : Ed → Prop} {n : Nat} {f : Nat → Ed} {a m b : Nat} (h1 : a < m) (h2 : m < b) (h3 : b ≤ n) (h : ∀ i, i < n → P (f i)) : ∀ i, i < n → P (symA f a m b i) := fun i hi => all_symF (lo := 0) (n := n) _ f a m b (Nat.zero_le _) h1 h2 h3 (fun i _ hi => h i hi) i (Nat.zero_le _) hi
theorem all_pasF {P : Ed → Prop} (n z : Nat) (hz : 0 < z) : ∀ k f a, (∀ i, i < n → P (f i)) → ∀ i, i < n → P (pasF n z k f a i)
  | 0, _, _, h => h
  | k + 1, f, a, h => by
    simp only [pasF]
    split
    · exact all_pasF n z hz k _ _ (all_symA (by omega) (by omega) (by omega) h)
    · split
      · exact all_symA (by omega) (by omega) (by omega) h
      · exact h
theorem all_mrgF {P : Ed → Prop} (n : Nat) : ∀ k f z, 0 < z → (∀ i, i < n → P (f i)) → ∀ i, i < n → P (mrgF n k f z i)
  | 0, _, _, _, h => h
  | k + 1, f, z, hz, h => by
    simp only [mrgF]
    split
    · exact all_mrgF n k _ _ (by omega) (all_pasF n z hz n f 0 h)
    · exact h
theorem all_srtF {P : Ed → Prop} {f : Nat → Ed} {n : Nat} (h : ∀ i, i < n → P (f i)) : ∀ i, i < n → P (srtF f n i) := all_mrgF n n _ 20 (by omega) (all_insB n _ f 0 h)
end Go.Proofs.Ytfjbjbmbdadmhaa.Flc
