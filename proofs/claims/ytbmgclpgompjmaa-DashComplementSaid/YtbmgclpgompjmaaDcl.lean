/- Dashes of a pattern and of the shifted pattern follow each other: the plain law. -/
import Derived.Test.YtbmgclpgompjmaaDsl
set_option linter.unusedSimpArgs false
set_option linter.unusedVariables false
namespace Go.Proofs.Ytbmgclpgompjmaa.Dcl
open Go.RowKit Sx Num Aff Con Dsh Dsi Dsj Dsk Dsl
set_option maxRecDepth 100000
def TT (l : Li) (a b : Int) : List Pt := TkG.L ⟨l.m, l.sd, a, b⟩
def kk (l : Li) (x : Int) : Nat := sk l.sd x l.m

def Q (l : Li) (x : Int) : Pt := ptAt (l.sd (kk l x)) x
def hit (s : Nat → Sd) (b : Int) (j : Nat) : Prop := (0 < (s j).size ∧ (s j).o ≤ b) ∧ b ≤ (s j).o + (s j).size
theorem tk_end {a b : Int} : ∀ (m : Nat) (s : Nat → Sd) (L : List Pt) (j : Nat), j < m → hit s b j → (∀ r, r < j → ¬ hit s b r) → ∃ L2, tk s a b m L = L ++ L2 ++ [ptAt (s j) b]
  | 0, _, _, j, hj, _, _ => absurd hj (Nat.not_lt_zero j)
  | m + 1, s, L, 0, _, h, _ => ⟨[], by rw [List.append_nil]; exact if_pos h⟩
  | m + 1, s, L, j + 1, hj, h, hr => by
    have h0 := hr 0 (by omega)
    obtain ⟨L2, e⟩ := tk_end (a := a) (b := b) m (fun i => s (i + 1)) (if a < (s 0).o + (s 0).size ∧ (s 0).o + (s 0).size < b then L ++ [(s 0).q] else L) j (by omega) h (fun r h' => hr (r + 1) (by omega))
    have e1 : tk s a b (m + 1) L = tk (fun i => s (i + 1)) a b m (if a < (s 0).o + (s 0).size ∧ (s 0).o + (s 0).size < b then L ++ [(s 0).q] else L) := if_neg h0
    rw [e1, e]
    split
    · exact ⟨(s 0).q :: L2, by simp⟩
    · exact ⟨L2, rfl⟩
theorem kk_spec (l : Li) (x : Int) : kk l x ≤ l.m ∧ (∀ j, j < kk l x → lenPt (l.f j) (l.to j) = 0 ∨ Li.o l j + lenPt (l.f j) (l.to j) < x) ∧ (kk l x < l.m → ¬ (lenPt (l.f (kk l x)) (l.to (kk l x)) = 0 ∨ Li.o l (kk l x) + lenPt (l.f (kk l x)) (l.to (kk l x)) < x)) := sk_spec x l.m l.sd
theorem ex_b {l : Li} (hl : l.ok) {b : Int} (h0 : 0 < b) (h : b ≤ Li.o l l.m) : ∃ j, j < l.m ∧ 0 < (l.sd j).size ∧ b ≤ (l.sd j).o + (l.sd j).size := by
  obtain ⟨j, h1, h2, h3⟩ := ex_side l (a := b - 1) (by omega) l.m (fun j hj => (Li.len0 hl hj).1) (by omega)
  exact ⟨j, h1, h2, by omega⟩
theorem kk_lt {l : Li} (hl : l.ok) {b : Int} (h0 : 0 ≤ b) (h : b < Li.o l l.m ∨ (0 < b ∧ b ≤ Li.o l l.m)) : kk l b < l.m := by
  refine sk_lt ?_
  rcases h with h | ⟨h, h'⟩
  · obtain ⟨j, h1, h2, h3⟩ := ex_side l h0 l.m (fun j hj => (Li.len0 hl hj).1) h
    exact ⟨j, h1, h2, by omega⟩
  · exact ex_b hl h h'
theorem o_kk {l : Li} {b : Int} (h0 : 0 ≤ b) : ∀ i : Nat, i ≤ kk l b → Li.o l i ≤ b
  | 0, _ => h0
  | i + 1, hi => by
    have ih := o_kk (l := l) h0 i (by omega)
    have := (kk_spec l b).2.1 i (by omega)
    show Li.o l i + lenPt (l.f i) (l.to i) ≤ b
    omega
theorem kk_mono {l : Li} {a b : Int} (h : a ≤ b) (hb : kk l b < l.m) : kk l a ≤ kk l b := by
  rcases Nat.lt_or_ge (kk l b) (kk l a) with hc | hc
  · have h1 := (kk_spec l a).2.1 _ hc
    have h2 := (kk_spec l b).2.2 hb
    exact absurd (h1.imp id fun h' => by omega) h2
  · exact hc
/-- A dash begins and ends on the line. -/
theorem TT_ends {l : Li} (hl : l.ok) {a b : Int} (h0 : 0 ≤ a) (hab : a < b) (hb : b ≤ Li.o l l.m) : ∃ L2, TT l a b = Q l a :: (L2 ++ [Q l b]) := by
  have kb := kk_lt hl (b := b) (by omega) (.inr ⟨by omega, hb⟩)
  have kab := kk_mono (l := l) (a := a) (b := b) (by omega) kb
  have s2 := (kk_spec l b).2.2 kb
  have hlen := Li.len0 hl kb
  have hob := o_kk (l := l) (b := b) (by omega) (kk l b) (Nat.le_refl _)
  obtain ⟨L2, e⟩ := tk_end (a := a) (b := b) (l.m - kk l a) (fun j => l.sd (j + kk l a)) [ptAt (l.sd (kk l a)) a] (kk l b - kk l a) (by omega)
    (by
      show (0 < (l.sd (kk l b - kk l a + kk l a)).size ∧ (l.sd (kk l b - kk l a + kk l a)).o ≤ b) ∧ b ≤ (l.sd (kk l b - kk l a + kk l a)).o + (l.sd (kk l b - kk l a + kk l a)).size
      rw [show kk l b - kk l a + kk l a = kk l b by omega]
      show (0 < lenPt (l.f (kk l b)) (l.to (kk l b)) ∧ Li.o l (kk l b) ≤ b) ∧ b ≤ Li.o l (kk l b) + lenPt (l.f (kk l b)) (l.to (kk l b))
      omega)
    (fun r hr hh => by
      have s3 := (kk_spec l b).2.1 (r + kk l a) (by omega)
      have hh : (0 < lenPt (l.f (r + kk l a)) (l.to (r + kk l a)) ∧ Li.o l (r + kk l a) ≤ b) ∧ b ≤ Li.o l (r + kk l a) + lenPt (l.f (r + kk l a)) (l.to (r + kk l a)) := hh
      omega)
  refine ⟨L2, ?_⟩
  show tk (fun j => l.sd (j + kk l a)) a b (l.m - kk l a) [ptAt (l.sd (kk l a)) a] = _
  rw [e, show kk l b - kk l a + kk l a = kk l b by omega]
  simp [Q]
theorem len_eq0 {p q : Pt} (h : lenPt p q = 0) : p = q := by
  unfold lenPt at h
  have s := (isq_spec ((q.x - p.x) * (q.x - p.x) + (q.y - p.y) * (q.y - p.y)).toNat).2
  rw [show isq ((q.x - p.x) * (q.x - p.x) + (q.y - p.y) * (q.y - p.y)).toNat = 0 by omega] at s
  have q1 : 0 ≤ (q.x - p.x) * (q.x - p.x) := by rw [← Int.natAbs_mul_self]; exact Int.natCast_nonneg _
  have q2 : 0 ≤ (q.y - p.y) * (q.y - p.y) := by rw [← Int.natAbs_mul_self]; exact Int.natCast_nonneg _
  have z1 : (q.x - p.x) * (q.x - p.x) = 0 := by omega
  have z2 : (q.y - p.y) * (q.y - p.y) = 0 := by omega
  have w1 : q.x - p.x = 0 := by rcases Int.mul_eq_zero.1 z1 with h | h <;> exact h
  have w2 : q.y - p.y = 0 := by rcases Int.mul_eq_zero.1 z2 with h | h <;> exact h
  cases p; cases q
  simp only at w1 w2
  rw [show _ = _ from (Int.sub_eq_zero.1 w1), show _ = _ from (Int.sub_eq_zero.1 w2)]
theorem nr_zero (b : Int) (hb : 1 ≤ b) : nr 0 b = 0 := by
  have s := nr_spec 0 b hb
  have : nr 0 b * b < b := by omega
  have h1 : nr 0 b < 1 := by
    rcases Int.lt_or_le (nr 0 b) 1 with h | h
    · exact h
    · have := Int.mul_le_mul_of_nonneg_right h (show (0 : Int) ≤ b by omega)
      omega
  have h2 : -1 < nr 0 b := by
    rcases Int.lt_or_le (-1) (nr 0 b) with h | h
    · exact h
    · have := Int.mul_le_mul_of_nonneg_right h (show (0 : Int) ≤ b by omega)
      omega
  omega
theorem nr_mul (d b : Int) (hb : 1 ≤ b) : nr (d * b) b = d := by
  have s := nr_spec (d * b) b hb
  have h1 : nr (d * b) b < d + 1 := by
    rcases Int.lt_or_le (nr (d * b) b) (d + 1) with h | h
    · exact h
    · have := Int.mul_le_mul_of_nonneg_right h (show (0 : Int) ≤ b by omega)
      rw [Int.add_mul] at this
      omega
  have h2 : d - 1 < nr (d * b) b := by
    rcases Int.lt_or_le (d - 1) (nr (d * b) b) with h | h
    · exact h
    · have := Int.mul_le_mul_of_nonneg_right h (show (0 : Int) ≤ b by omega)
      rw [Int.sub_mul] at this
      omega
  omega
theorem o_zero {l : Li} : ∀ i, (∀ j, j < i → lenPt (l.f j) (l.to j) = 0) → Li.o l i = 0
  | 0, _ => rfl
  | i + 1, h => by
    show Li.o l i + lenPt (l.f i) (l.to i) = 0
    rw [o_zero i fun j hj => h j (by omega), h i (by omega)]
    rfl
theorem f_zero {l : Li} : ∀ i, i < l.n → (∀ j, j < i → lenPt (l.f j) (l.to j) = 0) → l.f i = l.f 0
  | 0, _, _ => rfl
  | i + 1, hi, h => by
    have e := len_eq0 (h i (by omega))
    have et : l.to i = l.f (i + 1) := if_pos hi
    rw [← et, ← e]
    exact f_zero i (by omega) fun j hj => h j (by omega)
/-- The line begins where its first point is. -/
theorem Q_0 {l : Li} (hl : l.ok) (hE : 0 < Li.o l l.m) : Q l 0 = l.f 0 := by
  have k0 := kk_lt hl (b := 0) (Int.le_refl 0) (.inl hE)
  have kn := Nat.lt_of_lt_of_le k0 (Li.m_le l)
  have hz : ∀ j, j < kk l 0 → lenPt (l.f j) (l.to j) = 0 := fun j hj => by
    have h1 := (kk_spec l 0).2.1 j hj
    have h2 := Li.o_ok hl j (by omega)
    have h3 := Li.len0 hl (show j < l.m by omega)
    omega
  have h1 := (kk_spec l 0).2.2 k0
  have h3 := Li.len0 hl k0
  have e := f_zero (kk l 0) kn hz
  have eo := o_zero (kk l 0) hz
  unfold Q ptAt
  show Pt.mk ((l.f (kk l 0)).x + nr (((l.to (kk l 0)).x - (l.f (kk l 0)).x) * (0 - Li.o l (kk l 0))) (lenPt (l.f (kk l 0)) (l.to (kk l 0)))) ((l.f (kk l 0)).y + nr (((l.to (kk l 0)).y - (l.f (kk l 0)).y) * (0 - Li.o l (kk l 0))) (lenPt (l.f (kk l 0)) (l.to (kk l 0)))) = _
  rw [eo, Int.sub_zero, Int.mul_zero, Int.mul_zero, nr_zero _ (by omega), Int.add_zero, Int.add_zero, e]
theorem o_mono {l : Li} (hl : l.ok) {i : Nat} : ∀ d, i + d ≤ l.m → Li.o l i ≤ Li.o l (i + d)
  | 0, _ => Int.le_refl _
  | d + 1, h => by
    have ih := o_mono hl (i := i) d (by omega)
    have := Li.len0 hl (show i + d < l.m by omega)
    show Li.o l i ≤ Li.o l (i + d) + lenPt (l.f (i + d)) (l.to (i + d))
    omega
theorem to_last {l : Li} (hl : l.ok) {k : Nat} (hz : ∀ j, k < j → j < l.m → lenPt (l.f j) (l.to j) = 0) : ∀ d, k + d < l.m → l.to (k + d) = l.to k
  | 0, _ => rfl
  | d + 1, h => by
    have ih := to_last hl hz d (by omega)
    have e := len_eq0 (hz (k + (d + 1)) (by omega) h)
    have := Li.m_le l
    have et : l.to (k + d) = l.f (k + d + 1) := if_pos (by omega)
    rw [← e]
    exact et.symm.trans ih
def _root_.Go.Proofs.Ytbmgclpgompjmaa.Dsh.Li.endP (l : Li) : Pt := if l.c then l.f 0 else l.f (l.n - 1)
/-- The line ends where its last point is. -/
theorem Q_E {l : Li} (hl : l.ok) (hE : 0 < Li.o l l.m) : Q l (Li.o l l.m) = l.endP := by
  have kE := kk_lt hl (b := Li.o l l.m) (by omega) (.inr ⟨hE, Int.le_refl _⟩)
  have h1 := (kk_spec l (Li.o l l.m)).2.2 kE
  have h3 := Li.len0 hl kE
  have ho : Li.o l (kk l (Li.o l l.m) + 1) = Li.o l (kk l (Li.o l l.m)) + lenPt (l.f (kk l (Li.o l l.m))) (l.to (kk l (Li.o l l.m))) := rfl
  have hm := o_mono hl (i := kk l (Li.o l l.m) + 1) (l.m - (kk l (Li.o l l.m) + 1)) (by omega)
  rw [show kk l (Li.o l l.m) + 1 + (l.m - (kk l (Li.o l l.m) + 1)) = l.m by omega] at hm
  have hz : ∀ j, kk l (Li.o l l.m) < j → j < l.m → lenPt (l.f j) (l.to j) = 0 := fun j hj1 hj2 => by
    have a1 := o_mono hl (i := kk l (Li.o l l.m) + 1) (j - (kk l (Li.o l l.m) + 1)) (by omega)
    rw [show kk l (Li.o l l.m) + 1 + (j - (kk l (Li.o l l.m) + 1)) = j by omega] at a1
    have a2 := o_mono hl (i := j + 1) (l.m - (j + 1)) (by omega)
    rw [show j + 1 + (l.m - (j + 1)) = l.m by omega] at a2
    have a3 : Li.o l (j + 1) = Li.o l j + lenPt (l.f j) (l.to j) := rfl
    have a4 := Li.len0 hl hj2
    omega
  have ht := to_last hl hz (l.m - 1 - kk l (Li.o l l.m)) (by omega)
  rw [show kk l (Li.o l l.m) + (l.m - 1 - kk l (Li.o l l.m)) = l.m - 1 by omega] at ht
  generalize hK : kk l (Li.o l l.m) = K at *
  have eq : Q l (Li.o l l.m) = l.to K := by
    unfold Q ptAt
    rw [hK]
    show Pt.mk ((l.f K).x + nr (((l.to K).x - (l.f K).x) * (Li.o l l.m - Li.o l K)) (lenPt (l.f K) (l.to K))) ((l.f K).y + nr (((l.to K).y - (l.f K).y) * (Li.o l l.m - Li.o l K)) (lenPt (l.f K) (l.to K))) = _
    rw [show Li.o l l.m - Li.o l K = lenPt (l.f K) (l.to K) by omega, nr_mul _ _ (by omega), nr_mul _ _ (by omega)]
    rw [show (l.f K).x + ((l.to K).x - (l.f K).x) = (l.to K).x by omega, show (l.f K).y + ((l.to K).y - (l.f K).y) = (l.to K).y by omega]
  rw [eq, ← ht]
  have hm0 : 0 < l.m := by omega
  unfold Li.endP
  by_cases hn : l.n ≤ 1
  · have : l.m = 0 := if_pos hn
    omega
  · by_cases hc : l.c = true
    · have em : l.m = l.n := by unfold Li.m; rw [if_neg hn, if_pos hc]
      rw [if_pos hc, em]
      exact if_neg (by omega)
    · have em : l.m = l.n - 1 := by unfold Li.m; rw [if_neg hn, if_neg hc]
      rw [if_neg hc, em]
      have : l.to (l.n - 1 - 1) = l.f (l.n - 1 - 1 + 1) := if_pos (by omega)
      rw [this, show l.n - 1 - 1 + 1 = l.n - 1 by omega]
/-! Which dashes there are. -/
theorem out_list {g : DaG} {c M : Nat} (hc : c ≤ 1) (hon : ∀ i, g.a i < g.b i ↔ c ≤ i ∧ i < c + M) : ∀ i, i ≤ c + M → g.out i = (List.range ((i + 1) / 2 - c)).map fun k => g.T (2 * k + 2 * c)
  | 0, _ => by
    rw [show (0 + 1) / 2 - c = 0 by omega]
    rfl
  | i + 1, hi => by
    have ih := out_list hc hon i (by omega)
    show (if g.on i then g.out i ++ [g.T i] else g.out i) = _
    by_cases h : g.on i
    · have h2 := (hon i).1 h.2
      have h1 := h.1
      rw [if_pos h, ih, show (i + 1 + 1) / 2 - c = (i + 1) / 2 - c + 1 by omega, List.range_succ, List.map_append]
      congr 1
      show [g.T i] = [g.T (2 * ((i + 1) / 2 - c) + 2 * c)]
      rw [show 2 * ((i + 1) / 2 - c) + 2 * c = i by omega]
    · rw [if_neg h, ih]
      have : (i + 1 + 1) / 2 - c = (i + 1) / 2 - c := by
        by_cases h1 : i % 2 = 0
        · have : ¬ (c ≤ i ∧ i < c + M) := fun hx => h ⟨h1, (hon i).2 hx⟩
          omega
        · omega
      rw [this]
theorem out_all {g : DaG} (h : g.ok) {c M : Nat} (hc : c ≤ 1) (hM : 0 < M) (hon : ∀ i, g.a i < g.b i ↔ c ≤ i ∧ i < c + M) : g.out g.N = (List.range ((c + M + 1) / 2 - c)).map fun k => g.T (2 * k + 2 * c) := by
  rw [← out_list hc hon (c + M) (Nat.le_refl _)]
  have h0 : ¬ g.a (c + M) < g.b (c + M) := fun hx => by have := ((hon _).1 hx).2; omega
  have h1 : g.a (c + M - 1) < g.b (c + M - 1) := (hon _).2 ⟨by omega, by omega⟩
  have hu := g.at_up h (c + M - 1)
  rw [show c + M - 1 + 1 = c + M by omega] at hu
  have hu2 := g.at_up h (c + M)
  unfold DaG.a DaG.b at h0 h1
  rw [show c + M - 1 + 1 = c + M by omega] at h1
  have hpos : 0 < g.at (c + M) := by split at h1 <;> split at h1 <;> omega
  have hE : g.E ≤ g.at (c + M) := by split at h0 <;> split at h0 <;> omega
  have hlt : g.at (c + M - 1) < g.E := by split at h1 <;> split at h1 <;> omega
  have hN := g.lt_N h hlt
  exact g.stopN h hE (by omega)
/-- The dashes of both patterns. -/
structure CoG where
  l : Li
  M : Nat
  T : Nat → List Pt
structure CoG.ok (c : CoG) : Prop where
  lk : c.l.ok
  n0 : 0 < c.l.n
  M0 : 0 < c.M
  M1 : c.M ≤ 200000
  len : ∀ k, k < c.M → 2 ≤ (c.T k).length ∧ (c.T k).length ≤ 11
  first : ptI (c.T 0) 0 = c.l.f 0
  next : ∀ k, k + 1 < c.M → ptI (c.T (k + 1)) 0 = ptI (c.T k) ((c.T k).length - 1)
  last : ptI (c.T (c.M - 1)) ((c.T (c.M - 1)).length - 1) = c.l.endP
def CoG.ev (c : CoG) : List (List Pt) := (List.range ((c.M + 1) / 2)).map fun k => c.T (2 * k)
def CoG.od (c : CoG) : List (List Pt) := (List.range (c.M / 2)).map fun k => c.T (2 * k + 1)
theorem co_ok {l : Li} (hl : l.ok) (h0 : 0 < l.n) {n x : Int} (hn : 3 ≤ n ∧ n ≤ 300) {p : Nat → Int} (hp : ∀ i, p i = n) (hx : 0 ≤ x ∧ x ≤ 1000) : DaG.ok ⟨l, 2, p, x⟩ :=
  ⟨⟨hl, by show 1 ≤ 2; omega, by show 2 ≤ 16; omega⟩, fun i _ => by show 2 ≤ p i ∧ p i ≤ 1000; rw [hp]; omega, hx.1, by show x ≤ 1048576; omega⟩
theorem co_turn {l : Li} {n x : Int} {p : Nat → Int} (hp : ∀ i, p i = n) : DaG.turn ⟨l, 2, p, x⟩ = n + n := by
  unfold DaG.turn
  rw [if_neg (show ¬ (2 % 2 = 1) by decide)]
  show (0 + p 0 + p 1 : Int) = _
  rw [hp, hp]; omega
theorem co_at {l : Li} {n x : Int} {p : Nat → Int} (hp : ∀ i, p i = n) (hx : 0 ≤ x ∧ x < n + n) : ∀ i : Nat, DaG.at ⟨l, 2, p, x⟩ i = -x + (i : Int) * n
  | 0 => by
    show -(x % DaG.turn ⟨l, 2, p, x⟩) = _
    rw [co_turn hp, Int.emod_eq_of_lt hx.1 hx.2]
    omega
  | i + 1 => by
    show DaG.at ⟨l, 2, p, x⟩ i + p (i % 2) = _
    rw [co_at hp hx i, hp, Int.natCast_succ, Int.add_mul]
    omega
theorem co_main {l : Li} (hl : l.ok) (h0 : 0 < l.n) {n x : Int} (hn : 3 ≤ n ∧ n ≤ 300) {p : Nat → Int} (hp : ∀ i, p i = n) (hx : 0 ≤ x ∧ x < n) (hE : 0 < Li.o l l.m) :
    ∃ c : CoG, c.ok ∧ c.l = l ∧ DaG.out ⟨l, 2, p, x⟩ (DaG.N ⟨l, 2, p, x⟩) = c.ev ∧ DaG.out ⟨l, 2, p, x + n⟩ (DaG.N ⟨l, 2, p, x + n⟩) = c.od := by
  have kG := co_ok hl h0 hn hp (x := x) (by omega)
  have kH := co_ok hl h0 hn hp (x := x + n) (by omega)
  have aG := co_at (l := l) hp (x := x) (by omega)
  have aH := co_at (l := l) hp (x := x + n) (by omega)
  have hE2 := DaG.E_ok kG
  generalize hGd : DaG.mk l 2 p x = G at kG aG ⊢
  generalize hHd : DaG.mk l 2 p (x + n) = H at kH aH ⊢
  have eG : G.E = Li.o l l.m := by rw [← hGd]; rfl
  have eH : H.E = Li.o l l.m := by rw [← hHd]; rfl
  have hE2 : Li.o l l.m ≤ 12726 := by have := (DaG.E_ok kG).2; rwa [eG] at this
  have aHG : ∀ i : Nat, H.at (i + 1) = G.at i := fun i => by rw [aH, aG, Int.natCast_succ, Int.add_mul]; omega
  have aH0 : H.at 0 = -(x + n) := by rw [aH]; omega
  have gup : ∀ i : Nat, G.at (i + 1) = G.at i + n := fun i => by rw [aG, aG, Int.natCast_succ, Int.add_mul]; omega
  have g0 : G.at 0 = -x := by rw [aG]; omega
  have glo : ∀ i : Nat, -x + i ≤ G.at i := fun i => by
    induction i with
    | zero => rw [g0]; omega
    | succ i ih => rw [gup]; omega
  have gpos : ∀ i : Nat, 0 < G.at (i + 1) := fun i => by
    have e := gup i
    cases i with
    | zero => rw [e, g0]; omega
    | succ i => have := glo (i + 1); have := gup i; have := glo i; rw [e]; omega
  -- how many there are
  have hMs : ∀ i : Nat, (G.at i < G.E ↔ i < ((G.E + x + n - 1) / n).toNat) := fun i => by
    rw [aG]
    have h1 := Int.le_ediv_iff_mul_le (a := (i : Int) + 1) (b := G.E + x + n - 1) (show 0 < n by omega)
    rw [Int.add_mul] at h1
    constructor
    · intro h; have := h1.2 (by omega); omega
    · intro h; have := h1.1 (by omega); omega
  generalize hMd : ((G.E + x + n - 1) / n).toNat = M at hMs
  have hM0 : 0 < M := (hMs 0).1 (by rw [g0, eG]; omega)
  have hM1 : M ≤ 200000 := by
    rcases Nat.lt_or_ge 14000 M with h | h
    · generalize hz : 14000 = z at h
      have := (hMs z).2 h
      have h2 := glo z
      omega
    · omega
  have onG : ∀ i, G.a i < G.b i ↔ 0 ≤ i ∧ i < 0 + M := fun i => by
    have e := gup i
    have e1 := hMs i
    have e2 := gpos i
    unfold DaG.a DaG.b
    constructor
    · intro h
      exact ⟨Nat.zero_le _, by rw [Nat.zero_add]; exact e1.1 (by split at h <;> split at h <;> omega)⟩
    · intro h
      have := e1.2 (by omega)
      split <;> split <;> omega
  have onH : ∀ i, H.a i < H.b i ↔ 1 ≤ i ∧ i < 1 + M := fun i => by
    cases i with
    | zero =>
      unfold DaG.a DaG.b
      have := aHG 0
      rw [g0] at this
      constructor
      · intro h; split at h <;> split at h <;> omega
      · intro h; omega
    | succ i =>
      have h1 := onG i
      have ea : H.a (i + 1) = G.a i := by unfold DaG.a; rw [aHG]
      have eb : H.b (i + 1) = G.b i := by unfold DaG.b; rw [aHG, eG, eH]
      rw [ea, eb, h1]
      omega
  have bd : ∀ k, k < M → 0 ≤ G.a k ∧ G.a k < G.b k ∧ G.b k ≤ Li.o l l.m := fun k hk => by
    refine ⟨(DaG.a_up kG k).2, (onG k).2 ⟨Nat.zero_le _, by omega⟩, ?_⟩
    rw [← eG]
    unfold DaG.b
    split <;> omega
  have eT : ∀ k, G.T k = TT l (G.a k) (G.b k) := fun k => by rw [← hGd]; rfl
  have ends : ∀ k, k < M → 2 ≤ (G.T k).length ∧ ptI (G.T k) 0 = Q l (G.a k) ∧ ptI (G.T k) ((G.T k).length - 1) = Q l (G.b k) := fun k hk => by
    obtain ⟨b1, b2, b3⟩ := bd k hk
    obtain ⟨L2, e⟩ := TT_ends hl b1 b2 b3
    rw [eT, e]
    refine ⟨by simp, rfl, ?_⟩
    unfold ptI
    simp
  refine ⟨⟨l, M, G.T⟩, ⟨hl, h0, hM0, hM1, fun k hk => ⟨(ends k hk).1, ?_⟩, ?_, fun k hk => ?_, ?_⟩, rfl, ?_, ?_⟩
  · have h1 := T_len G k
    have h2 := Li.m_le G.l
    have h3 := hl.1
    rw [show G.l = l by rw [← hGd]] at h1 h2
    show (G.T k).length ≤ 11
    omega
  · rw [(ends 0 hM0).2.1]
    have : G.a 0 = 0 := by unfold DaG.a; rw [g0]; split <;> omega
    rw [this]
    exact Q_0 hl hE
  · have hk : k + 1 < M := hk
    show ptI (G.T (k + 1)) 0 = ptI (G.T k) ((G.T k).length - 1)
    rw [(ends (k + 1) hk).2.1, (ends k (by omega)).2.2]
    have h1 := (hMs (k + 1)).2 hk
    have h2 := gpos k
    have e1 : G.a (k + 1) = G.at (k + 1) := if_neg (by omega)
    have e2 : G.b k = G.at (k + 1) := if_neg (by omega)
    rw [e1, e2]
  · show ptI (G.T (M - 1)) ((G.T (M - 1)).length - 1) = l.endP
    rw [(ends (M - 1) (by omega)).2.2]
    have h1 : ¬ G.at M < G.E := fun h => by have := (hMs M).1 h; omega
    have e2 : G.b (M - 1) = G.E := by
      unfold DaG.b
      rw [show M - 1 + 1 = M by omega]
      split <;> omega
    rw [e2, eG]
    exact Q_E hl hE
  · rw [out_all kG (c := 0) (by decide) hM0 onG, show (0 + M + 1) / 2 - 0 = (M + 1) / 2 by omega]
    rfl
  · rw [out_all kH (c := 1) (Nat.le_refl 1) hM0 onH, show (1 + M + 1) / 2 - 1 = M / 2 by omega]
    refine List.map_congr_left fun k _ => ?_
    show H.T (2 * k + 2 * 1) = G.T (2 * k + 1)
    rw [eT, show H.T (2 * k + 2 * 1) = TT l (H.a (2 * k + 1 + 1)) (H.b (2 * k + 1 + 1)) by rw [← hHd]; rfl]
    have ea : H.a (2 * k + 1 + 1) = G.a (2 * k + 1) := by unfold DaG.a; rw [aHG]
    have eb : H.b (2 * k + 1 + 1) = G.b (2 * k + 1) := by unfold DaG.b; rw [aHG, eG, eH]
    rw [ea, eb]
theorem co_zero {g : DaG} (h : g.E ≤ 0) : ∀ i, g.out i = []
  | 0 => rfl
  | i + 1 => by
    show (if g.on i then _ else g.out i) = []
    rw [if_neg, co_zero h i]
    rintro ⟨_, hc⟩
    unfold DaG.a DaG.b at hc
    split at hc <;> split at hc <;> omega
end Go.Proofs.Ytbmgclpgompjmaa.Dcl
