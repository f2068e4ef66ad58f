/- The functions of package num that compute: what each returns, for every input in range. -/
import Derived.Test.YthappngbapbkfaaDoorRows
import Derived.Test.YthappngbapbkfaaDoorBase
import Derived.Deep.QuietTactic
import Derived.BigQuiet
import Derived.WalkKit
import Derived.WalkSpells
import Derived.WalkLawsBesides
import Derived.Handy
import Derived.Lib.Hide
namespace Go.Proofs.YthappngbapbkfaaDoor.Num
open Go.RowKit

/-! Plain facts on quotients. -/
theorem tmod_neg_of (a b : Int) (hb : 1 ≤ b) (h : a.tmod b < 0) : a.tdiv b - 1 = a / b ∧ a < 0 := by
  have h1 := Int.mul_tdiv_add_tmod a b
  have h2 := Int.lt_tmod_of_pos a (b := b) (by omega)
  have ha : a < 0 := by
    refine Int.not_le.1 fun hn => ?_
    have := Int.tmod_nonneg b hn
    omega
  refine ⟨?_, ha⟩
  refine ((Int.ediv_emod_unique (by omega) (r := a.tmod b + b) (q := a.tdiv b - 1) (a := a) (b := b)).2 ⟨?_, by omega, by omega⟩).1.symm
  rw [Int.mul_sub]; omega
theorem tmod_nonneg_of (a b : Int) (hb : 1 ≤ b) (h : 0 ≤ a.tmod b) : a.tdiv b = a / b := by
  have h1 := Int.mul_tdiv_add_tmod a b
  have h2 := Int.tmod_lt_of_pos a (b := b) (by omega)
  exact ((Int.ediv_emod_unique (by omega) (r := a.tmod b) (q := a.tdiv b) (a := a) (b := b)).2 ⟨by omega, by omega, by omega⟩).1.symm
theorem tdiv_bounds (a b : Int) (hb : 1 ≤ b) : (0 ≤ a → 0 ≤ a.tdiv b ∧ a.tdiv b ≤ a) ∧ (a ≤ 0 → a ≤ a.tdiv b ∧ a.tdiv b ≤ 0) := by
  refine ⟨fun h => ?_, fun h => ?_⟩
  · rw [Int.tdiv_eq_ediv_of_nonneg h]
    exact ⟨Int.ediv_nonneg h (by omega), Int.ediv_le_self _ h⟩
  · have e : a.tdiv b = -((-a).tdiv b) := by rw [Int.neg_tdiv]; omega
    rw [e, Int.tdiv_eq_ediv_of_nonneg (by omega)]
    have h1 := Int.ediv_nonneg (a := -a) (b := b) (by omega) (by omega)
    have h2 := Int.ediv_le_self b (a := -a) (by omega)
    omega

/-- The cells from p on hold these numbers. -/
def IntsAt (w : World) (p : Addr) (k : IntKind) (zs : List Int) : Prop :=
  p.spot = none ∧ ∀ i : Nat, i < zs.length → w.cell? ⟨p.block, p.off + i, none⟩ = some (.int k (zs.getD i 0))

def inNum (x : Int) : Bool := decide (-1099511627776 ≤ x) && decide (x ≤ 1099511627776)
def fitsB (zs : List Int) : Bool := zs.all inNum

theorem ints2 (w : World) (a b : Int) (T : TypeId) : IntsAt (w.alloc (.cells #[.int .i64 a, .int .i64 b] T)) ⟨w.heap.size, 0, none⟩ .i64 [a, b] := by
  refine ⟨rfl, fun i hi => ?_⟩
  match i, hi with
  | 0, _ => simp [go_sem]
  | 1, _ => simp [go_sem]
theorem ints3 (w : World) (a b c : Int) (T : TypeId) : IntsAt (w.alloc (.cells #[.int .i64 a, .int .i64 b, .int .i64 c] T)) ⟨w.heap.size, 0, none⟩ .i64 [a, b, c] := by
  refine ⟨rfl, fun i hi => ?_⟩
  match i, hi with
  | 0, _ => simp [go_sem]
  | 1, _ => simp [go_sem]
  | 2, _ => simp [go_sem]
theorem fits2 {a b : Int} (h1 : -1099511627776 ≤ a) (h2 : a ≤ 1099511627776) (h3 : -1099511627776 ≤ b) (h4 : b ≤ 1099511627776) : fitsB [a, b] = true := by
  simp [fitsB, inNum]; omega
theorem fits3 {a b c : Int} (h1 : -1099511627776 ≤ a) (h2 : a ≤ 1099511627776) (h3 : -1099511627776 ≤ b) (h4 : b ≤ 1099511627776) (h5 : -1099511627776 ≤ c) (h6 : c ≤ 1099511627776) : fitsB [a, b, c] = true := by
  simp [fitsB, inNum]; omega

/-- The nearest whole number to a / b, half up. -/
def nr (a b : Int) : Int := if b - (a - a / b * b) ≤ a - a / b * b then a / b + 1 else a / b
theorem quo_spec (a b : Int) (hb : 1 ≤ b) : a / b * b ≤ a ∧ a < a / b * b + b := by
  have q1 : a / b * b ≤ a := by have := Int.ediv_mul_le a (b := b) (by omega); omega
  have q2 : a < a / b * b + b := by have := Int.lt_ediv_add_one_mul_self a (b := b) (by omega); rw [Int.add_mul] at this; omega
  exact ⟨q1, q2⟩
theorem nr_spec (a b : Int) (hb : 1 ≤ b) : 2 * (nr a b * b) ≤ 2 * a + b ∧ 2 * a + b < 2 * (nr a b * b) + 2 * b := by
  have := quo_spec a b hb
  unfold nr
  split
  · rw [Int.add_mul]; omega
  · omega
theorem quo_bounds (a b : Int) (hb : 1 ≤ b) : (0 ≤ a → 0 ≤ a / b ∧ a / b ≤ a) ∧ (a < 0 → a ≤ a / b ∧ a / b < 0) := by
  refine ⟨fun h => ⟨Int.ediv_nonneg h (by omega), Int.ediv_le_self _ h⟩, fun h => ⟨?_, Int.ediv_neg_of_neg_of_pos h (by omega)⟩⟩
  have := quo_spec a b hb
  have hn := Int.ediv_neg_of_neg_of_pos h (b := b) (by omega)
  refine Int.not_lt.1 fun hc => ?_
  have h5 : (a / b + 1) * b ≤ (a / b + 1) * 1 := Int.mul_le_mul_of_nonpos_left (by omega) hb
  have h6 : (a / b + 1) * b = a / b * b + b := by rw [Int.add_mul, Int.one_mul]
  omega
theorem nr_of_ge {a b : Int} (h : b - (a - a / b * b) ≤ a - a / b * b) : a / b + 1 = nr a b := by unfold nr; rw [if_pos h]
theorem nr_of_lt {a b : Int} (h : ¬ b - (a - a / b * b) ≤ a - a / b * b) : a / b = nr a b := by unfold nr; rw [if_neg h]

/-- num.Mul255. -/
def mul255 (a b : Int) : Int := nr (a * b) 255
def mix255 (a b t : Int) : Int := nr ((255 - t) * a + t * b) 255
theorem pbound {a b m n : Int} (h1 : 0 ≤ a) (h2 : a ≤ m) (h3 : 0 ≤ b) (h4 : b ≤ n) : 0 ≤ a * b ∧ a * b ≤ m * n :=
  ⟨Int.mul_nonneg h1 h3, Int.mul_le_mul h2 h4 h3 (by omega)⟩
theorem nr255_range {p : Int} (h0 : 0 ≤ p) (h1 : p ≤ 65025) : 0 ≤ nr p 255 ∧ nr p 255 ≤ 255 := by
  have := nr_spec p 255 (by omega); omega
theorem mul255_range {a b : Int} (h1 : 0 ≤ a) (h2 : a ≤ 255) (h3 : 0 ≤ b) (h4 : b ≤ 255) : 0 ≤ mul255 a b ∧ mul255 a b ≤ 255 := by
  obtain ⟨p1, p2⟩ := pbound h1 h2 h3 h4
  exact nr255_range p1 p2
theorem mix255_sum {a b t : Int} (h1 : 0 ≤ a) (h2 : a ≤ 255) (h3 : 0 ≤ b) (h4 : b ≤ 255) (h5 : 0 ≤ t) (h6 : t ≤ 255) : 0 ≤ (255 - t) * a ∧ 0 ≤ t * b ∧ (255 - t) * a + t * b ≤ 65025 := by
  have p1 := Int.mul_nonneg (a := 255 - t) (b := a) (by omega) h1
  have p2 := Int.mul_nonneg h5 h3
  have p3 : (255 - t) * a ≤ (255 - t) * 255 := Int.mul_le_mul_of_nonneg_left h2 (by omega)
  have p4 : t * b ≤ t * 255 := Int.mul_le_mul_of_nonneg_left h4 (by omega)
  omega
theorem mix255_range {a b t : Int} (h1 : 0 ≤ a) (h2 : a ≤ 255) (h3 : 0 ≤ b) (h4 : b ≤ 255) (h5 : 0 ≤ t) (h6 : t ≤ 255) : 0 ≤ mix255 a b t ∧ mix255 a b t ≤ 255 := by
  have := mix255_sum h1 h2 h3 h4 h5 h6
  exact nr255_range (by omega) (by omega)
/-- printworkskeep1.cut: x brought into the range from low to high. -/
def cutI (x low high : Int) : Int := low + x % (high - low + 1)
theorem cutI_range (x low high : Int) (h : low ≤ high) : low ≤ cutI x low high ∧ cutI x low high ≤ high := by
  unfold cutI
  have h1 := Int.emod_nonneg x (b := high - low + 1) (by omega)
  have h2 := Int.emod_lt_of_pos x (b := high - low + 1) (by omega)
  omega
theorem cut_plain (x n : Int) (hn : 1 ≤ n) : x.tmod n % n = x % n ∧ -n < x.tmod n ∧ x.tmod n < n := by
  have h1 := Int.lt_tmod_of_pos x (b := n) (by omega)
  have h2 := Int.tmod_lt_of_pos x (b := n) (by omega)
  refine ⟨?_, h1, h2⟩
  have h3 := Int.mul_tdiv_add_tmod x n
  rw [← Int.mul_add_emod_self_left n (x.tdiv n) (x.tmod n), h3]
theorem size_le {a : Int} (h1 : -1099511627776 ≤ a) (h2 : a ≤ 1099511627776) : (a.natAbs : Int) ≤ 1099511627776 := by omega
end Go.Proofs.YthappngbapbkfaaDoor.Num
