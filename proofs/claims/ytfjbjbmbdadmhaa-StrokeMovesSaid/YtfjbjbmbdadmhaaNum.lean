/- The functions of package num that compute: what each returns, for every input in range. -/
import Derived.Test.YtfjbjbmbdadmhaaRows
import Derived.Test.YtfjbjbmbdadmhaaBase
import Derived.Deep.QuietTactic
import Derived.BigQuiet
import Derived.WalkKit
import Derived.WalkSpells
import Derived.WalkLawsBesides
import Derived.Handy
import Derived.Lib.Hide
namespace Go.Proofs.Ytfjbjbmbdadmhaa.Num
open Go.RowKit

/-! Plain facts on quotients. -/
theorem tmod_neg_of (a b : Int) (hb : 1 ≤ b) (h : a.tmod b < 0) : a.tdiv b - 1 = a / b ∧ a < 0 := by
  have h1 := Int.mul_tdiv_add_tmod a b
  have h2 := Int.lt_tmod_of_pos a (b := b) (by omega)
  have ha : a < 0 := by
    refine Int.not_le.1 fun hn => ?_
    have := Int.tmod_nonneg b hn
    omega
  refine ⟨?_, ha⟩
  refine ((Int.ediv_emod_unique (by omega) (r := a.tmod b + b) (q := a.tdiv b - 1) (a := a) (b := b)).2 ⟨?_, by omega, by omega⟩).1.symm
  rw [Int.mul_sub]; omega
theorem tmod_nonneg_of (a b : Int) (hb : 1 ≤ b) (h : 0 ≤ a.tmod b) : a.tdiv b = a / b := by
  have h1 := Int.mul_tdiv_add_tmod a b
  have h2 := Int.tmod_lt_of_pos a (b := b) (by omega)
  exact ((Int.ediv_emod_unique (by omega) (r := a.tmod b) (q := a.tdiv b) (a := a) (b := b)).2 ⟨by omega, by omega, by omega⟩).1.symm
theorem tdiv_bounds (a b : Int) (hb : 1 ≤ b) : (0 ≤ a → 0 ≤ a.tdiv b ∧ a.tdiv b ≤ a) ∧ (a ≤ 0 → a ≤ a.tdiv b ∧ a.tdiv b ≤ 0) := by
  refine ⟨fun h => ?_, fun h => ?_⟩
  · rw [Int.tdiv_eq_ediv_of_nonneg h]
    exact ⟨Int.ediv_nonneg h (by omega), Int.ediv_le_self _ h⟩
  · have e : a.tdiv b = -((-a).tdiv b) := by rw [Int.neg_tdiv]; omega
    rw [e, Int.tdiv_eq_ediv_of_nonneg (by omega)]
    have h1 := Int.ediv_nonneg (a := -a) (b := b) (by omega) (by omega)
    have h2 := Int.ediv_le_self b (a := -a) (by omega)
    omega

/-- num.Quo: the floor. -/
theorem quo (a b : Int) (w : World) (ha : -9223372036854775808 ≤ a) (ha' : a ≤ 9223372036854775807) (hb : 1 ≤ b) (hb' : b ≤ 9223372036854775807) :
    Calls Try.prog 108 #[.int .i64 a, .int .i64 b] w fun e w' => e = .returned (.int .i64 (a / b)) ∧ w = w' := by
  have tb := tdiv_bounds a b hb
  have hw : IntKind.i64.wrap (a.tdiv b) = a.tdiv b := IntWalk.i64_quo' a b ⟨ha, ha', hb⟩
  by_cases h : a.tmod b < 0
  · obtain ⟨e1, e2⟩ := tmod_neg_of a b hb h
    have H := Lib.hid e1; clear e1
    have tb2 := tb.2 (by omega)
    clear tb
    by_cases hx : a.tdiv b = -9223372036854775808
    · exfalso
      have := Int.mul_tdiv_add_tmod a b
      rw [hx] at this
      have : b * 9223372036854775808 ≥ 1 * 9223372036854775808 := Int.mul_le_mul_of_nonneg_right hb (by omega)
      omega
    · have hx' : -9223372036854775807 ≤ a.tdiv b := by omega
      clear hx
      go_enter Try.func108, Try.ntmps108
      go_wp2
      go_ret
      exact ⟨ret_int H.out, rfl⟩
  · have e1 := tmod_nonneg_of a b hb (by omega)
    have H := Lib.hid e1; clear e1 tb
    go_enter Try.func108, Try.ntmps108
    go_wp2
    go_ret
    exact ⟨ret_int H.out, rfl⟩

/-- The nearest whole number to a / b, half up. -/
def nr (a b : Int) : Int := if b - (a - a / b * b) ≤ a - a / b * b then a / b + 1 else a / b
theorem quo_spec (a b : Int) (hb : 1 ≤ b) : a / b * b ≤ a ∧ a < a / b * b + b := by
  have q1 : a / b * b ≤ a := by have := Int.ediv_mul_le a (b := b) (by omega); omega
  have q2 : a < a / b * b + b := by have := Int.lt_ediv_add_one_mul_self a (b := b) (by omega); rw [Int.add_mul] at this; omega
  exact ⟨q1, q2⟩
theorem nr_spec (a b : Int) (hb : 1 ≤ b) : 2 * (nr a b * b) ≤ 2 * a + b ∧ 2 * a + b < 2 * (nr a b * b) + 2 * b := by
  have := quo_spec a b hb
  unfold nr
  split
  · rw [Int.add_mul]; omega
  · omega
theorem quo_bounds (a b : Int) (hb : 1 ≤ b) : (0 ≤ a → 0 ≤ a / b ∧ a / b ≤ a) ∧ (a < 0 → a ≤ a / b ∧ a / b < 0) := by
  refine ⟨fun h => ⟨Int.ediv_nonneg h (by omega), Int.ediv_le_self _ h⟩, fun h => ⟨?_, Int.ediv_neg_of_neg_of_pos h (by omega)⟩⟩
  have := quo_spec a b hb
  have hn := Int.ediv_neg_of_neg_of_pos h (b := b) (by omega)
  refine Int.not_lt.1 fun hc => ?_
  have h5 : (a / b + 1) * b ≤ (a / b + 1) * 1 := Int.mul_le_mul_of_nonpos_left (by omega) hb
  have h6 : (a / b + 1) * b = a / b * b + b := by rw [Int.add_mul, Int.one_mul]
  omega
theorem nr_of_ge {a b : Int} (h : b - (a - a / b * b) ≤ a - a / b * b) : a / b + 1 = nr a b := by unfold nr; rw [if_pos h]
theorem nr_of_lt {a b : Int} (h : ¬ b - (a - a / b * b) ≤ a - a / b * b) : a / b = nr a b := by unfold nr; rw [if_neg h]

/-- num.Near: the nearest quotient. -/
theorem near (a b : Int) (w : World) (ha : -4611686018427387904 ≤ a) (ha' : a ≤ 4611686018427387904) (hb : 1 ≤ b) (hb' : b ≤ 4611686018427387904) :
    Calls Try.prog 85 #[.int .i64 a, .int .i64 b] w fun e w' => e = .returned (.int .i64 (nr a b)) ∧ w = w' := by
  obtain ⟨q1, q2⟩ := quo_spec a b hb
  have q3 := quo_bounds a b hb
  have q4 : -4611686018427387904 ≤ a / b ∧ a / b ≤ 4611686018427387904 := by omega
  obtain ⟨q4, q5⟩ := q4
  clear q3
  by_cases h : b - (a - a / b * b) ≤ a - a / b * b
  · have H := Lib.hid (nr_of_ge h)
    go_enter Try.func85, Try.ntmps85
    go_wp2_with fail
    refine (quo a b _ (by omega) (by omega) hb (by omega)).mono ?_
    rintro e w' ⟨rfl, rfl⟩
    go_wp2
    go_ret
    exact ⟨ret_int H.out, rfl⟩
  · have H := Lib.hid (nr_of_lt h)
    go_enter Try.func85, Try.ntmps85
    go_wp2_with fail
    refine (quo a b _ (by omega) (by omega) hb (by omega)).mono ?_
    rintro e w' ⟨rfl, rfl⟩
    go_wp2
    go_ret
    exact ⟨ret_int H.out, rfl⟩

/-- printworkskeep1.cut: x brought into the range from low to high. -/
def cutI (x low high : Int) : Int := low + x % (high - low + 1)
theorem cutI_range (x low high : Int) (h : low ≤ high) : low ≤ cutI x low high ∧ cutI x low high ≤ high := by
  unfold cutI
  have h1 := Int.emod_nonneg x (b := high - low + 1) (by omega)
  have h2 := Int.emod_lt_of_pos x (b := high - low + 1) (by omega)
  omega
theorem cut_plain (x n : Int) (hn : 1 ≤ n) : x.tmod n % n = x % n ∧ -n < x.tmod n ∧ x.tmod n < n := by
  have h1 := Int.lt_tmod_of_pos x (b := n) (by omega)
  have h2 := Int.tmod_lt_of_pos x (b := n) (by omega)
  refine ⟨?_, h1, h2⟩
  have h3 := Int.mul_tdiv_add_tmod x n
  rw [← Int.mul_add_emod_self_left n (x.tdiv n) (x.tmod n), h3]
theorem cut (x low high : Int) (w : World) (_ : -9223372036854775808 ≤ x) (_ : x ≤ 9223372036854775807) (h1 : -2305843009213693952 ≤ low) (h2 : low ≤ high) (h3 : high ≤ 4611686018427387903) (h4 : high - low ≤ 4611686018427387903) :
    Calls Try.prog 24 #[.int .i64 x, .int .i64 low, .int .i64 high] w fun e w' => e = .returned (.int .i64 (cutI x low high)) ∧ w = w' := by
  obtain ⟨e1, e2, e3⟩ := cut_plain x (high - low + 1) (by omega)
  have h5 := Int.emod_nonneg (x.tmod (high - low + 1)) (b := high - low + 1) (by omega)
  have h6 := Int.emod_lt_of_pos (x.tmod (high - low + 1)) (b := high - low + 1) (by omega)
  have H : Hid (low + x.tmod (high - low + 1) % (high - low + 1) = cutI x low high) := by unfold cutI; rw [e1]; rfl
  clear e1
  go_enter Try.func24, Try.ntmps24
  go_wp2
  go_ret
  exact ⟨ret_int H.out, rfl⟩

end Go.Proofs.Ytfjbjbmbdadmhaa.Num
