/- Package dash: sides, point, by the evaluation. -/
import Derived.Test.YtfjbjbmbdadmhaaNum
import Derived.Test.YtfjbjbmbdadmhaaShelf
import Derived.Lib.ItoaNum
import Derived.Test.YtfjbjbmbdadmhaaCon
set_option linter.unusedSimpArgs false
set_option linter.unusedVariables false
namespace Go.Proofs.Ytfjbjbmbdadmhaa.Num
open Go.RowKit
/-- The greatest whole number whose square is not greater. -/
def isq : Nat → Nat
  | 0 => 0
  | n + 1 => if (isq n + 1) * (isq n + 1) ≤ n + 1 then isq n + 1 else isq n
theorem sq_mono {a b : Nat} (h : a ≤ b) : a * a ≤ b * b := Nat.mul_le_mul h h
theorem sq_succ (a : Nat) : (a + 1) * (a + 1) = a * a + 2 * a + 1 := by rw [Nat.add_mul, Nat.mul_add]; omega
theorem isq_spec : ∀ n, isq n * isq n ≤ n ∧ n < (isq n + 1) * (isq n + 1)
  | 0 => by decide
  | n + 1 => by
    have ih := isq_spec n
    unfold isq
    have e1 := sq_succ (isq n)
    have e2 := sq_succ (isq n + 1)
    split <;> omega
theorem isq_unique {n r : Nat} (h1 : r * r ≤ n) (h2 : n < (r + 1) * (r + 1)) : isq n = r := by
  have hs := isq_spec n
  rcases Nat.lt_trichotomy (isq n) r with h | h | h
  · have := sq_mono (show isq n + 1 ≤ r by omega); omega
  · exact h
  · have := sq_mono (show r + 1 ≤ isq n by omega); omega
/-- A step of Newton's method from above stays above the root. -/
theorem newton {n x : Nat} (hx : 1 ≤ x) : n < ((x + n / x) / 2 + 1) * ((x + n / x) / 2 + 1) := by
  have h1 : n < (n / x + 1) * x := by
    have := Nat.lt_mul_div_succ n (show 0 < x by omega)
    rw [Nat.mul_comm] at this; exact this
  generalize n / x = q at *
  have h2 : x + q + 1 ≤ 2 * ((x + q) / 2 + 1) := by omega
  generalize (x + q) / 2 + 1 = y at *
  have h3 : 4 * ((q + 1) * x) ≤ (x + q + 1) * (x + q + 1) := by
    rcases Nat.le_total x (q + 1) with h | h
    · obtain ⟨d, hd⟩ := Nat.exists_eq_add_of_le h
      rw [hd, show x + q + 1 = 2 * x + d by omega]; grind
    · obtain ⟨d, hd⟩ := Nat.exists_eq_add_of_le h
      rw [show x + q + 1 = 2 * (q + 1) + d by omega, hd]; grind
  have h4 := sq_mono h2
  have h5 : 2 * y * (2 * y) = 4 * (y * y) := by grind
  omega
theorem newton_end {n x : Nat} (hx : 1 ≤ x) (h : n < (x + 1) * (x + 1)) (hy : x ≤ (x + n / x) / 2) : isq n = x := by
  refine isq_unique ?_ h
  have h1 : x ≤ n / x := by omega
  have h2 := Nat.div_mul_le_self n x
  have h3 : x * x ≤ n / x * x := Nat.mul_le_mul_right x h1
  omega
theorem start (n L : Nat) (h : n < 2 ^ L) : n < (2 ^ ((L + 1) / 2) + 1) * (2 ^ ((L + 1) / 2) + 1) := by
  have h1 : 2 ^ L ≤ 2 ^ ((L + 1) / 2) * 2 ^ ((L + 1) / 2) := by
    rw [← Nat.pow_add]; exact Nat.pow_le_pow_right (by omega) (by omega)
  have h2 := sq_succ (2 ^ ((L + 1) / 2))
  omega
theorem isq_small {n : Nat} (h : n < 2) : isq n = n := by
  match n, h with
  | 0, _ => rfl
  | 1, _ => rfl

/-- num.Sqrt. -/
theorem sqrt (n : Nat) (w : World) (h : (n : Int) ≤ 4611686018427387904) :
    Calls Try.prog 81 #[.int .i64 n] w fun e w' => e = .returned (.int .i64 (isq n)) ∧ w = w' := by
  by_cases h2 : (n : Int) < 2
  · have H : Hid ((n : Int) = (isq n : Nat)) := by show _ = _; rw [isq_small (by omega)]
    go_enter Try.func81, Try.ntmps81
    go_wp2
    go_ret
    exact ⟨ret_int H.out, rfl⟩
  · have hb := Go.Lib.bitLenAux_bounds 64 n (by omega) (by omega)
    have hL : Lib.bitLen n ≤ 63 := Lib.bitLen_le n 63 (by omega) (by omega)
    obtain ⟨L, hLe⟩ : ∃ L, L = Lib.bitLen n := ⟨_, rfl⟩
    have hb3 : n < 2 ^ L := by rw [hLe]; exact hb.2.2
    have hL1 : 1 ≤ L := by rw [hLe]; exact hb.1
    rw [← hLe] at hL
    have hs := start n L hb3
    have hp1 : 1 ≤ 2 ^ ((L + 1) / 2) := Nat.one_le_two_pow
    have hp2 : 2 ^ ((L + 1) / 2) ≤ 2 ^ 32 := Nat.pow_le_pow_right (by omega) (by omega)
    have HS := Lib.hid hs
    have HL := Lib.hid hLe
    clear hs hLe hb hb3
    go_enter Try.func81, Try.ntmps81
    go_wp2_with fail
    refine (Try.bits_Len n _ (by omega) (by omega)).mono ?_
    rintro e w' ⟨rfl, rfl⟩
    rw [Int.toNat_natCast, ← HL.out]
    go_wp2_with fail
    obtain ⟨x0, hx0⟩ : ∃ x : Nat, x = 2 ^ ((L + 1) / 2) := ⟨_, rfl⟩
    have HS2 : Hid (n < (x0 + 1) * (x0 + 1)) := by rw [hx0]; exact HS.out
    rw [← hx0] at hp1 hp2
    have e : wrap64 ((2 : Int) ^ ((L + 1) / 2)) = (x0 : Int) := by
      have e2 : (2 : Int) ^ ((L + 1) / 2) = (x0 : Int) := by rw [hx0]; norm_cast
      rw [e2]; exact IntWalk.wrap64_in _ (by omega)
    rw [e]
    clear e hx0 HS HL
    go_loop [3, 4] (fun x y => ∃ k : Nat, x = .int .i64 k ∧ 1 ≤ k ∧ k ≤ 4294967296 ∧ Hid (n < (k + 1) * (k + 1))) (fun x _ => (intOf x).toNat)
    case atStart => exact ⟨x0, rfl, hp1, by omega, HS2⟩
    case round =>
      obtain ⟨k, rfl, h3, h4, HK⟩ := hrel
      have hq : ((n / k : Nat) : Int) = (n : Int) / (k : Int) := by norm_cast
      have hq1 : n / k ≤ n := Nat.div_le_self n k
      have HN : Hid (n < ((k + n / k) / 2 + 1) * ((k + n / k) / 2 + 1)) := newton h3
      have HE : k ≤ (k + n / k) / 2 → Hid ((k : Int) = (isq n : Nat)) := fun hh => by show _ = _; rw [newton_end h3 HK.out hh]
      have hq2 : 2 ≤ k + n / k := by
        by_cases e1 : k = 1
        · rw [e1, Nat.div_one]; omega
        · exact Nat.le_trans (show 2 ≤ k by omega) (Nat.le_add_right k _)
      generalize n / k = q at *
      by_cases hge : k ≤ (k + q) / 2
      · have HE2 := HE hge
        clear HE HN
        go_wp2
        go_ret
        exact ⟨ret_int HE2.out, rfl⟩
      · clear HE
        go_wp2
        go_round
        case rel => exact ⟨(k + q) / 2, by go_num, by omega, by omega, HN⟩
        case measure => simp [intOf]; omega

end Go.Proofs.Ytfjbjbmbdadmhaa.Num
set_option linter.unusedSimpArgs false
set_option linter.unusedVariables false
namespace Go.Proofs.Ytfjbjbmbdadmhaa.Dsh
open Go.RowKit Sx Num Aff Con
set_option maxRecDepth 100000
def spSqrt : FSpec := mkSpec 81 (γ := Int) (fun | [.int _ x] => some x | _ => none) (fun x => [.int .i64 x]) (fun x => 0 ≤ x ∧ x ≤ 4611686018427387904) (fun x => .int .i64 (isq x.toNat))
theorem ok_sqrt : SpecOK Try.prog spSqrt := by
  refine specOK_of (fun _ _ => by kernel_rfl) ?_
  rintro x ⟨x0, x1⟩ vals w X hsz hr hX
  have r0 := hr 0 (by simp)
  simp only [List.getD_cons_zero] at r0
  generalize e0 : vals.getD 0 undef = v0 at r0
  cases r0
  obtain ⟨n, rfl⟩ := Int.eq_ofNat_of_zero_le x0
  have hvals : vals = #[.int .i64 n] := by
    obtain ⟨l⟩ := vals
    match l, hsz with
    | [x], _ => simp at e0; rw [e0]
  rw [hvals]
  refine (sqrt n w x1).mono ?_
  rintro e w' ⟨rfl, rfl⟩
  exact ⟨_, rfl, .int, Below.refl _ _⟩
def lenPt (p q : Pt) : Int := isq ((q.x - p.x) * (q.x - p.x) + (q.y - p.y) * (q.y - p.y)).toNat
def small (M : Int) (p : Pt) : Prop := (-M ≤ p.x ∧ p.x ≤ M) ∧ -M ≤ p.y ∧ p.y ≤ M
theorem sq_in {a M : Int} (h : -M ≤ a ∧ a ≤ M) : 0 ≤ a * a ∧ a * a ≤ M * M := by
  have e := Int.natAbs_mul_self (a := a)
  have h2 := (mul_in h h).2
  exact ⟨by rw [← e]; exact Int.natCast_nonneg _, h2⟩
theorem isq_le (n : Nat) : isq n ≤ n := by
  have h := (isq_spec n).1
  rcases Nat.eq_zero_or_pos (isq n) with h0 | h0
  · omega
  · exact Nat.le_trans (Nat.le_mul_of_pos_right _ h0) h
theorem nr_in {x b M : Int} (h : -M ≤ x ∧ x ≤ M) (hb : 1 ≤ b) : -M - 1 ≤ nr x b ∧ nr x b ≤ M + 1 := by
  have s := nr_spec x b hb
  have hM : 0 ≤ M := by omega
  have hMb : M * 1 ≤ M * b := Int.mul_le_mul_of_nonneg_left hb hM
  constructor
  · rcases Int.lt_or_le (nr x b) (-M - 1) with hc | hc
    · have := Int.mul_le_mul_of_nonneg_right (show nr x b ≤ -M - 2 by omega) (show (0 : Int) ≤ b by omega)
      have e : (-M - 2) * b = -(M * b) - 2 * b := by rw [Int.sub_mul, Int.neg_mul]
      omega
    · exact hc
  · rcases Int.lt_or_le (M + 1) (nr x b) with hc | hc
    · have := Int.mul_le_mul_of_nonneg_right (show M + 2 ≤ nr x b by omega) (show (0 : Int) ≤ b by omega)
      have e : (M + 2) * b = M * b + 2 * b := by rw [Int.add_mul]
      omega
    · exact hc
/-! sides. -/
structure Li where
  n : Nat
  f : Nat → Pt
  c : Bool
def liL (l : Li) : List SV := [.sl l.n 2 (fun i => lst (ptL (l.f i))), .bool l.c]
def liS (l : Li) : SV := .agg 2 (lst (liL l))
def pxD : SV → Nat → Pt
  | .sl _ _ f => fun i => ptD (f i)
  | _ => fun _ => ⟨0, 0⟩
def liD (g : Nat → SV) : Li := ⟨slLen (g 0), pxD (g 0), boolOf (g 1)⟩
/-- The end of side i. -/
def Li.to (l : Li) (i : Nat) : Pt := if i + 1 < l.n then l.f (i + 1) else l.f 0
def Li.m (l : Li) : Nat := if l.n ≤ 1 then 0 else if l.c then l.n else l.n - 1
def Li.o (l : Li) : Nat → Int
  | 0 => 0
  | i + 1 => Li.o l i + lenPt (l.f i) (l.to i)
def Li.ok (l : Li) : Prop := l.n ≤ 9 ∧ ∀ i, i < l.n → small 500 (l.f i)
end Go.Proofs.Ytfjbjbmbdadmhaa.Dsh
