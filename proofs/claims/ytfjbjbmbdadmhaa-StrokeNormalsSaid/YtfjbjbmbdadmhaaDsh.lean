/- Package dash: sides, point, by the evaluation. -/
import Derived.Test.YtfjbjbmbdadmhaaCon
import Derived.Test.YtfjbjbmbdadmhaaSqrt
set_option linter.unusedSimpArgs false
set_option linter.unusedVariables false
namespace Go.Proofs.Ytfjbjbmbdadmhaa.Dsh
open Go.RowKit Sx Num Aff Con
set_option maxRecDepth 100000
def spSqrt : FSpec := mkSpec 81 (γ := Int) (fun | [.int _ x] => some x | _ => none) (fun x => [.int .i64 x]) (fun x => 0 ≤ x ∧ x ≤ 4611686018427387904) (fun x => .int .i64 (isq x.toNat))
theorem ok_sqrt : SpecOK Try.prog spSqrt := by
  refine specOK_of (fun _ _ => by kernel_rfl) ?_
  rintro x ⟨x0, x1⟩ vals w X hsz hr hX
  have r0 := hr 0 (by simp)
  simp only [List.getD_cons_zero] at r0
  generalize e0 : vals.getD 0 undef = v0 at r0
  cases r0
  obtain ⟨n, rfl⟩ := Int.eq_ofNat_of_zero_le x0
  have hvals : vals = #[.int .i64 n] := by
    obtain ⟨l⟩ := vals
    match l, hsz with
    | [x], _ => simp at e0; rw [e0]
  rw [hvals]
  refine (sqrt n w x1).mono ?_
  rintro e w' ⟨rfl, rfl⟩
  exact ⟨_, rfl, .int, Below.refl _ _⟩
def lenPt (p q : Pt) : Int := isq ((q.x - p.x) * (q.x - p.x) + (q.y - p.y) * (q.y - p.y)).toNat
def small (M : Int) (p : Pt) : Prop := (-M ≤ p.x ∧ p.x ≤ M) ∧ -M ≤ p.y ∧ p.y ≤ M
theorem sq_in {a M : Int} (h : -M ≤ a ∧ a ≤ M) : 0 ≤ a * a ∧ a * a ≤ M * M := by
  have e := Int.natAbs_mul_self (a := a)
  have h2 := (mul_in h h).2
  exact ⟨by rw [← e]; exact Int.natCast_nonneg _, h2⟩
theorem isq_le (n : Nat) : isq n ≤ n := by
  have h := (isq_spec n).1
  rcases Nat.eq_zero_or_pos (isq n) with h0 | h0
  · omega
  · exact Nat.le_trans (Nat.le_mul_of_pos_right _ h0) h
theorem len_in {p q : Pt} {M : Int} (hp : small M p) (hq : small M q) : 0 ≤ lenPt p q ∧ lenPt p q ≤ 2 * (2 * M * (2 * M)) := by
  obtain ⟨⟨a1, a2⟩, a3, a4⟩ := hp
  obtain ⟨⟨b1, b2⟩, b3, b4⟩ := hq
  have s1 := sq_in (a := q.x - p.x) (M := 2 * M) ⟨by omega, by omega⟩
  have s2 := sq_in (a := q.y - p.y) (M := 2 * M) ⟨by omega, by omega⟩
  unfold lenPt
  have := isq_le ((q.x - p.x) * (q.x - p.x) + (q.y - p.y) * (q.y - p.y)).toNat
  omega
theorem nr_in {x b M : Int} (h : -M ≤ x ∧ x ≤ M) (hb : 1 ≤ b) : -M - 1 ≤ nr x b ∧ nr x b ≤ M + 1 := by
  have s := nr_spec x b hb
  have hM : 0 ≤ M := by omega
  have hMb : M * 1 ≤ M * b := Int.mul_le_mul_of_nonneg_left hb hM
  constructor
  · rcases Int.lt_or_le (nr x b) (-M - 1) with hc | hc
    · have := Int.mul_le_mul_of_nonneg_right (show nr x b ≤ -M - 2 by omega) (show (0 : Int) ≤ b by omega)
      have e : (-M - 2) * b = -(M * b) - 2 * b := by rw [Int.sub_mul, Int.neg_mul]
      omega
    · exact hc
  · rcases Int.lt_or_le (M + 1) (nr x b) with hc | hc
    · have := Int.mul_le_mul_of_nonneg_right (show M + 2 ≤ nr x b by omega) (show (0 : Int) ≤ b by omega)
      have e : (M + 2) * b = M * b + 2 * b := by rw [Int.add_mul]
      omega
    · exact hc
theorem len_small {p q : Pt} (hp : small 500 p) (hq : small 500 q) : 0 ≤ lenPt p q ∧ lenPt p q ≤ 1414 := by
  obtain ⟨⟨a1, a2⟩, a3, a4⟩ := hp
  obtain ⟨⟨b1, b2⟩, b3, b4⟩ := hq
  have s1 := sq_in (a := q.x - p.x) (M := 1000) ⟨by omega, by omega⟩
  have s2 := sq_in (a := q.y - p.y) (M := 1000) ⟨by omega, by omega⟩
  unfold lenPt
  generalize hz : ((q.x - p.x) * (q.x - p.x) + (q.y - p.y) * (q.y - p.y)).toNat = z
  have hz' : z ≤ 2000000 := by omega
  have s := (isq_spec z).1
  rcases Nat.lt_or_ge 1414 (isq z) with hc | hc
  · have := Nat.mul_le_mul (show 1415 ≤ isq z from hc) (show 1415 ≤ isq z from hc)
    omega
  · omega
/-! point. -/
/-! sides. -/
structure Li where
  n : Nat
  f : Nat → Pt
  c : Bool
def liL (l : Li) : List SV := [.sl l.n 2 (fun i => lst (ptL (l.f i))), .bool l.c]
def liS (l : Li) : SV := .agg 2 (lst (liL l))
def pxD : SV → Nat → Pt
  | .sl _ _ f => fun i => ptD (f i)
  | _ => fun _ => ⟨0, 0⟩
def liD (g : Nat → SV) : Li := ⟨slLen (g 0), pxD (g 0), boolOf (g 1)⟩
/-- The end of side i. -/
def Li.to (l : Li) (i : Nat) : Pt := if i + 1 < l.n then l.f (i + 1) else l.f 0
def Li.m (l : Li) : Nat := if l.n ≤ 1 then 0 else if l.c then l.n else l.n - 1
def Li.o (l : Li) : Nat → Int
  | 0 => 0
  | i + 1 => Li.o l i + lenPt (l.f i) (l.to i)
def Li.ok (l : Li) : Prop := l.n ≤ 9 ∧ ∀ i, i < l.n → small 500 (l.f i)
theorem Li.to_ok {l : Li} (h : l.ok) {i : Nat} (hi : i < l.n) : small 500 (l.to i) := by
  unfold Li.to
  split
  · rename_i hj; exact h.2 _ hj
  · exact h.2 _ (by omega)
theorem Li.o_ok {l : Li} (h : l.ok) : ∀ i, i ≤ l.n → 0 ≤ Li.o l i ∧ Li.o l i ≤ i * 1414
  | 0, _ => ⟨Int.le_refl _, by show (0 : Int) ≤ _; omega⟩
  | i + 1, hi => by
    have ih := Li.o_ok h i (by omega)
    have := len_small (h.2 i (by omega)) (Li.to_ok h (show i < l.n by omega))
    show 0 ≤ Li.o l i + lenPt (l.f i) (l.to i) ∧ Li.o l i + lenPt (l.f i) (l.to i) ≤ _
    omega
theorem small_up {p : Pt} (h : small 500 p) : small 32767 p := by
  obtain ⟨⟨a1, a2⟩, a3, a4⟩ := h
  exact ⟨⟨by omega, by omega⟩, by omega, by omega⟩
end Go.Proofs.Ytfjbjbmbdadmhaa.Dsh
