/- Package dash: sides, point, by the evaluation. -/
import Derived.Test.YtbmgclpgompjmaaCon
import Derived.Test.YtbmgclpgompjmaaSqrt
set_option linter.unusedSimpArgs false
set_option linter.unusedVariables false
namespace Go.Proofs.Ytbmgclpgompjmaa.Dsh
open Go.RowKit Sx Num Aff Con
set_option maxRecDepth 100000
def spSqrt : FSpec := mkSpec 98 (γ := Int) (fun | [.int _ x] => some x | _ => none) (fun x => [.int .i64 x]) (fun x => 0 ≤ x ∧ x ≤ 4611686018427387904) (fun x => .int .i64 (isq x.toNat))
theorem ok_sqrt : SpecOK Try.prog spSqrt := by
  refine specOK_of (fun _ _ => by kernel_rfl) ?_
  rintro x ⟨x0, x1⟩ vals w X hsz hr hX
  have r0 := hr 0 (by simp)
  simp only [List.getD_cons_zero] at r0
  generalize e0 : vals.getD 0 undef = v0 at r0
  cases r0
  obtain ⟨n, rfl⟩ := Int.eq_ofNat_of_zero_le x0
  have hvals : vals = #[.int .i64 n] := by
    obtain ⟨l⟩ := vals
    match l, hsz with
    | [x], _ => simp at e0; rw [e0]
  rw [hvals]
  refine (sqrt n w x1).mono ?_
  rintro e w' ⟨rfl, rfl⟩
  exact ⟨_, rfl, .int, Below.refl _ _⟩
structure Sd where
  p : Pt
  q : Pt
  o : Int
  size : Int
def sdL (s : Sd) : List SV := [.int .i64 s.p.x, .int .i64 s.p.y, .int .i64 s.q.x, .int .i64 s.q.y, .int .i64 s.o, .int .i64 s.size]
def sdD (g : Nat → SV) : Sd := ⟨⟨intOf (g 0), intOf (g 1)⟩, ⟨intOf (g 2), intOf (g 3)⟩, intOf (g 4), intOf (g 5)⟩
def lenPt (p q : Pt) : Int := isq ((q.x - p.x) * (q.x - p.x) + (q.y - p.y) * (q.y - p.y)).toNat
/-- One side more. -/
structure AdG where
  p : Pt
  q : Pt
  o : Int
  n : Nat
  f : Nat → Sd
def adD : List SV → List SO → Option AdG
  | [.agg _ p, .agg _ q, _, _], [.cells _ a _, _, .row _ n _ g _] => some ⟨ptD p, ptD q, intOf (a 0), n, fun i => sdD (g i)⟩
  | _, _ => none
def small (M : Int) (p : Pt) : Prop := (-M ≤ p.x ∧ p.x ≤ M) ∧ -M ≤ p.y ∧ p.y ≤ M
def AdG.ok (g : AdG) : Prop := (small 32767 g.p ∧ small 32767 g.q) ∧ (0 ≤ g.o ∧ g.o ≤ 1099511627776) ∧ g.n ≤ 65536
def AdG.sd (g : AdG) : Sd := ⟨g.p, g.q, g.o, lenPt g.p g.q⟩
def spAdd : FSpec := mkSpecM 97 [.arg 2, .arg 3, .cell 1 0] adD (fun g => [ptS g.p, ptS g.q, .own 0 0, .own 1 0])
  (fun g => [.cells 1 (lst [.int .i64 g.o]) 3, .cells 1 (lst [.osl 2 0]) 120, .row 0 g.n 6 (fun i => lst (sdL (g.f i))) 154]) AdG.ok
  (fun _ => .tup 0 (lst []))
  (fun g => [.cells 1 (lst [.int .i64 (g.o + g.sd.size)]) 3, .cells 1 (lst [.osl 2 1]) 120, .row 1 (g.n + 1) 6 (fun i => lst (sdL (if i < g.n then g.f i else g.sd))) 154])
theorem sq_in {a M : Int} (h : -M ≤ a ∧ a ≤ M) : 0 ≤ a * a ∧ a * a ≤ M * M := by
  have e := Int.natAbs_mul_self (a := a)
  have h2 := (mul_in h h).2
  exact ⟨by rw [← e]; exact Int.natCast_nonneg _, h2⟩
theorem isq_le (n : Nat) : isq n ≤ n := by
  have h := (isq_spec n).1
  rcases Nat.eq_zero_or_pos (isq n) with h0 | h0
  · omega
  · exact Nat.le_trans (Nat.le_mul_of_pos_right _ h0) h
theorem len_in {p q : Pt} {M : Int} (hp : small M p) (hq : small M q) : 0 ≤ lenPt p q ∧ lenPt p q ≤ 2 * (2 * M * (2 * M)) := by
  obtain ⟨⟨a1, a2⟩, a3, a4⟩ := hp
  obtain ⟨⟨b1, b2⟩, b3, b4⟩ := hq
  have s1 := sq_in (a := q.x - p.x) (M := 2 * M) ⟨by omega, by omega⟩
  have s2 := sq_in (a := q.y - p.y) (M := 2 * M) ⟨by omega, by omega⟩
  unfold lenPt
  have := isq_le ((q.x - p.x) * (q.x - p.x) + (q.y - p.y) * (q.y - p.y)).toNat
  omega
theorem ok_add : SpecOK Try.prog spAdd := by
  refine spec_soundM (specs := [spSqrt]) (all_ok (⟨ok_sqrt, trivial⟩)) (eqs := []) (fun _ _ h => (List.not_mem_nil h).elim) Aff.mixed Try.func97 rfl (by kernel_rfl) (fun _ _ => by kernel_rfl) (fun g => A0) false (fun g => Nat.le_of_ble_eq_true (by kernel_rfl)) ?_
  rintro g hg
  refine vc_of (B := True ∧ True ∧ True ∧ True ∧ True ∧ True ∧ Sx.Ask ((-9223372036854775808 : Int) ≤ g.q.x - g.p.x ∧ g.q.x - g.p.x ≤ (9223372036854775807 : Int)) ∧ True ∧ True ∧ True ∧ True ∧ Sx.Ask ((-9223372036854775808 : Int) ≤ g.q.y - g.p.y ∧ g.q.y - g.p.y ≤ (9223372036854775807 : Int)) ∧ True ∧ True ∧ True ∧ True ∧ True ∧ True ∧ True ∧ Sx.Ask ((-9223372036854775808 : Int) ≤ (g.q.x - g.p.x) * (g.q.x - g.p.x) ∧ (g.q.x - g.p.x) * (g.q.x - g.p.x) ≤ (9223372036854775807 : Int)) ∧ True ∧ True ∧ Sx.Ask ((-9223372036854775808 : Int) ≤ (g.q.y - g.p.y) * (g.q.y - g.p.y) ∧ (g.q.y - g.p.y) * (g.q.y - g.p.y) ≤ (9223372036854775807 : Int)) ∧ Sx.Ask ((-9223372036854775808 : Int) ≤ (g.q.x - g.p.x) * (g.q.x - g.p.x) + (g.q.y - g.p.y) * (g.q.y - g.p.y) ∧ (g.q.x - g.p.x) * (g.q.x - g.p.x) + (g.q.y - g.p.y) * (g.q.y - g.p.y) ≤ (9223372036854775807 : Int)) ∧ (((Sx.Ask (IntKind.i64 = IntKind.i64) ∧ Sx.Ask ((g.q.x - g.p.x) * (g.q.x - g.p.x) + (g.q.y - g.p.y) * (g.q.y - g.p.y) = (g.q.x - g.p.x) * (g.q.x - g.p.x) + (g.q.y - g.p.y) * (g.q.y - g.p.y))) ∧ True) ∧ Sx.Ask ((0 : Int) ≤ (g.q.x - g.p.x) * (g.q.x - g.p.x) + (g.q.y - g.p.y) * (g.q.y - g.p.y) ∧ (g.q.x - g.p.x) * (g.q.x - g.p.x) + (g.q.y - g.p.y) * (g.q.y - g.p.y) ≤ (4611686018427387904 : Int))) ∧ True ∧ True ∧ True ∧ True ∧ True ∧ True ∧ Sx.Ask ((-9223372036854775808 : Int) ≤ g.o + (↑(isq ((g.q.x - g.p.x) * (g.q.x - g.p.x) + (g.q.y - g.p.y) * (g.q.y - g.p.y)).toNat) : Int) ∧ g.o + (↑(isq ((g.q.x - g.p.x) * (g.q.x - g.p.x) + (g.q.y - g.p.y) * (g.q.y - g.p.y)).toNat) : Int) ≤ (9223372036854775807 : Int)) ∧ True ∧ True ∧ True ∧ True ∧ Sx.Ask (g.n + (1 : Nat) ≤ (9223372036854775807 : Nat) ∧ (g.n + (1 : Nat)) * (48 : Nat) ≤ (140737488355328 : Nat)) ∧ True ∧ True ∧ True ∧ (True ∧ True) ∧ (True ∧ Sx.Ask (IntKind.i64 = IntKind.i64) ∧ Sx.Ask (g.o + (↑(isq ((g.q.x - g.p.x) * (g.q.x - g.p.x) + (g.q.y - g.p.y) * (g.q.y - g.p.y)).toNat) : Int) = g.o + lenPt g.p g.q)) ∧ (True ∧ True) ∧ (Sx.Ask (g.n + (1 : Nat) = g.n + (1 : Nat)) ∧ ∀ (i : Nat), i < g.n + (1 : Nat) → (((((True ∧ Sx.Ask (IntKind.i64 = IntKind.i64) ∧ Sx.Ask ((bif decide (i < g.n) then (g.f i).p.x else g.p.x) = (if i < g.n then g.f i else g.sd).p.x)) ∧ Sx.Ask (IntKind.i64 = IntKind.i64) ∧ Sx.Ask ((bif decide (i < g.n) then (g.f i).p.y else g.p.y) = (if i < g.n then g.f i else g.sd).p.y)) ∧ Sx.Ask (IntKind.i64 = IntKind.i64) ∧ Sx.Ask ((bif decide (i < g.n) then (g.f i).q.x else g.q.x) = (if i < g.n then g.f i else g.sd).q.x)) ∧ Sx.Ask (IntKind.i64 = IntKind.i64) ∧ Sx.Ask ((bif decide (i < g.n) then (g.f i).q.y else g.q.y) = (if i < g.n then g.f i else g.sd).q.y)) ∧ Sx.Ask (IntKind.i64 = IntKind.i64) ∧ Sx.Ask ((bif decide (i < g.n) then (g.f i).o else g.o) = (if i < g.n then g.f i else g.sd).o)) ∧ Sx.Ask (IntKind.i64 = IntKind.i64) ∧ Sx.Ask ((bif decide (i < g.n) then (g.f i).size else (↑(isq ((g.q.x - g.p.x) * (g.q.x - g.p.x) + (g.q.y - g.p.y) * (g.q.y - g.p.y)).toNat) : Int)) = (if i < g.n then g.f i else g.sd).size)) ∧ True) (by kernel_rfl) ?_
  simp only [ask_iff, br_iff, eq_self, true_and, and_true, implies_true, forall_const, decide_eq_true_eq, decide_eq_false_iff_not, ne_eq, Nat.mul_one, Nat.add_zero, Nat.zero_add]
  have hl := len_in hg.1.1 hg.1.2
  obtain ⟨⟨⟨⟨a1, a2⟩, a3, a4⟩, ⟨b1, b2⟩, b3, b4⟩, ⟨o1, o2⟩, hn⟩ := hg
  have s1 := sq_in (a := g.q.x - g.p.x) (M := 65534) ⟨by omega, by omega⟩
  have s2 := sq_in (a := g.q.y - g.p.y) (M := 65534) ⟨by omega, by omega⟩
  have el : (isq ((g.q.x - g.p.x) * (g.q.x - g.p.x) + (g.q.y - g.p.y) * (g.q.y - g.p.y)).toNat : Int) = lenPt g.p g.q := rfl
  rw [el]
  refine ⟨by omega, by omega, by omega, by omega, by omega, by omega, by omega, by omega, rfl, fun i hi => ?_⟩
  by_cases h : i < g.n
  · rw [decide_eq_true h, if_pos h]
    exact ⟨⟨⟨⟨⟨rfl, rfl⟩, rfl⟩, rfl⟩, rfl⟩, rfl⟩
  · rw [decide_eq_false h, if_neg h]
    exact ⟨⟨⟨⟨⟨rfl, rfl⟩, rfl⟩, rfl⟩, rfl⟩, rfl⟩
theorem nr_in {x b M : Int} (h : -M ≤ x ∧ x ≤ M) (hb : 1 ≤ b) : -M - 1 ≤ nr x b ∧ nr x b ≤ M + 1 := by
  have s := nr_spec x b hb
  have hM : 0 ≤ M := by omega
  have hMb : M * 1 ≤ M * b := Int.mul_le_mul_of_nonneg_left hb hM
  constructor
  · rcases Int.lt_or_le (nr x b) (-M - 1) with hc | hc
    · have := Int.mul_le_mul_of_nonneg_right (show nr x b ≤ -M - 2 by omega) (show (0 : Int) ≤ b by omega)
      have e : (-M - 2) * b = -(M * b) - 2 * b := by rw [Int.sub_mul, Int.neg_mul]
      omega
    · exact hc
  · rcases Int.lt_or_le (M + 1) (nr x b) with hc | hc
    · have := Int.mul_le_mul_of_nonneg_right (show M + 2 ≤ nr x b by omega) (show (0 : Int) ≤ b by omega)
      have e : (M + 2) * b = M * b + 2 * b := by rw [Int.add_mul]
      omega
    · exact hc
theorem len_small {p q : Pt} (hp : small 500 p) (hq : small 500 q) : 0 ≤ lenPt p q ∧ lenPt p q ≤ 1414 := by
  obtain ⟨⟨a1, a2⟩, a3, a4⟩ := hp
  obtain ⟨⟨b1, b2⟩, b3, b4⟩ := hq
  have s1 := sq_in (a := q.x - p.x) (M := 1000) ⟨by omega, by omega⟩
  have s2 := sq_in (a := q.y - p.y) (M := 1000) ⟨by omega, by omega⟩
  unfold lenPt
  generalize hz : ((q.x - p.x) * (q.x - p.x) + (q.y - p.y) * (q.y - p.y)).toNat = z
  have hz' : z ≤ 2000000 := by omega
  have s := (isq_spec z).1
  rcases Nat.lt_or_ge 1414 (isq z) with hc | hc
  · have := Nat.mul_le_mul (show 1415 ≤ isq z from hc) (show 1415 ≤ isq z from hc)
    omega
  · omega
/-! point. -/
structure PoG where
  s : Sd
  t : Int
def PoG.ok (g : PoG) : Prop := (small 32767 g.s.p ∧ small 32767 g.s.q) ∧ (0 ≤ g.s.o ∧ g.s.o ≤ 1099511627776) ∧ (0 ≤ g.t ∧ g.t ≤ 1099511627776) ∧ 1 ≤ g.s.size ∧ g.s.size ≤ 1099511627776
def ptAt (s : Sd) (t : Int) : Pt := ⟨s.p.x + nr ((s.q.x - s.p.x) * (t - s.o)) s.size, s.p.y + nr ((s.q.y - s.p.y) * (t - s.o)) s.size⟩
def spPoint : FSpec := mkSpec 100 (γ := PoG) (fun | [.agg _ s, .int _ t] => some ⟨sdD s, t⟩ | _ => none) (fun g => [.agg 6 (lst (sdL g.s)), .int .i64 g.t]) PoG.ok (fun g => ptS (ptAt g.s g.t))
theorem ok_point : SpecOK Try.prog spPoint := by
  refine spec_sound (specs := [spNear]) (all_ok (⟨ok_near, trivial⟩)) (eqs := []) (fun _ _ h => (List.not_mem_nil h).elim) Aff.mixed Try.func100 rfl (by kernel_rfl) (fun _ _ => by kernel_rfl) (fun g => A0) (fun g => Nat.le_of_ble_eq_true (by kernel_rfl)) ?_
  rintro g hg
  refine vc_of (B := True ∧ True ∧ True ∧ True ∧ True ∧ Sx.Ask ((-9223372036854775808 : Int) ≤ g.t - g.s.o ∧ g.t - g.s.o ≤ (9223372036854775807 : Int)) ∧ True ∧ True ∧ True ∧ True ∧ True ∧ True ∧ True ∧ True ∧ True ∧ True ∧ Sx.Ask ((-9223372036854775808 : Int) ≤ g.s.q.x - g.s.p.x ∧ g.s.q.x - g.s.p.x ≤ (9223372036854775807 : Int)) ∧ True ∧ Sx.Ask ((-9223372036854775808 : Int) ≤ (g.s.q.x - g.s.p.x) * (g.t - g.s.o) ∧ (g.s.q.x - g.s.p.x) * (g.t - g.s.o) ≤ (9223372036854775807 : Int)) ∧ True ∧ True ∧ (((Sx.Ask (IntKind.i64 = IntKind.i64) ∧ Sx.Ask ((g.s.q.x - g.s.p.x) * (g.t - g.s.o) = (g.s.q.x - g.s.p.x) * (g.t - g.s.o))) ∧ (Sx.Ask (IntKind.i64 = IntKind.i64) ∧ Sx.Ask (g.s.size = g.s.size)) ∧ True) ∧ Sx.Ask (((-4611686018427387904 : Int) ≤ (g.s.q.x - g.s.p.x) * (g.t - g.s.o) ∧ (g.s.q.x - g.s.p.x) * (g.t - g.s.o) ≤ (4611686018427387904 : Int)) ∧ (1 : Int) ≤ g.s.size ∧ g.s.size ≤ (4611686018427387904 : Int))) ∧ Sx.Ask ((-9223372036854775808 : Int) ≤ g.s.p.x + nr ((g.s.q.x - g.s.p.x) * (g.t - g.s.o)) g.s.size ∧ g.s.p.x + nr ((g.s.q.x - g.s.p.x) * (g.t - g.s.o)) g.s.size ≤ (9223372036854775807 : Int)) ∧ True ∧ True ∧ True ∧ True ∧ True ∧ True ∧ True ∧ True ∧ True ∧ Sx.Ask ((-9223372036854775808 : Int) ≤ g.s.q.y - g.s.p.y ∧ g.s.q.y - g.s.p.y ≤ (9223372036854775807 : Int)) ∧ True ∧ Sx.Ask ((-9223372036854775808 : Int) ≤ (g.s.q.y - g.s.p.y) * (g.t - g.s.o) ∧ (g.s.q.y - g.s.p.y) * (g.t - g.s.o) ≤ (9223372036854775807 : Int)) ∧ True ∧ True ∧ (((Sx.Ask (IntKind.i64 = IntKind.i64) ∧ Sx.Ask ((g.s.q.y - g.s.p.y) * (g.t - g.s.o) = (g.s.q.y - g.s.p.y) * (g.t - g.s.o))) ∧ (Sx.Ask (IntKind.i64 = IntKind.i64) ∧ Sx.Ask (g.s.size = g.s.size)) ∧ True) ∧ Sx.Ask (((-4611686018427387904 : Int) ≤ (g.s.q.y - g.s.p.y) * (g.t - g.s.o) ∧ (g.s.q.y - g.s.p.y) * (g.t - g.s.o) ≤ (4611686018427387904 : Int)) ∧ (1 : Int) ≤ g.s.size ∧ g.s.size ≤ (4611686018427387904 : Int))) ∧ Sx.Ask ((-9223372036854775808 : Int) ≤ g.s.p.y + nr ((g.s.q.y - g.s.p.y) * (g.t - g.s.o)) g.s.size ∧ g.s.p.y + nr ((g.s.q.y - g.s.p.y) * (g.t - g.s.o)) g.s.size ≤ (9223372036854775807 : Int)) ∧ True ∧ True ∧ (True ∧ True) ∧ (True ∧ Sx.Ask (IntKind.i64 = IntKind.i64) ∧ Sx.Ask (g.s.p.x + nr ((g.s.q.x - g.s.p.x) * (g.t - g.s.o)) g.s.size = g.s.p.x + nr ((g.s.q.x - g.s.p.x) * (g.t - g.s.o)) g.s.size)) ∧ Sx.Ask (IntKind.i64 = IntKind.i64) ∧ Sx.Ask (g.s.p.y + nr ((g.s.q.y - g.s.p.y) * (g.t - g.s.o)) g.s.size = g.s.p.y + nr ((g.s.q.y - g.s.p.y) * (g.t - g.s.o)) g.s.size)) (by kernel_rfl) ?_
  simp only [ask_iff, br_iff, eq_self, true_and, and_true, implies_true, forall_const, decide_eq_true_eq, decide_eq_false_iff_not, ne_eq, Nat.mul_one, Nat.add_zero, Nat.zero_add]
  obtain ⟨⟨⟨⟨a1, a2⟩, a3, a4⟩, ⟨b1, b2⟩, b3, b4⟩, ⟨o1, o2⟩, ⟨t1, t2⟩, z1, z2⟩ := hg
  have m1 := mul_in (a := g.s.q.x - g.s.p.x) (x := g.t - g.s.o) (A := 65534) (X := 1099511627776) ⟨by omega, by omega⟩ ⟨by omega, by omega⟩
  have m2 := mul_in (a := g.s.q.y - g.s.p.y) (x := g.t - g.s.o) (A := 65534) (X := 1099511627776) ⟨by omega, by omega⟩ ⟨by omega, by omega⟩
  have n1 := nr_in m1 z1
  have n2 := nr_in m2 z1
  refine ⟨by omega, by omega, by omega, ⟨by omega, by omega, by omega⟩, by omega, by omega, by omega, ⟨by omega, by omega, by omega⟩, by omega⟩
/-! sides. -/
structure Li where
  n : Nat
  f : Nat → Pt
  c : Bool
def liL (l : Li) : List SV := [.sl l.n 2 (fun i => lst (ptL (l.f i))), .bool l.c]
def liS (l : Li) : SV := .agg 2 (lst (liL l))
def pxD : SV → Nat → Pt
  | .sl _ _ f => fun i => ptD (f i)
  | _ => fun _ => ⟨0, 0⟩
def liD (g : Nat → SV) : Li := ⟨slLen (g 0), pxD (g 0), boolOf (g 1)⟩
/-- The end of side i. -/
def Li.to (l : Li) (i : Nat) : Pt := if i + 1 < l.n then l.f (i + 1) else l.f 0
def Li.m (l : Li) : Nat := if l.n ≤ 1 then 0 else if l.c then l.n else l.n - 1
def Li.o (l : Li) : Nat → Int
  | 0 => 0
  | i + 1 => Li.o l i + lenPt (l.f i) (l.to i)
def Li.sd (l : Li) (i : Nat) : Sd := ⟨l.f i, l.to i, Li.o l i, lenPt (l.f i) (l.to i)⟩
def Li.ok (l : Li) : Prop := l.n ≤ 9 ∧ ∀ i, i < l.n → small 500 (l.f i)
theorem Li.to_ok {l : Li} (h : l.ok) {i : Nat} (hi : i < l.n) : small 500 (l.to i) := by
  unfold Li.to
  split
  · rename_i hj; exact h.2 _ hj
  · exact h.2 _ (by omega)
theorem Li.o_ok {l : Li} (h : l.ok) : ∀ i, i ≤ l.n → 0 ≤ Li.o l i ∧ Li.o l i ≤ i * 1414
  | 0, _ => ⟨Int.le_refl _, by show (0 : Int) ≤ _; omega⟩
  | i + 1, hi => by
    have ih := Li.o_ok h i (by omega)
    have := len_small (h.2 i (by omega)) (Li.to_ok h (show i < l.n by omega))
    show 0 ≤ Li.o l i + lenPt (l.f i) (l.to i) ∧ Li.o l i + lenPt (l.f i) (l.to i) ≤ _
    omega
theorem small_up {p : Pt} (h : small 500 p) : small 32767 p := by
  obtain ⟨⟨a1, a2⟩, a3, a4⟩ := h
  exact ⟨⟨by omega, by omega⟩, by omega, by omega⟩
def siInv (l : Li) : Inv := ⟨Int, fun i => 1 ≤ i ∧ (i ≤ l.n ∨ i = 1), fun i => ⟨[(1, .own 0 0), (4, .own 1 0), (5, .own 2 0), (6, .fn 97 2 (lst [.own 2 0, .own 1 0])), (7, .int .i64 l.n), (8, .int .i64 i)],
  [.cells 2 (lst (liL l)) 62, .cells 1 (lst [.osl 3 0]) 120, .cells 1 (lst [.int .i64 (Li.o l (i - 1).toNat)]) 3, .row 0 (i - 1).toNat 6 (fun j => lst (sdL (l.sd j))) 154]⟩, fun i => (l.n - i).toNat⟩
def sidesS (l : Li) : SV := .sl l.m 6 (fun j => lst (sdL (l.sd j)))
def spSides : FSpec := mkSpec 71 (γ := Li) (fun | [.agg _ g] => some (liD g) | _ => none) (fun l => [liS l]) Li.ok (fun l => .tup 2 (lst [sidesS l, .int .i64 (Li.o l l.m)]))
theorem ok_sides : SpecOK Try.prog spSides := by
  refine spec_sound (specs := [spAdd]) (all_ok (⟨ok_add, trivial⟩)) (eqs := []) (fun _ _ h => (List.not_mem_nil h).elim) Aff.mixed Try.func71 rfl (by kernel_rfl) (fun _ _ => by kernel_rfl) (fun g => (⟨[(6, .inv (siInv g))], [(5, [.ownC 1 0 154 6])]⟩ : Ann)) (fun g => Nat.le_of_ble_eq_true (by kernel_rfl)) ?_
  rintro l hl
  refine vc_of (B := True ∧ True ∧ True ∧ True ∧ True ∧ True ∧ True ∧ True ∧ True ∧ True ∧ True ∧ True ∧ True ∧ (∃ (g : Int), Sx.Ask ((siInv l).pre g) ∧ (Sx.Ask ((0 : Nat) = (0 : Nat)) ∧ Sx.Ask ((0 : Nat) = (0 : Nat)) ∧ Sx.Ask ((0 : Nat) = (0 : Nat)) ∧ (Sx.Ask ((97 : Nat) = (97 : Go.FuncId)) ∧ (True ∧ Sx.Ask ((0 : Nat) = (0 : Nat))) ∧ Sx.Ask ((0 : Nat) = (0 : Nat))) ∧ (Sx.Ask (IntKind.i64 = IntKind.i64) ∧ Sx.Ask ((↑l.n : Int) = (↑l.n : Int))) ∧ (Sx.Ask (IntKind.i64 = IntKind.i64) ∧ Sx.Ask ((1 : Int) = g)) ∧ True) ∧ ((True ∧ Sx.Ask (l.n = l.n) ∧ ∀ (i : Nat), i < l.n → (True ∧ Sx.Ask (IntKind.i64 = IntKind.i64) ∧ Sx.Ask ((l.f i).x = (l.f i).x)) ∧ Sx.Ask (IntKind.i64 = IntKind.i64) ∧ Sx.Ask ((l.f i).y = (l.f i).y)) ∧ Sx.Ask (l.c = l.c)) ∧ (True ∧ True) ∧ (True ∧ Sx.Ask (IntKind.i64 = IntKind.i64) ∧ Sx.Ask ((0 : Int) = l.o (g - (1 : Int)).toNat)) ∧ (Sx.Ask ((0 : Nat) = (g - (1 : Int)).toNat) ∧ ∀ (i : Nat), i < (g - (1 : Int)).toNat → (((((True ∧ False) ∧ False) ∧ False) ∧ False) ∧ False) ∧ False) ∧ True) ∧ ∀ (g : Int), (siInv l).pre g → True ∧ True ∧ True ∧ Sx.Br (decide (g < (↑l.n : Int))) (True ∧ True ∧ True ∧ True ∧ Sx.Ask ((-9223372036854775808 : Int) ≤ g - (1 : Int) ∧ g - (1 : Int) ≤ (9223372036854775807 : Int)) ∧ Sx.Ask ((0 : Int) ≤ g - (1 : Int) ∧ g - (1 : Int) < (↑l.n : Int)) ∧ True ∧ True ∧ True ∧ True ∧ Sx.Ask ((0 : Int) ≤ g ∧ g < (↑l.n : Int)) ∧ True ∧ ((True ∧ (((True ∧ Sx.Ask (IntKind.i64 = IntKind.i64) ∧ Sx.Ask ((l.f (g - (1 : Int)).toNat).x = (l.f (g - (1 : Int)).toNat).x)) ∧ Sx.Ask (IntKind.i64 = IntKind.i64) ∧ Sx.Ask ((l.f (g - (1 : Int)).toNat).y = (l.f (g - (1 : Int)).toNat).y)) ∧ ((True ∧ Sx.Ask (IntKind.i64 = IntKind.i64) ∧ Sx.Ask ((l.f g.toNat).x = (l.f g.toNat).x)) ∧ Sx.Ask (IntKind.i64 = IntKind.i64) ∧ Sx.Ask ((l.f g.toNat).y = (l.f g.toNat).y)) ∧ Sx.Ask ((0 : Nat) = (0 : Nat)) ∧ Sx.Ask ((0 : Nat) = (0 : Nat)) ∧ True) ∧ (True ∧ Sx.Ask (IntKind.i64 = IntKind.i64) ∧ Sx.Ask (l.o (g - (1 : Int)).toNat = l.o (g - (1 : Int)).toNat)) ∧ (True ∧ True) ∧ (Sx.Ask ((g - (1 : Int)).toNat = (g - (1 : Int)).toNat) ∧ ∀ (i : Nat), i < (g - (1 : Int)).toNat → (((((True ∧ Sx.Ask (IntKind.i64 = IntKind.i64) ∧ Sx.Ask ((l.f i).x = (l.f i).x)) ∧ Sx.Ask (IntKind.i64 = IntKind.i64) ∧ Sx.Ask ((l.f i).y = (l.f i).y)) ∧ Sx.Ask (IntKind.i64 = IntKind.i64) ∧ Sx.Ask ((l.to i).x = (l.to i).x)) ∧ Sx.Ask (IntKind.i64 = IntKind.i64) ∧ Sx.Ask ((l.to i).y = (l.to i).y)) ∧ Sx.Ask (IntKind.i64 = IntKind.i64) ∧ Sx.Ask (l.o i = l.o i)) ∧ Sx.Ask (IntKind.i64 = IntKind.i64) ∧ Sx.Ask (lenPt (l.f i) (l.to i) = lenPt (l.f i) (l.to i))) ∧ True) ∧ Sx.Ask (AdG.mk (l.f (g - (1 : Int)).toNat) (l.f g.toNat) (l.o (g - (1 : Int)).toNat) (g - (1 : Int)).toNat fun (i : Nat) => Sd.mk (l.f i) (l.to i) (l.o i) (lenPt (l.f i) (l.to i))).ok) ∧ True ∧ Sx.Ask ((-9223372036854775808 : Int) ≤ g + (1 : Int) ∧ g + (1 : Int) ≤ (9223372036854775807 : Int)) ∧ True ∧ ∃ (g' : Int), Sx.Ask ((siInv l).pre g') ∧ ((Sx.Ask ((0 : Nat) = (0 : Nat)) ∧ Sx.Ask ((0 : Nat) = (0 : Nat)) ∧ Sx.Ask ((0 : Nat) = (0 : Nat)) ∧ (Sx.Ask ((97 : Go.FuncId) = (97 : Go.FuncId)) ∧ (True ∧ Sx.Ask ((0 : Nat) = (0 : Nat))) ∧ Sx.Ask ((0 : Nat) = (0 : Nat))) ∧ (Sx.Ask (IntKind.i64 = IntKind.i64) ∧ Sx.Ask ((↑l.n : Int) = (↑l.n : Int))) ∧ (Sx.Ask (IntKind.i64 = IntKind.i64) ∧ Sx.Ask (g + (1 : Int) = g')) ∧ True) ∧ ((True ∧ Sx.Ask (l.n = l.n) ∧ ∀ (i : Nat), i < l.n → (True ∧ Sx.Ask (IntKind.i64 = IntKind.i64) ∧ Sx.Ask ((l.f i).x = (l.f i).x)) ∧ Sx.Ask (IntKind.i64 = IntKind.i64) ∧ Sx.Ask ((l.f i).y = (l.f i).y)) ∧ Sx.Ask (l.c = l.c)) ∧ (True ∧ True) ∧ (True ∧ Sx.Ask (IntKind.i64 = IntKind.i64) ∧ Sx.Ask (l.o (g - (1 : Int)).toNat + lenPt (l.f (g - (1 : Int)).toNat) (l.f g.toNat) = l.o (g' - (1 : Int)).toNat)) ∧ (Sx.Ask ((g - (1 : Int)).toNat + (1 : Nat) = (g' - (1 : Int)).toNat) ∧ ∀ (i : Nat), i < (g' - (1 : Int)).toNat → (((((True ∧ Sx.Ask (IntKind.i64 = IntKind.i64) ∧ Sx.Ask ((if i < (g - (1 : Int)).toNat then Sd.mk (l.f i) (l.to i) (l.o i) (lenPt (l.f i) (l.to i)) else (AdG.mk (l.f (g - (1 : Int)).toNat) (l.f g.toNat) (l.o (g - (1 : Int)).toNat) (g - (1 : Int)).toNat fun (i : Nat) => Sd.mk (l.f i) (l.to i) (l.o i) (lenPt (l.f i) (l.to i))).sd).p.x = (l.f i).x)) ∧ Sx.Ask (IntKind.i64 = IntKind.i64) ∧ Sx.Ask ((if i < (g - (1 : Int)).toNat then Sd.mk (l.f i) (l.to i) (l.o i) (lenPt (l.f i) (l.to i)) else (AdG.mk (l.f (g - (1 : Int)).toNat) (l.f g.toNat) (l.o (g - (1 : Int)).toNat) (g - (1 : Int)).toNat fun (i : Nat) => Sd.mk (l.f i) (l.to i) (l.o i) (lenPt (l.f i) (l.to i))).sd).p.y = (l.f i).y)) ∧ Sx.Ask (IntKind.i64 = IntKind.i64) ∧ Sx.Ask ((if i < (g - (1 : Int)).toNat then Sd.mk (l.f i) (l.to i) (l.o i) (lenPt (l.f i) (l.to i)) else (AdG.mk (l.f (g - (1 : Int)).toNat) (l.f g.toNat) (l.o (g - (1 : Int)).toNat) (g - (1 : Int)).toNat fun (i : Nat) => Sd.mk (l.f i) (l.to i) (l.o i) (lenPt (l.f i) (l.to i))).sd).q.x = (l.to i).x)) ∧ Sx.Ask (IntKind.i64 = IntKind.i64) ∧ Sx.Ask ((if i < (g - (1 : Int)).toNat then Sd.mk (l.f i) (l.to i) (l.o i) (lenPt (l.f i) (l.to i)) else (AdG.mk (l.f (g - (1 : Int)).toNat) (l.f g.toNat) (l.o (g - (1 : Int)).toNat) (g - (1 : Int)).toNat fun (i : Nat) => Sd.mk (l.f i) (l.to i) (l.o i) (lenPt (l.f i) (l.to i))).sd).q.y = (l.to i).y)) ∧ Sx.Ask (IntKind.i64 = IntKind.i64) ∧ Sx.Ask ((if i < (g - (1 : Int)).toNat then Sd.mk (l.f i) (l.to i) (l.o i) (lenPt (l.f i) (l.to i)) else (AdG.mk (l.f (g - (1 : Int)).toNat) (l.f g.toNat) (l.o (g - (1 : Int)).toNat) (g - (1 : Int)).toNat fun (i : Nat) => Sd.mk (l.f i) (l.to i) (l.o i) (lenPt (l.f i) (l.to i))).sd).o = l.o i)) ∧ Sx.Ask (IntKind.i64 = IntKind.i64) ∧ Sx.Ask ((if i < (g - (1 : Int)).toNat then Sd.mk (l.f i) (l.to i) (l.o i) (lenPt (l.f i) (l.to i)) else (AdG.mk (l.f (g - (1 : Int)).toNat) (l.f g.toNat) (l.o (g - (1 : Int)).toNat) (g - (1 : Int)).toNat fun (i : Nat) => Sd.mk (l.f i) (l.to i) (l.o i) (lenPt (l.f i) (l.to i))).sd).size = lenPt (l.f i) (l.to i))) ∧ True) ∧ Sx.Ask ((siInv l).meas g' < (siInv l).meas g)) (True ∧ True ∧ True ∧ Sx.Br l.c (True ∧ True ∧ True ∧ Sx.Br (decide ((1 : Int) < (↑l.n : Int))) (True ∧ True ∧ True ∧ True ∧ Sx.Ask ((-9223372036854775808 : Int) ≤ (↑l.n : Int) - (1 : Int) ∧ (↑l.n : Int) - (1 : Int) ≤ (9223372036854775807 : Int)) ∧ Sx.Ask ((0 : Int) ≤ (↑l.n : Int) - (1 : Int) ∧ (↑l.n : Int) - (1 : Int) < (↑l.n : Int)) ∧ True ∧ True ∧ True ∧ Sx.Ask ((0 : Int) ≤ (0 : Int) ∧ (0 : Int) < (↑l.n : Int)) ∧ True ∧ ((True ∧ (((True ∧ Sx.Ask (IntKind.i64 = IntKind.i64) ∧ Sx.Ask ((l.f ((↑l.n : Int) - (1 : Int)).toNat).x = (l.f ((↑l.n : Int) - (1 : Int)).toNat).x)) ∧ Sx.Ask (IntKind.i64 = IntKind.i64) ∧ Sx.Ask ((l.f ((↑l.n : Int) - (1 : Int)).toNat).y = (l.f ((↑l.n : Int) - (1 : Int)).toNat).y)) ∧ ((True ∧ Sx.Ask (IntKind.i64 = IntKind.i64) ∧ Sx.Ask ((l.f (Int.toNat (0 : Int))).x = (l.f (Int.toNat (0 : Int))).x)) ∧ Sx.Ask (IntKind.i64 = IntKind.i64) ∧ Sx.Ask ((l.f (Int.toNat (0 : Int))).y = (l.f (Int.toNat (0 : Int))).y)) ∧ Sx.Ask ((0 : Nat) = (0 : Nat)) ∧ Sx.Ask ((0 : Nat) = (0 : Nat)) ∧ True) ∧ (True ∧ Sx.Ask (IntKind.i64 = IntKind.i64) ∧ Sx.Ask (l.o (g - (1 : Int)).toNat = l.o (g - (1 : Int)).toNat)) ∧ (True ∧ True) ∧ (Sx.Ask ((g - (1 : Int)).toNat = (g - (1 : Int)).toNat) ∧ ∀ (i : Nat), i < (g - (1 : Int)).toNat → (((((True ∧ Sx.Ask (IntKind.i64 = IntKind.i64) ∧ Sx.Ask ((l.f i).x = (l.f i).x)) ∧ Sx.Ask (IntKind.i64 = IntKind.i64) ∧ Sx.Ask ((l.f i).y = (l.f i).y)) ∧ Sx.Ask (IntKind.i64 = IntKind.i64) ∧ Sx.Ask ((l.to i).x = (l.to i).x)) ∧ Sx.Ask (IntKind.i64 = IntKind.i64) ∧ Sx.Ask ((l.to i).y = (l.to i).y)) ∧ Sx.Ask (IntKind.i64 = IntKind.i64) ∧ Sx.Ask (l.o i = l.o i)) ∧ Sx.Ask (IntKind.i64 = IntKind.i64) ∧ Sx.Ask (lenPt (l.f i) (l.to i) = lenPt (l.f i) (l.to i))) ∧ True) ∧ Sx.Ask (AdG.mk (l.f ((↑l.n : Int) - (1 : Int)).toNat) (l.f (Int.toNat (0 : Int))) (l.o (g - (1 : Int)).toNat) (g - (1 : Int)).toNat fun (i : Nat) => Sd.mk (l.f i) (l.to i) (l.o i) (lenPt (l.f i) (l.to i))).ok) ∧ True ∧ True ∧ True ∧ True ∧ True ∧ (True ∧ Sx.Ask ((g - (1 : Int)).toNat + (1 : Nat) = l.m) ∧ ∀ (i : Nat), i < l.m → (((((True ∧ Sx.Ask (IntKind.i64 = IntKind.i64) ∧ Sx.Ask ((if i < (g - (1 : Int)).toNat then Sd.mk (l.f i) (l.to i) (l.o i) (lenPt (l.f i) (l.to i)) else (AdG.mk (l.f ((↑l.n : Int) - (1 : Int)).toNat) (l.f (Int.toNat (0 : Int))) (l.o (g - (1 : Int)).toNat) (g - (1 : Int)).toNat fun (i : Nat) => Sd.mk (l.f i) (l.to i) (l.o i) (lenPt (l.f i) (l.to i))).sd).p.x = (l.f i).x)) ∧ Sx.Ask (IntKind.i64 = IntKind.i64) ∧ Sx.Ask ((if i < (g - (1 : Int)).toNat then Sd.mk (l.f i) (l.to i) (l.o i) (lenPt (l.f i) (l.to i)) else (AdG.mk (l.f ((↑l.n : Int) - (1 : Int)).toNat) (l.f (Int.toNat (0 : Int))) (l.o (g - (1 : Int)).toNat) (g - (1 : Int)).toNat fun (i : Nat) => Sd.mk (l.f i) (l.to i) (l.o i) (lenPt (l.f i) (l.to i))).sd).p.y = (l.f i).y)) ∧ Sx.Ask (IntKind.i64 = IntKind.i64) ∧ Sx.Ask ((if i < (g - (1 : Int)).toNat then Sd.mk (l.f i) (l.to i) (l.o i) (lenPt (l.f i) (l.to i)) else (AdG.mk (l.f ((↑l.n : Int) - (1 : Int)).toNat) (l.f (Int.toNat (0 : Int))) (l.o (g - (1 : Int)).toNat) (g - (1 : Int)).toNat fun (i : Nat) => Sd.mk (l.f i) (l.to i) (l.o i) (lenPt (l.f i) (l.to i))).sd).q.x = (l.to i).x)) ∧ Sx.Ask (IntKind.i64 = IntKind.i64) ∧ Sx.Ask ((if i < (g - (1 : Int)).toNat then Sd.mk (l.f i) (l.to i) (l.o i) (lenPt (l.f i) (l.to i)) else (AdG.mk (l.f ((↑l.n : Int) - (1 : Int)).toNat) (l.f (Int.toNat (0 : Int))) (l.o (g - (1 : Int)).toNat) (g - (1 : Int)).toNat fun (i : Nat) => Sd.mk (l.f i) (l.to i) (l.o i) (lenPt (l.f i) (l.to i))).sd).q.y = (l.to i).y)) ∧ Sx.Ask (IntKind.i64 = IntKind.i64) ∧ Sx.Ask ((if i < (g - (1 : Int)).toNat then Sd.mk (l.f i) (l.to i) (l.o i) (lenPt (l.f i) (l.to i)) else (AdG.mk (l.f ((↑l.n : Int) - (1 : Int)).toNat) (l.f (Int.toNat (0 : Int))) (l.o (g - (1 : Int)).toNat) (g - (1 : Int)).toNat fun (i : Nat) => Sd.mk (l.f i) (l.to i) (l.o i) (lenPt (l.f i) (l.to i))).sd).o = l.o i)) ∧ Sx.Ask (IntKind.i64 = IntKind.i64) ∧ Sx.Ask ((if i < (g - (1 : Int)).toNat then Sd.mk (l.f i) (l.to i) (l.o i) (lenPt (l.f i) (l.to i)) else (AdG.mk (l.f ((↑l.n : Int) - (1 : Int)).toNat) (l.f (Int.toNat (0 : Int))) (l.o (g - (1 : Int)).toNat) (g - (1 : Int)).toNat fun (i : Nat) => Sd.mk (l.f i) (l.to i) (l.o i) (lenPt (l.f i) (l.to i))).sd).size = lenPt (l.f i) (l.to i))) ∧ Sx.Ask (IntKind.i64 = IntKind.i64) ∧ Sx.Ask (l.o (g - (1 : Int)).toNat + lenPt (l.f ((↑l.n : Int) - (1 : Int)).toNat) (l.f (Int.toNat (0 : Int))) = l.o l.m)) (True ∧ True ∧ True ∧ True ∧ True ∧ (True ∧ Sx.Ask ((g - (1 : Int)).toNat = l.m) ∧ ∀ (i : Nat), i < l.m → (((((True ∧ Sx.Ask (IntKind.i64 = IntKind.i64) ∧ Sx.Ask ((l.f i).x = (l.f i).x)) ∧ Sx.Ask (IntKind.i64 = IntKind.i64) ∧ Sx.Ask ((l.f i).y = (l.f i).y)) ∧ Sx.Ask (IntKind.i64 = IntKind.i64) ∧ Sx.Ask ((l.to i).x = (l.to i).x)) ∧ Sx.Ask (IntKind.i64 = IntKind.i64) ∧ Sx.Ask ((l.to i).y = (l.to i).y)) ∧ Sx.Ask (IntKind.i64 = IntKind.i64) ∧ Sx.Ask (l.o i = l.o i)) ∧ Sx.Ask (IntKind.i64 = IntKind.i64) ∧ Sx.Ask (lenPt (l.f i) (l.to i) = lenPt (l.f i) (l.to i))) ∧ Sx.Ask (IntKind.i64 = IntKind.i64) ∧ Sx.Ask (l.o (g - (1 : Int)).toNat = l.o l.m))) (True ∧ True ∧ True ∧ True ∧ True ∧ True ∧ (True ∧ Sx.Ask ((g - (1 : Int)).toNat = l.m) ∧ ∀ (i : Nat), i < l.m → (((((True ∧ Sx.Ask (IntKind.i64 = IntKind.i64) ∧ Sx.Ask ((l.f i).x = (l.f i).x)) ∧ Sx.Ask (IntKind.i64 = IntKind.i64) ∧ Sx.Ask ((l.f i).y = (l.f i).y)) ∧ Sx.Ask (IntKind.i64 = IntKind.i64) ∧ Sx.Ask ((l.to i).x = (l.to i).x)) ∧ Sx.Ask (IntKind.i64 = IntKind.i64) ∧ Sx.Ask ((l.to i).y = (l.to i).y)) ∧ Sx.Ask (IntKind.i64 = IntKind.i64) ∧ Sx.Ask (l.o i = l.o i)) ∧ Sx.Ask (IntKind.i64 = IntKind.i64) ∧ Sx.Ask (lenPt (l.f i) (l.to i) = lenPt (l.f i) (l.to i))) ∧ Sx.Ask (IntKind.i64 = IntKind.i64) ∧ Sx.Ask (l.o (g - (1 : Int)).toNat = l.o l.m)))) (by kernel_rfl) ?_
  simp only [ask_iff, br_iff, eq_self, true_and, and_true, implies_true, forall_const, decide_eq_true_eq, decide_eq_false_iff_not, ne_eq, Nat.mul_one, Nat.add_zero, Nat.zero_add]
  refine ⟨⟨1, ⟨by omega, Or.inr rfl⟩, rfl, rfl, rfl, fun i hi => absurd hi (Nat.not_lt_zero i)⟩, ?_⟩
  rintro g hg
  have hg : 1 ≤ g ∧ (g ≤ l.n ∨ g = 1) := hg
  obtain ⟨k, rfl⟩ : ∃ k : Nat, g = k + 1 := ⟨(g - 1).toNat, by omega⟩
  have e1 : ((k : Int) + 1 - 1).toNat = k := by omega
  have e2 : ((k : Int) + 1).toNat = k + 1 := by omega
  have e3 : ((k : Int) + 1 + 1 - 1).toNat = k + 1 := by omega
  rw [e1, e2]
  have hn := hl.1
  refine ⟨fun h => ?_, fun h => ?_⟩
  · have hk : k + 1 < l.n := by omega
    have et : l.to k = l.f (k + 1) := if_pos hk
    have ho := Li.o_ok hl k (by omega)
    have hln := len_small (hl.2 k (by omega)) (hl.2 (k + 1) hk)
    refine ⟨by omega, by omega, by omega, ⟨⟨small_up (hl.2 k (by omega)), small_up (hl.2 _ hk)⟩, ⟨ho.1, by show Li.o l k ≤ _; omega⟩, by show k ≤ _; omega⟩, by omega, ⟨k + 1 + 1, ⟨by omega, Or.inl (by omega)⟩, ⟨rfl, ?_, ?_, ?_⟩, ?_⟩⟩
    · rw [e3]; show _ = Li.o l k + lenPt (l.f k) (l.to k); rw [et]
    · rw [e3]
    · rw [e3]; intro i hi
      by_cases hik : i < k
      · rw [if_pos hik]; exact ⟨⟨⟨⟨⟨rfl, rfl⟩, rfl⟩, rfl⟩, rfl⟩, rfl⟩
      · obtain rfl : i = k := by omega
        rw [if_neg hik, et]; exact ⟨⟨⟨⟨⟨rfl, rfl⟩, rfl⟩, rfl⟩, rfl⟩, rfl⟩
    · show (l.n - (k + 1 + 1 : Int)).toNat < (l.n - (k + 1 : Int)).toNat
      omega
  · refine ⟨fun hc => ⟨fun h1 => ?_, fun h1 => ?_⟩, fun hc => ?_⟩
    · have hk : k + 1 = l.n := by omega
      have em : l.m = k + 1 := by unfold Li.m; rw [if_neg (by omega), if_pos hc]; exact hk.symm
      have et : l.to k = l.f 0 := if_neg (by omega)
      have e4 : ((l.n : Int) - 1).toNat = k := by omega
      have ho := Li.o_ok hl k (by omega)
      have hln := len_small (hl.2 k (by omega)) (hl.2 0 (by omega))
      rw [e4, em]
      refine ⟨by omega, by omega, by omega, ⟨⟨small_up (hl.2 k (by omega)), small_up (hl.2 0 (by omega))⟩, ⟨ho.1, by show Li.o l k ≤ _; omega⟩, by show k ≤ _; omega⟩, ⟨rfl, ?_⟩, ?_⟩
      · intro i hi
        by_cases hik : i < k
        · rw [if_pos hik]; exact ⟨⟨⟨⟨⟨rfl, rfl⟩, rfl⟩, rfl⟩, rfl⟩, rfl⟩
        · obtain rfl : i = k := by omega
          rw [if_neg hik, et]; exact ⟨⟨⟨⟨⟨rfl, rfl⟩, rfl⟩, rfl⟩, rfl⟩, rfl⟩
      · show _ = Li.o l k + lenPt (l.f k) (l.to k); rw [et]; rfl
    · have em : k = l.m := by unfold Li.m; rw [if_pos (by omega)]; omega
      exact ⟨em, by rw [← em]⟩
    · have em : k = l.m := by
        unfold Li.m
        by_cases h1 : l.n ≤ 1
        · rw [if_pos h1]; omega
        · rw [if_neg h1, if_neg (by rw [hc]; exact Bool.false_ne_true)]; omega
      exact ⟨em, by rw [← em]⟩
end Go.Proofs.Ytbmgclpgompjmaa.Dsh
