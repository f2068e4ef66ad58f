/- Package stroke: vectors, makeSide, cleaned, by the evaluation. -/
import Derived.Test.YtfjbjbmbdadmhaaPtr
import Derived.Test.YtfjbjbmbdadmhaaDsh
set_option linter.unusedSimpArgs false
set_option linter.unusedVariables false
namespace Go.Proofs.Ytfjbjbmbdadmhaa.Sta
open Go.RowKit Sx Num Aff Con Fla Ptr
set_option maxRecDepth 100000
def addP (a b : Pt) : Pt := ⟨a.x + b.x, a.y + b.y⟩
def subP (a b : Pt) : Pt := ⟨a.x - b.x, a.y - b.y⟩
def mulP (k : Int) (a : Pt) : Pt := ⟨k * a.x, k * a.y⟩
def dotP (a b : Pt) : Int := a.x * b.x + a.y * b.y
def crP (a b : Pt) : Int := a.x * b.y - a.y * b.x
def spVec : FSpec := mkSpec 119 (γ := Pt) (fun | [.int _ x, .int _ y] => some ⟨x, y⟩ | _ => none) (fun p => [.int .i64 p.x, .int .i64 p.y]) (fun _ => True) (fun p => ptS p)
theorem ok_vec : SpecOK Try.prog spVec := by
  refine spec_sound (specs := []) (all_ok trivial) (eqs := []) (fun _ _ h => (List.not_mem_nil h).elim) Aff.mixed Try.func119 rfl (by kernel_rfl) (fun _ _ => by kernel_rfl) (fun g => A0) (fun g => Nat.le_of_ble_eq_true (by kernel_rfl)) ?_
  rintro p hp
  refine vc_of (B := True ∧ True ∧ True ∧ True ∧ True ∧ True ∧ (True ∧ True) ∧ (True ∧ Sx.Ask (IntKind.i64 = IntKind.i64) ∧ Sx.Ask (p.x = p.x)) ∧ Sx.Ask (IntKind.i64 = IntKind.i64) ∧ Sx.Ask (p.y = p.y)) (by kernel_rfl) ?_
  simp only [ask_iff, br_iff, eq_self, true_and, and_true, implies_true, forall_const, decide_eq_true_eq, decide_eq_false_iff_not, ne_eq, Nat.mul_one, Nat.add_zero, Nat.zero_add, Int.toNat_natCast, and_self, false_and, and_false]
def spPlus : FSpec := mkSpec 94 (γ := Pt × Pt) (fun | [.agg _ a, .agg _ b] => some (ptD a, ptD b) | _ => none) (fun g => [ptS g.1, ptS g.2]) (fun g => small 1073741824 g.1 ∧ small 1073741824 g.2) (fun g => ptS (addP g.1 g.2))
theorem ok_plus : SpecOK Try.prog spPlus := by
  refine spec_sound (specs := [spVec]) (all_ok (⟨ok_vec, trivial⟩)) (eqs := []) (fun _ _ h => (List.not_mem_nil h).elim) Aff.mixed Try.func94 rfl (by kernel_rfl) (fun _ _ => by kernel_rfl) (fun g => A0) (fun g => Nat.le_of_ble_eq_true (by kernel_rfl)) ?_
  rintro ⟨⟨ax, ay⟩, ⟨bx, by_⟩⟩ ⟨⟨⟨a1, a2⟩, a3, a4⟩, ⟨b1, b2⟩, b3, b4⟩
  simp only at a1 a2 a3 a4 b1 b2 b3 b4
  refine vc_of (B := let z0 := (IntKind.i64 = IntKind.i64);True ∧ True ∧ True ∧ True ∧ True ∧ True ∧ True ∧ True ∧ True ∧ Sx.Ask ((-9223372036854775808 : Int) ≤ ax + bx ∧ ax + bx ≤ (9223372036854775807 : Int)) ∧ True ∧ True ∧ True ∧ True ∧ True ∧ True ∧ Sx.Ask ((-9223372036854775808 : Int) ≤ ay + by_ ∧ ay + by_ ≤ (9223372036854775807 : Int)) ∧ (((Sx.Ask z0 ∧ Sx.Ask (ax + bx = ax + bx)) ∧ (Sx.Ask z0 ∧ Sx.Ask (ay + by_ = ay + by_)) ∧ True) ∧ Sx.Ask True) ∧ True ∧ (True ∧ True) ∧ (True ∧ Sx.Ask z0 ∧ Sx.Ask (ax + bx = ax + bx)) ∧ Sx.Ask z0 ∧ Sx.Ask (ay + by_ = ay + by_)) (by kernel_rfl) ?_
  simp only [ask_iff, br_iff, eq_self, true_and, and_true, implies_true, forall_const, decide_eq_true_eq, decide_eq_false_iff_not, ne_eq, Nat.mul_one, Nat.add_zero, Nat.zero_add, Int.toNat_natCast, and_self, false_and, and_false]
  omega
def spMinus : FSpec := mkSpec 95 (γ := Pt × Pt) (fun | [.agg _ a, .agg _ b] => some (ptD a, ptD b) | _ => none) (fun g => [ptS g.1, ptS g.2]) (fun g => small 1073741824 g.1 ∧ small 1073741824 g.2) (fun g => ptS (subP g.1 g.2))
theorem ok_minus : SpecOK Try.prog spMinus := by
  refine spec_sound (specs := [spVec]) (all_ok (⟨ok_vec, trivial⟩)) (eqs := []) (fun _ _ h => (List.not_mem_nil h).elim) Aff.mixed Try.func95 rfl (by kernel_rfl) (fun _ _ => by kernel_rfl) (fun g => A0) (fun g => Nat.le_of_ble_eq_true (by kernel_rfl)) ?_
  rintro ⟨⟨ax, ay⟩, ⟨bx, by_⟩⟩ ⟨⟨⟨a1, a2⟩, a3, a4⟩, ⟨b1, b2⟩, b3, b4⟩
  simp only at a1 a2 a3 a4 b1 b2 b3 b4
  refine vc_of (B := let z0 := (IntKind.i64 = IntKind.i64);True ∧ True ∧ True ∧ True ∧ True ∧ True ∧ True ∧ True ∧ True ∧ Sx.Ask ((-9223372036854775808 : Int) ≤ ax - bx ∧ ax - bx ≤ (9223372036854775807 : Int)) ∧ True ∧ True ∧ True ∧ True ∧ True ∧ True ∧ Sx.Ask ((-9223372036854775808 : Int) ≤ ay - by_ ∧ ay - by_ ≤ (9223372036854775807 : Int)) ∧ (((Sx.Ask z0 ∧ Sx.Ask (ax - bx = ax - bx)) ∧ (Sx.Ask z0 ∧ Sx.Ask (ay - by_ = ay - by_)) ∧ True) ∧ Sx.Ask True) ∧ True ∧ (True ∧ True) ∧ (True ∧ Sx.Ask z0 ∧ Sx.Ask (ax - bx = ax - bx)) ∧ Sx.Ask z0 ∧ Sx.Ask (ay - by_ = ay - by_)) (by kernel_rfl) ?_
  simp only [ask_iff, br_iff, eq_self, true_and, and_true, implies_true, forall_const, decide_eq_true_eq, decide_eq_false_iff_not, ne_eq, Nat.mul_one, Nat.add_zero, Nat.zero_add, Int.toNat_natCast, and_self, false_and, and_false]
  omega
def spTimes : FSpec := mkSpec 123 (γ := Pt × Int) (fun | [.agg _ a, .int _ k] => some (ptD a, k) | _ => none) (fun g => [ptS g.1, .int .i64 g.2]) (fun g => small 1073741824 g.1 ∧ -1 ≤ g.2 ∧ g.2 ≤ 1) (fun g => ptS (mulP g.2 g.1))
theorem ok_times : SpecOK Try.prog spTimes := by
  refine spec_sound (specs := [spVec]) (all_ok (⟨ok_vec, trivial⟩)) (eqs := []) (fun _ _ h => (List.not_mem_nil h).elim) Aff.mixed Try.func123 rfl (by kernel_rfl) (fun _ _ => by kernel_rfl) (fun g => A0) (fun g => Nat.le_of_ble_eq_true (by kernel_rfl)) ?_
  rintro ⟨⟨ax, ay⟩, k⟩ ⟨⟨⟨a1, a2⟩, a3, a4⟩, k1, k2⟩
  simp only at a1 a2 a3 a4 k1 k2
  refine vc_of (B := let z0 := (IntKind.i64 = IntKind.i64);True ∧ True ∧ True ∧ True ∧ True ∧ True ∧ Sx.Ask ((-9223372036854775808 : Int) ≤ k * ax ∧ k * ax ≤ (9223372036854775807 : Int)) ∧ True ∧ True ∧ True ∧ True ∧ Sx.Ask ((-9223372036854775808 : Int) ≤ k * ay ∧ k * ay ≤ (9223372036854775807 : Int)) ∧ (((Sx.Ask z0 ∧ Sx.Ask (k * ax = k * ax)) ∧ (Sx.Ask z0 ∧ Sx.Ask (k * ay = k * ay)) ∧ True) ∧ Sx.Ask True) ∧ True ∧ (True ∧ True) ∧ (True ∧ Sx.Ask z0 ∧ Sx.Ask (k * ax = k * ax)) ∧ Sx.Ask z0 ∧ Sx.Ask (k * ay = k * ay)) (by kernel_rfl) ?_
  simp only [ask_iff, br_iff, eq_self, true_and, and_true, implies_true, forall_const, decide_eq_true_eq, decide_eq_false_iff_not, ne_eq, Nat.mul_one, Nat.add_zero, Nat.zero_add, Int.toNat_natCast, and_self, false_and, and_false]
  have h1 := Fla.mul_in (a := k) (x := ax) (A := 1) (X := 1073741824) ⟨k1, k2⟩ ⟨a1, a2⟩
  have h2 := Fla.mul_in (a := k) (x := ay) (A := 1) (X := 1073741824) ⟨k1, k2⟩ ⟨a3, a4⟩
  omega
def spDot : FSpec := mkSpec 120 (γ := Pt × Pt) (fun | [.agg _ a, .agg _ b] => some (ptD a, ptD b) | _ => none) (fun g => [ptS g.1, ptS g.2]) (fun g => small 65536 g.1 ∧ small 65536 g.2) (fun g => .int .i64 (dotP g.1 g.2))
theorem ok_dot : SpecOK Try.prog spDot := by
  refine spec_sound (specs := []) (all_ok trivial) (eqs := []) (fun _ _ h => (List.not_mem_nil h).elim) Aff.mixed Try.func120 rfl (by kernel_rfl) (fun _ _ => by kernel_rfl) (fun g => A0) (fun g => Nat.le_of_ble_eq_true (by kernel_rfl)) ?_
  rintro ⟨⟨ax, ay⟩, ⟨bx, by_⟩⟩ ⟨⟨⟨a1, a2⟩, a3, a4⟩, ⟨b1, b2⟩, b3, b4⟩
  simp only at a1 a2 a3 a4 b1 b2 b3 b4
  refine vc_of (B := let z1 := (9223372036854775807 : Int);let z0 := (-9223372036854775808 : Int);True ∧ True ∧ True ∧ True ∧ True ∧ True ∧ True ∧ True ∧ True ∧ Sx.Ask (z0 ≤ ax * bx ∧ ax * bx ≤ z1) ∧ True ∧ True ∧ True ∧ True ∧ True ∧ True ∧ Sx.Ask (z0 ≤ ay * by_ ∧ ay * by_ ≤ z1) ∧ Sx.Ask (z0 ≤ ax * bx + ay * by_ ∧ ax * bx + ay * by_ ≤ z1) ∧ True ∧ True ∧ Sx.Ask (IntKind.i64 = IntKind.i64) ∧ Sx.Ask (ax * bx + ay * by_ = dotP (Con.Pt.mk ax ay) (Con.Pt.mk bx by_))) (by kernel_rfl) ?_
  simp only [ask_iff, br_iff, eq_self, true_and, and_true, implies_true, forall_const, decide_eq_true_eq, decide_eq_false_iff_not, ne_eq, Nat.mul_one, Nat.add_zero, Nat.zero_add, Int.toNat_natCast, and_self, false_and, and_false]
  have h1 := Fla.mul_in (a := ax) (x := bx) (A := 65536) (X := 65536) ⟨a1, a2⟩ ⟨b1, b2⟩
  have h2 := Fla.mul_in (a := ay) (x := by_) (A := 65536) (X := 65536) ⟨a3, a4⟩ ⟨b3, b4⟩
  exact ⟨by omega, by omega, by omega, rfl⟩
def spCrossV : FSpec := mkSpec 122 (γ := Pt × Pt) (fun | [.agg _ a, .agg _ b] => some (ptD a, ptD b) | _ => none) (fun g => [ptS g.1, ptS g.2]) (fun g => small 65536 g.1 ∧ small 65536 g.2) (fun g => .int .i64 (crP g.1 g.2))
theorem ok_crossV : SpecOK Try.prog spCrossV := by
  refine spec_sound (specs := []) (all_ok trivial) (eqs := []) (fun _ _ h => (List.not_mem_nil h).elim) Aff.mixed Try.func122 rfl (by kernel_rfl) (fun _ _ => by kernel_rfl) (fun g => A0) (fun g => Nat.le_of_ble_eq_true (by kernel_rfl)) ?_
  rintro ⟨⟨ax, ay⟩, ⟨bx, by_⟩⟩ ⟨⟨⟨a1, a2⟩, a3, a4⟩, ⟨b1, b2⟩, b3, b4⟩
  simp only at a1 a2 a3 a4 b1 b2 b3 b4
  refine vc_of (B := let z1 := (9223372036854775807 : Int);let z0 := (-9223372036854775808 : Int);True ∧ True ∧ True ∧ True ∧ True ∧ True ∧ True ∧ True ∧ True ∧ Sx.Ask (z0 ≤ ax * by_ ∧ ax * by_ ≤ z1) ∧ True ∧ True ∧ True ∧ True ∧ True ∧ True ∧ Sx.Ask (z0 ≤ ay * bx ∧ ay * bx ≤ z1) ∧ Sx.Ask (z0 ≤ ax * by_ - ay * bx ∧ ax * by_ - ay * bx ≤ z1) ∧ True ∧ True ∧ Sx.Ask (IntKind.i64 = IntKind.i64) ∧ Sx.Ask (ax * by_ - ay * bx = crP (Con.Pt.mk ax ay) (Con.Pt.mk bx by_))) (by kernel_rfl) ?_
  simp only [ask_iff, br_iff, eq_self, true_and, and_true, implies_true, forall_const, decide_eq_true_eq, decide_eq_false_iff_not, ne_eq, Nat.mul_one, Nat.add_zero, Nat.zero_add, Int.toNat_natCast, and_self, false_and, and_false]
  have h1 := Fla.mul_in (a := ax) (x := by_) (A := 65536) (X := 65536) ⟨a1, a2⟩ ⟨b3, b4⟩
  have h2 := Fla.mul_in (a := ay) (x := bx) (A := 65536) (X := 65536) ⟨a3, a4⟩ ⟨b1, b2⟩
  exact ⟨by omega, by omega, by omega, rfl⟩
/-! Sides. -/
structure Sid where
  p : Pt
  q : Pt
  d : Pt
  n : Pt
  e : Pt
def sidL (s : Sid) : List SV := [.int .i64 s.p.x, .int .i64 s.p.y, .int .i64 s.q.x, .int .i64 s.q.y, .int .i64 s.d.x, .int .i64 s.d.y, .int .i64 s.n.x, .int .i64 s.n.y, .int .i64 s.e.x, .int .i64 s.e.y]
def sidS (s : Sid) : SV := .agg 10 (lst (sidL s))
def sidD (g : Nat → SV) : Sid := ⟨⟨intOf (g 0), intOf (g 1)⟩, ⟨intOf (g 2), intOf (g 3)⟩, ⟨intOf (g 4), intOf (g 5)⟩, ⟨intOf (g 6), intOf (g 7)⟩, ⟨intOf (g 8), intOf (g 9)⟩⟩
/-- 1024 times the length. -/
def lenD (d : Pt) : Int := isq (1048576 * dotP d d).toNat
theorem sqn (a : Int) : 0 ≤ a * a := by
  rw [← Int.natAbs_mul_self']
  exact Int.mul_nonneg (Int.natCast_nonneg _) (Int.natCast_nonneg _)
theorem isq_ge {a n : Nat} (h : a * a ≤ n) : a ≤ isq n := by
  refine Classical.byContradiction fun hc => ?_
  have h2 := (isq_spec n).2
  have h3 : (isq n + 1) * (isq n + 1) ≤ a * a := Nat.mul_le_mul (by omega) (by omega)
  omega
theorem dot_in {d : Pt} (h : small 65536 d) : 0 ≤ dotP d d ∧ dotP d d ≤ 8589934592 := by
  obtain ⟨h1, h2⟩ := h
  have s1 := Dsh.sq_in h1
  have s2 := Dsh.sq_in h2
  unfold dotP
  omega
/-- No coordinate is longer than the whole. -/
theorem len_ge {d : Pt} {a : Nat} (h : (a : Int) * a ≤ dotP d d) : 1024 * (a : Int) ≤ lenD d := by
  have h0 : (0 : Int) ≤ dotP d d := Int.le_trans (Int.mul_nonneg (Int.natCast_nonneg a) (Int.natCast_nonneg a)) h
  have h1 : 1024 * a * (1024 * a) ≤ (1048576 * dotP d d).toNat := by
    have e : ((1024 * a * (1024 * a) : Nat) : Int) = 1048576 * ((a : Int) * a) := by push_cast; grind
    omega
  have := isq_ge h1
  unfold lenD
  omega
theorem len_x (d : Pt) : -lenD d ≤ 1024 * d.x ∧ 1024 * d.x ≤ lenD d := by
  have h : ((d.x.natAbs : Nat) : Int) * d.x.natAbs ≤ dotP d d := by
    rw [Int.natAbs_mul_self']
    have := sqn d.y
    unfold dotP
    omega
  have := len_ge h
  omega
theorem len_y (d : Pt) : -lenD d ≤ 1024 * d.y ∧ 1024 * d.y ≤ lenD d := by
  have h : ((d.y.natAbs : Nat) : Int) * d.y.natAbs ≤ dotP d d := by
    rw [Int.natAbs_mul_self']
    have := sqn d.x
    unfold dotP
    omega
  have := len_ge h
  omega
theorem len_pos {d : Pt} (h : d.x ≠ 0 ∨ d.y ≠ 0) : 1 ≤ lenD d := by
  have := len_x d
  have := len_y d
  omega
theorem len_le {d : Pt} (h : small 65536 d) : lenD d ≤ 4611686018427387904 := by
  have h1 := Dsh.isq_le (1048576 * dotP d d).toNat
  have h2 := dot_in h
  unfold lenD
  omega
def half (w l x : Int) : Int := nr (512 * w * x) l
structure HfG where
  x : Int
  w : Int
  l : Int
def spHalf : FSpec := mkSpec 121 (γ := HfG) (fun | [.int _ x, .ref _ w, .ref _ l] => some ⟨x, intOf (w 0), intOf (l 0)⟩ | _ => none) (fun g => [.int .i64 g.x, .ref 1 (lst [.int .i64 g.w]), .ref 1 (lst [.int .i64 g.l])])
  (fun g => (-65536 ≤ g.x ∧ g.x ≤ 65536) ∧ (0 ≤ g.w ∧ g.w ≤ 1024) ∧ 1 ≤ g.l ∧ g.l ≤ 4611686018427387904) (fun g => .int .i64 (half g.w g.l g.x))
theorem ok_half : SpecOK Try.prog spHalf := by
  refine spec_sound (specs := [spNear]) (all_ok (⟨ok_near, trivial⟩)) (eqs := []) (fun _ _ h => (List.not_mem_nil h).elim) Aff.mixed Try.func121 rfl (by kernel_rfl) (fun _ _ => by kernel_rfl) (fun g => A0) (fun g => Nat.le_of_ble_eq_true (by kernel_rfl)) ?_
  rintro ⟨x, w, l⟩ ⟨⟨x1, x2⟩, ⟨w1, w2⟩, l1, l2⟩
  simp only at x1 x2 w1 w2 l1 l2
  refine vc_of (B := let z1 := (IntKind.i64 = IntKind.i64);let z0 := (512 : Int);True ∧ True ∧ Sx.Ask ((-9223372036854775808 : Int) ≤ z0 * w ∧ z0 * w ≤ (9223372036854775807 : Int)) ∧ True ∧ Sx.Ask ((-9223372036854775808 : Int) ≤ z0 * w * x ∧ z0 * w * x ≤ (9223372036854775807 : Int)) ∧ True ∧ (((Sx.Ask z1 ∧ Sx.Ask (z0 * w * x = z0 * w * x)) ∧ (Sx.Ask z1 ∧ Sx.Ask (l = l)) ∧ True) ∧ Sx.Ask (((-4611686018427387904 : Int) ≤ z0 * w * x ∧ z0 * w * x ≤ (4611686018427387904 : Int)) ∧ (1 : Int) ≤ l ∧ l ≤ (4611686018427387904 : Int))) ∧ True ∧ True ∧ Sx.Ask z1 ∧ Sx.Ask (nr (z0 * w * x) l = half w l x)) (by kernel_rfl) ?_
  simp only [ask_iff, br_iff, eq_self, true_and, and_true, implies_true, forall_const, decide_eq_true_eq, decide_eq_false_iff_not, ne_eq, Nat.mul_one, Nat.add_zero, Nat.zero_add, Int.toNat_natCast, and_self, false_and, and_false]
  have h1 := Fla.mul_in (a := 512 * w) (x := x) (A := 524288) (X := 65536) ⟨by omega, by omega⟩ ⟨x1, x2⟩
  exact ⟨by omega, by omega, ⟨⟨by omega, by omega⟩, l1, l2⟩, rfl⟩
def mkSid (w : Int) (p q : Pt) : Sid := ⟨p, q, subP q p, ⟨half w (lenD (subP q p)) (0 - (subP q p).y), half w (lenD (subP q p)) (subP q p).x⟩, ⟨half w (lenD (subP q p)) (subP q p).x, half w (lenD (subP q p)) (subP q p).y⟩⟩
structure MsG where
  p : Pt
  q : Pt
  w : Int
def MsG.ok (g : MsG) : Prop := (small 32767 g.p ∧ small 32767 g.q) ∧ (g.p.x ≠ g.q.x ∨ g.p.y ≠ g.q.y) ∧ 0 ≤ g.w ∧ g.w ≤ 1024
def spSide : FSpec := mkSpec 92 (γ := MsG) (fun | [.agg _ p, .agg _ q, .int _ w] => some ⟨ptD p, ptD q, w⟩ | _ => none) (fun g => [ptS g.p, ptS g.q, .int .i64 g.w]) MsG.ok (fun g => sidS (mkSid g.w g.p g.q))
theorem ok_side : SpecOK Try.prog spSide := by
  refine spec_sound (specs := [spMinus, spDot, Dsh.spSqrt, spHalf, spVec]) (all_ok (⟨ok_minus, ok_dot, Dsh.ok_sqrt, ok_half, ok_vec, trivial⟩)) (eqs := []) (fun _ _ h => (List.not_mem_nil h).elim) Aff.mixed Try.func92 rfl (by kernel_rfl) (fun _ _ => by kernel_rfl) (fun g => (⟨[], [(4, [.tmp 9])]⟩ : Ann)) (fun g => Nat.le_of_ble_eq_true (by kernel_rfl)) ?_
  rintro ⟨p, q, w⟩ hg
  refine vc_of (B := let z18 := (65536 : Int);let z17 := (q.y - p.y = q.y - p.y);let z16 := (q.x - p.x = q.x - p.x);let z11 := (0 : Int); let z14 := (z11 ≤ w ∧ w ≤ (1024 : Int));let z9 := (4611686018427387904 : Int);let z7 := (1048576 : Int);let z5 := (q.y - p.y);let z4 := (Int.ofNat (isq (z7 * dotP (subP q p) (subP q p)).toNat));let z2 := (Con.Pt.mk (q.x - p.x) z5);let z1 := (IntKind.i64 = IntKind.i64); let z13 := (True ∧ Sx.Ask z1 ∧ Sx.Ask (w = w)); let z8 := ((True ∧ Sx.Ask z1 ∧ Sx.Ask (p.x = p.x)) ∧ Sx.Ask z1 ∧ Sx.Ask (p.y = p.y)); let z6 := ((True ∧ Sx.Ask z1 ∧ Sx.Ask z16) ∧ Sx.Ask z1 ∧ Sx.Ask z17);let z0 := (↑(isq (z7 * dotP z2 z2).toNat) : Int); let z15 := (half w z0 (q.x - p.x) = half w z4 (q.x - p.x)); let z12 := (Sx.Ask z1 ∧ Sx.Ask (half w z0 (q.x - p.x) = half w z0 (q.x - p.x))); let z10 := (True ∧ Sx.Ask z1 ∧ Sx.Ask (z0 = z0)); let z3 := (((Sx.Ask z1 ∧ Sx.Ask z16) ∧ z13 ∧ z10 ∧ True) ∧ Sx.Ask (((-65536 : Int) ≤ q.x - p.x ∧ q.x - p.x ≤ z18) ∧ z14 ∧ (1 : Int) ≤ z0 ∧ z0 ≤ z9));True ∧ True ∧ True ∧ True ∧ True ∧ True ∧ ((((True ∧ Sx.Ask z1 ∧ Sx.Ask (q.x = q.x)) ∧ Sx.Ask z1 ∧ Sx.Ask (q.y = q.y)) ∧ z8 ∧ True) ∧ Sx.Ask (Fla.small (1073741824 : Int) q ∧ Fla.small (1073741824 : Int) p)) ∧ True ∧ True ∧ True ∧ True ∧ ((z6 ∧ z6 ∧ True) ∧ Sx.Ask (Fla.small z18 z2 ∧ Fla.small z18 z2)) ∧ Sx.Ask ((-9223372036854775808 : Int) ≤ z7 * dotP z2 z2 ∧ z7 * dotP z2 z2 ≤ (9223372036854775807 : Int)) ∧ (((Sx.Ask z1 ∧ Sx.Ask (z7 * dotP z2 z2 = z7 * dotP z2 z2)) ∧ True) ∧ Sx.Ask (z11 ≤ z7 * dotP z2 z2 ∧ z7 * dotP z2 z2 ≤ z9)) ∧ True ∧ True ∧ True ∧ True ∧ True ∧ True ∧ True ∧ True ∧ True ∧ True ∧ True ∧ Sx.Ask ((-9223372036854775808 : Int) ≤ z11 - z5 ∧ z11 - z5 ≤ (9223372036854775807 : Int)) ∧ (((Sx.Ask z1 ∧ Sx.Ask (z11 - z5 = z11 - z5)) ∧ z13 ∧ z10 ∧ True) ∧ Sx.Ask (((-65536 : Int) ≤ z11 - z5 ∧ z11 - z5 ≤ z18) ∧ z14 ∧ (1 : Int) ≤ z0 ∧ z0 ≤ z9)) ∧ True ∧ True ∧ True ∧ True ∧ z3 ∧ (((Sx.Ask z1 ∧ Sx.Ask (half w z0 (z11 - z5) = half w z0 (z11 - z5))) ∧ z12 ∧ True) ∧ Sx.Ask True) ∧ True ∧ True ∧ True ∧ True ∧ z3 ∧ True ∧ True ∧ True ∧ True ∧ (((Sx.Ask z1 ∧ Sx.Ask z17) ∧ z13 ∧ z10 ∧ True) ∧ Sx.Ask (((-65536 : Int) ≤ q.y - p.y ∧ q.y - p.y ≤ z18) ∧ z14 ∧ (1 : Int) ≤ z0 ∧ z0 ≤ z9)) ∧ ((z12 ∧ (Sx.Ask z1 ∧ Sx.Ask (half w z0 z5 = half w z0 z5)) ∧ True) ∧ Sx.Ask True) ∧ True ∧ True ∧ (True ∧ True) ∧ (((((((z8 ∧ Sx.Ask z1 ∧ Sx.Ask (q.x = q.x)) ∧ Sx.Ask z1 ∧ Sx.Ask (q.y = q.y)) ∧ Sx.Ask z1 ∧ Sx.Ask z16) ∧ Sx.Ask z1 ∧ Sx.Ask z17) ∧ Sx.Ask z1 ∧ Sx.Ask (half w z0 (z11 - z5) = half w z4 (z11 - z5))) ∧ Sx.Ask z1 ∧ Sx.Ask z15) ∧ Sx.Ask z1 ∧ Sx.Ask z15) ∧ Sx.Ask z1 ∧ Sx.Ask (half w z0 z5 = half w z4 z5)) (by kernel_rfl) ?_
  simp only [ask_iff, br_iff, eq_self, true_and, and_true, implies_true, forall_const, decide_eq_true_eq, decide_eq_false_iff_not, ne_eq, Nat.mul_one, Nat.add_zero, Nat.zero_add, Int.toNat_natCast, and_self, false_and, and_false]
  obtain ⟨⟨hp, hq⟩, hne, hw⟩ := hg
  simp only at hp hq hne hw
  have hd : small 65536 ⟨q.x - p.x, q.y - p.y⟩ := by
    obtain ⟨⟨a1, a2⟩, a3, a4⟩ := hp
    obtain ⟨⟨b1, b2⟩, b3, b4⟩ := hq
    exact ⟨⟨by show -65536 ≤ q.x - p.x; omega, by show q.x - p.x ≤ 65536; omega⟩, by show -65536 ≤ q.y - p.y; omega, by show q.y - p.y ≤ 65536; omega⟩
  have wide : ∀ {a : Pt}, small 32767 a → small 1073741824 a := fun ⟨⟨a1, a2⟩, a3, a4⟩ => ⟨⟨by omega, by omega⟩, by omega, by omega⟩
  have hdot := dot_in hd
  have l1 := len_pos (d := ⟨q.x - p.x, q.y - p.y⟩) (by show q.x - p.x ≠ 0 ∨ q.y - p.y ≠ 0; omega)
  have l2 := len_le hd
  unfold lenD at l1 l2
  obtain ⟨⟨d1, d2⟩, d3, d4⟩ := id hd
  simp only at d1 d2 d3 d4
  exact ⟨⟨wide hq, wide hp⟩, hd, by omega, by omega, by omega, ⟨by omega, hw, l1, l2⟩, ⟨by omega, hw, l1, l2⟩, ⟨by omega, hw, l1, l2⟩, ⟨by omega, hw, l1, l2⟩, ⟨⟨rfl, rfl⟩, rfl⟩, rfl⟩
/-! cleaned. -/
def gP (L : List Pt) (i : Nat) : Pt := L.getD i ⟨0, 0⟩
def lastP (L : List Pt) : Pt := gP L (L.length - 1)
def eqPt (a b : Pt) : Prop := a.x = b.x ∧ a.y = b.y
instance (a b : Pt) : Decidable (eqPt a b) := by unfold eqPt; infer_instance
/-- Without points that are like those ahead of them. -/
def dd (f : Nat → Pt) : Nat → List Pt
  | 0 => []
  | k + 1 => if (dd f k).length = 0 ∨ ¬ eqPt (lastP (dd f k)) (f k) then dd f k ++ [f k] else dd f k
def trm : Nat → List Pt → List Pt
  | 0, L => L
  | n + 1, L => if 1 < L.length ∧ eqPt (gP L 0) (lastP L) then trm n L.dropLast else L
def clean (l : Li) : List Pt := if l.c = true then trm (dd l.f l.n).length (dd l.f l.n) else dd l.f l.n
theorem dd_len (f : Nat → Pt) : ∀ k, (dd f k).length ≤ k
  | 0 => Nat.le_refl _
  | k + 1 => by
    have := dd_len f k
    show (if _ then dd f k ++ [f k] else dd f k).length ≤ k + 1
    split
    · rw [List.length_append]; show _ + 1 ≤ _; omega
    · omega
theorem gP_app (L : List Pt) (r : Pt) {i : Nat} (h : i < L.length + 1) : gP (L ++ [r]) i = if i < L.length then gP L i else r := by
  unfold gP
  by_cases hi : i < L.length
  · rw [if_pos hi, List.getD_eq_getElem?_getD, List.getElem?_append_left hi, List.getD_eq_getElem?_getD]
  · rw [if_neg hi, show i = L.length by omega]
    simp
theorem gP_drop (L : List Pt) {i : Nat} (h : i < L.length - 1) : gP L.dropLast i = gP L i := by
  unfold gP
  rw [List.getD_eq_getElem?_getD, List.getD_eq_getElem?_getD, List.getElem?_dropLast, if_pos h]
theorem appV {L M : List Pt} {r : Pt} (hM : M = L ++ [r]) : ∀ i, i < M.length → (bif decide (i < L.length) then (gP L i).x else r.x) = (gP M i).x ∧ (bif decide (i < L.length) then (gP L i).y else r.y) = (gP M i).y := fun i hi => by
  subst hM
  rw [gP_app L r (by simpa using hi)]
  by_cases h : i < L.length
  · rw [decide_eq_true h, if_pos h]; exact ⟨rfl, rfl⟩
  · rw [decide_eq_false h, if_neg h]; exact ⟨rfl, rfl⟩
abbrev eqV : List (TypeId × List CK) := [(131, [.int, .int])]
theorem eqV_ok : AllEq Try.prog eqV := ⟨eqOK_of (m := 2) (by kernel_rfl) (by kernel_rfl) rfl (by decide) (by kernel_rfl), trivial⟩
def vecS (L : List Pt) : SV := .sl L.length 2 (fun i => lst (ptL (gP L i)))
def vRow (L : List Pt) : SO := .row 0 L.length 2 (fun i => lst (ptL (gP L i))) 131
def liS (l : Li) : SV := .agg 2 (lst (liL l))
def cnA (l : Li) : Inv := ⟨Nat, fun k => k ≤ l.n, fun k => ⟨[(1, .own 0 0), (3, .osl 1 0), (8, .sl l.n 2 (fun i => lst (ptL (l.f i)))), (9, .int .i64 l.n), (10, .int .i64 k)], [.cells 2 (lst (liL l)) 36, vRow (dd l.f k)]⟩, fun k => l.n - k⟩
structure TrG where
  L : List Pt
  n : Nat
def cnB (l : Li) : Inv := ⟨TrG, fun g => g.L.length ≤ l.n ∧ g.L.length ≤ g.n ∧ (l.c = true → trm g.n g.L = clean l) ∧ (l.c = false → g.L = clean l), fun g => ⟨[(1, .own 0 0), (3, .osl 1 0)], [.cells 2 (lst (liL l)) 36, vRow g.L]⟩, fun g => g.n⟩
def spClean : FSpec := mkSpec 90 (γ := Li) (fun | [.agg _ g] => some (liD g) | _ => none) (fun l => [liS l]) (fun l => l.n ≤ 1048576) (fun l => vecS (clean l))
theorem ok_clean : SpecOK Try.prog spClean := by
  refine spec_sound (specs := []) (all_ok trivial) (eqs := eqV) (all_eq eqV_ok) Aff.mixed Try.func90 rfl (by kernel_rfl) (fun _ _ => by kernel_rfl) (fun g => (⟨[(3, .inv (cnA g)), (9, .inv (cnB g))], [(2, [.own 3 131 2]), (1000010, [.shrink 3])]⟩ : Ann)) (fun g => Nat.le_of_ble_eq_true (by kernel_rfl)) ?_
  rintro l hl
  refine vc_of (B := let z17 := (9223372036854775807 : Int);let z16 := (-9223372036854775808 : Int);let z14 := (clean l);let z13 := (0 : Int);let z10 := ((0 : Nat) = (0 : Nat));let z7 := (1 : Int);let z1 := (IntKind.i64 = IntKind.i64); let z6 := (Sx.Ask z1 ∧ Sx.Ask ((↑l.n : Int) = (↑l.n : Int))); let z2 := (Sx.Ask (l.n = l.n) ∧ ∀ (i : Nat), i < l.n → (True ∧ Sx.Ask z1 ∧ Sx.Ask ((l.f i).x = (l.f i).x)) ∧ Sx.Ask z1 ∧ Sx.Ask ((l.f i).y = (l.f i).y));let z0 := ((True ∧ Sx.Ask (l.n = l.n) ∧ ∀ (i : Nat), i < l.n → (True ∧ Sx.Ask z1 ∧ Sx.Ask ((l.f i).x = (l.f i).x)) ∧ Sx.Ask z1 ∧ Sx.Ask ((l.f i).y = (l.f i).y)) ∧ Sx.Ask (l.c = l.c));True ∧ True ∧ True ∧ True ∧ True ∧ True ∧ True ∧ (∃ (g : Nat), Sx.Ask ((cnA l).pre g) ∧ (Sx.Ask z10 ∧ True ∧ z2 ∧ z6 ∧ (Sx.Ask z1 ∧ Sx.Ask (z13 = (↑g : Int))) ∧ True) ∧ z0 ∧ (Sx.Ask ((0 : Nat) = (dd l.f g).length) ∧ ∀ (i : Nat), i < (dd l.f g).length → (True ∧ False) ∧ False) ∧ True) ∧ ∀ (g : Nat), let z15 := (↑g : Int); let z11 := (l.f z15.toNat); let z5 := (dd l.f g); let z9 := (↑z5.length : Int); let z8 := (z5.length + (1 : Nat) ≤ (9223372036854775807 : Nat) ∧ (z5.length + (1 : Nat)) * (16 : Nat) ≤ (140737488355328 : Nat)); let z4 := (z16 ≤ z15 + z7 ∧ z15 + z7 ≤ z17); (cnA l).pre g → True ∧ Sx.Br (decide (z15 < (↑l.n : Int))) (Sx.Ask (z13 ≤ z15 ∧ z15 < (↑l.n : Int)) ∧ True ∧ True ∧ True ∧ True ∧ True ∧ True ∧ True ∧ True ∧ True ∧ True ∧ True ∧ Sx.Br (decide (z9 = z13)) (True ∧ True ∧ True ∧ True ∧ Sx.Ask z8 ∧ True ∧ Sx.Ask z4 ∧ True ∧ ∃ (g' : Nat), Sx.Ask ((cnA l).pre g') ∧ ((Sx.Ask z10 ∧ True ∧ z2 ∧ z6 ∧ (Sx.Ask z1 ∧ Sx.Ask (z15 + z7 = (↑g' : Int))) ∧ True) ∧ z0 ∧ (Sx.Ask (z5.length + (1 : Nat) = (dd l.f g').length) ∧ ∀ (i : Nat), i < (dd l.f g').length → (True ∧ Sx.Ask z1 ∧ Sx.Ask ((bif decide (i < z5.length) then (gP z5 i).x else z11.x) = (gP (dd l.f g') i).x)) ∧ Sx.Ask z1 ∧ Sx.Ask ((bif decide (i < z5.length) then (gP z5 i).y else z11.y) = (gP (dd l.f g') i).y)) ∧ True) ∧ Sx.Ask ((cnA l).meas g' < (cnA l).meas g)) (True ∧ True ∧ True ∧ Sx.Ask (z16 ≤ z9 - z7 ∧ z9 - z7 ≤ z17) ∧ Sx.Ask (z13 ≤ z9 - z7 ∧ z9 - z7 < z9) ∧ Sx.Ask ((z9 - z7).toNat < z5.length) ∧ True ∧ True ∧ True ∧ Sx.Br (!(decide ((gP z5 (z9 - z7).toNat).x = z11.x) && (decide ((gP z5 (z9 - z7).toNat).y = z11.y) && true))) (True ∧ True ∧ True ∧ Sx.Ask z8 ∧ True ∧ Sx.Ask z4 ∧ True ∧ ∃ (g' : Nat), Sx.Ask ((cnA l).pre g') ∧ ((Sx.Ask z10 ∧ True ∧ z2 ∧ z6 ∧ (Sx.Ask z1 ∧ Sx.Ask (z15 + z7 = (↑g' : Int))) ∧ True) ∧ z0 ∧ (Sx.Ask (z5.length + (1 : Nat) = (dd l.f g').length) ∧ ∀ (i : Nat), i < (dd l.f g').length → (True ∧ Sx.Ask z1 ∧ Sx.Ask ((bif decide (i < z5.length) then (gP z5 i).x else z11.x) = (gP (dd l.f g') i).x)) ∧ Sx.Ask z1 ∧ Sx.Ask ((bif decide (i < z5.length) then (gP z5 i).y else z11.y) = (gP (dd l.f g') i).y)) ∧ True) ∧ Sx.Ask ((cnA l).meas g' < (cnA l).meas g)) (Sx.Ask z4 ∧ True ∧ ∃ (g' : Nat), Sx.Ask ((cnA l).pre g') ∧ ((Sx.Ask z10 ∧ True ∧ z2 ∧ z6 ∧ (Sx.Ask z1 ∧ Sx.Ask (z15 + z7 = (↑g' : Int))) ∧ True) ∧ z0 ∧ (Sx.Ask (z5.length = (dd l.f g').length) ∧ ∀ (i : Nat), i < (dd l.f g').length → (True ∧ Sx.Ask z1 ∧ Sx.Ask ((gP z5 i).x = (gP (dd l.f g') i).x)) ∧ Sx.Ask z1 ∧ Sx.Ask ((gP z5 i).y = (gP (dd l.f g') i).y)) ∧ True) ∧ Sx.Ask ((cnA l).meas g' < (cnA l).meas g)))) ((∃ (g_1 : TrG), Sx.Ask ((cnB l).pre g_1) ∧ (Sx.Ask z10 ∧ True ∧ True) ∧ z0 ∧ (Sx.Ask (z5.length = g_1.L.length) ∧ ∀ (i : Nat), i < g_1.L.length → (True ∧ Sx.Ask z1 ∧ Sx.Ask ((gP z5 i).x = (gP g_1.L i).x)) ∧ Sx.Ask z1 ∧ Sx.Ask ((gP z5 i).y = (gP g_1.L i).y)) ∧ True) ∧ ∀ (g : TrG), let z18 := (g.L.length = z14.length); let z3 := (↑g.L.length : Int); let z12 := (z16 ≤ z3 - z7 ∧ z3 - z7 ≤ z17); (cnB l).pre g → True ∧ True ∧ True ∧ Sx.Br l.c (True ∧ True ∧ True ∧ True ∧ True ∧ Sx.Br (decide (z7 < z3)) (True ∧ Sx.Ask (z13 ≤ z13 ∧ z13 < z3) ∧ Sx.Ask (Int.toNat z13 < g.L.length) ∧ True ∧ True ∧ True ∧ Sx.Ask z12 ∧ Sx.Ask (z13 ≤ z3 - z7 ∧ z3 - z7 < z3) ∧ Sx.Ask ((z3 - z7).toNat < g.L.length) ∧ True ∧ True ∧ Sx.Br (decide ((gP g.L (Int.toNat z13)).x = (gP g.L (z3 - z7).toNat).x) && (decide ((gP g.L (Int.toNat z13)).y = (gP g.L (z3 - z7).toNat).y) && true)) (True ∧ True ∧ True ∧ Sx.Ask z12 ∧ Sx.Ask (z13 ≤ Int.ofNat (0 : Nat) ∧ Int.ofNat (0 : Nat) ≤ z3 - z7 ∧ z3 - z7 ≤ Int.ofNat g.L.length ∧ Int.ofNat g.L.length ≤ z3) ∧ True ∧ ∃ (g' : TrG), Sx.Ask ((cnB l).pre g') ∧ ((Sx.Ask z10 ∧ True ∧ True) ∧ z0 ∧ (Sx.Ask ((z3 - z7 - Int.ofNat (0 : Nat)).toNat = g'.L.length) ∧ ∀ (i : Nat), i < g'.L.length → (True ∧ Sx.Ask z1 ∧ Sx.Ask ((gP g.L i).x = (gP g'.L i).x)) ∧ Sx.Ask z1 ∧ Sx.Ask ((gP g.L i).y = (gP g'.L i).y)) ∧ True) ∧ Sx.Ask ((cnB l).meas g' < (cnB l).meas g)) (True ∧ True ∧ True ∧ Sx.Ask z18 ∧ ∀ (i : Nat), i < z14.length → (True ∧ Sx.Ask z1 ∧ Sx.Ask ((gP g.L i).x = (gP z14 i).x)) ∧ Sx.Ask z1 ∧ Sx.Ask ((gP g.L i).y = (gP z14 i).y))) (True ∧ True ∧ True ∧ True ∧ Sx.Ask z18 ∧ ∀ (i : Nat), i < z14.length → (True ∧ Sx.Ask z1 ∧ Sx.Ask ((gP g.L i).x = (gP z14 i).x)) ∧ Sx.Ask z1 ∧ Sx.Ask ((gP g.L i).y = (gP z14 i).y))) (True ∧ True ∧ True ∧ True ∧ True ∧ True ∧ Sx.Ask z18 ∧ ∀ (i : Nat), i < z14.length → (True ∧ Sx.Ask z1 ∧ Sx.Ask ((gP g.L i).x = (gP z14 i).x)) ∧ Sx.Ask z1 ∧ Sx.Ask ((gP g.L i).y = (gP z14 i).y)))) (by kernel_rfl) ?_
  simp only [ask_iff, br_iff, eq_self, true_and, and_true, implies_true, forall_const, decide_eq_true_eq, decide_eq_false_iff_not, ne_eq, Nat.mul_one, Nat.add_zero, Nat.zero_add, Int.toNat_natCast, and_self, false_and, and_false]
  have hl : l.n ≤ 1048576 := hl
  refine ⟨⟨0, Nat.zero_le _, rfl, rfl, fun i hi => absurd hi (Nat.not_lt_zero _)⟩, fun k hk => ⟨fun hlt => ?_, fun hge => ?_⟩⟩
  · have hk : k ≤ l.n := hk
    have hlen := dd_len l.f k
    have hpre : (cnA l).pre (k + 1) := by show k + 1 ≤ l.n; omega
    have hmeas : (cnA l).meas (k + 1) < (cnA l).meas k := by show l.n - (k + 1) < l.n - k; omega
    have ez : (((dd l.f k).length : Int) - 1).toNat = (dd l.f k).length - 1 := by omega
    rw [ez]
    refine ⟨by omega, fun hz => ?_, fun hz => ⟨by omega, by omega, by omega, fun hne => ?_, fun heq => ?_⟩⟩
    · have hM : dd l.f (k + 1) = dd l.f k ++ [l.f k] := if_pos (.inl (by omega))
      exact ⟨by omega, by omega, k + 1, hpre, ⟨rfl, by rw [hM]; simp, appV hM⟩, hmeas⟩
    · have hM : dd l.f (k + 1) = dd l.f k ++ [l.f k] := if_pos (.inr fun hc => by
        have h1 : (gP (dd l.f k) ((dd l.f k).length - 1)).x = (l.f k).x := hc.1
        have h2 : (gP (dd l.f k) ((dd l.f k).length - 1)).y = (l.f k).y := hc.2
        simp [h1, h2] at hne)
      exact ⟨by omega, by omega, k + 1, hpre, ⟨rfl, by rw [hM]; simp, appV hM⟩, hmeas⟩
    · have hM : dd l.f (k + 1) = dd l.f k := if_neg fun hc => by
        rcases hc with hc | hc
        · omega
        · simp only [Bool.and_true, Bool.not_eq_false', Bool.and_eq_true, decide_eq_true_eq] at heq
          exact hc heq
      exact ⟨by omega, k + 1, hpre, ⟨rfl, by rw [hM], fun i _ => by rw [hM]; exact ⟨rfl, rfl⟩⟩, hmeas⟩
  · have hk : k ≤ l.n := hk
    obtain rfl : k = l.n := by omega
    have hlen := dd_len l.f l.n
    refine ⟨⟨⟨dd l.f l.n, (dd l.f l.n).length⟩, ⟨hlen, Nat.le_refl _, fun h => (if_pos h).symm, fun h => (if_neg (by rw [h]; decide)).symm⟩, rfl, fun i _ => ⟨rfl, rfl⟩⟩, fun g hg => ?_⟩
    obtain ⟨L, n⟩ := g
    obtain ⟨b1, b2, b3, b4⟩ : L.length ≤ l.n ∧ L.length ≤ n ∧ (l.c = true → trm n L = clean l) ∧ (l.c = false → L = clean l) := hg
    simp only [Int.ofNat_eq_natCast]
    have same : L = clean l → L.length = (clean l).length ∧ ∀ i, i < (clean l).length → (gP L i).x = (gP (clean l) i).x ∧ (gP L i).y = (gP (clean l) i).y := fun e => by rw [e]; exact ⟨rfl, fun _ _ => ⟨rfl, rfl⟩⟩
    refine ⟨fun hc => ⟨fun h1 => ?_, fun h1 => same ?_⟩, fun hc => same (b4 hc)⟩
    · have ez : ((L.length : Int) - 1).toNat = L.length - 1 := by omega
      have ez2 : ((L.length : Int) - 1 - ((0 : Nat) : Int)).toNat = L.length - 1 := by omega
      rw [ez, ez2]
      obtain ⟨n, rfl⟩ : ∃ m, n = m + 1 := ⟨n - 1, by omega⟩
      have b3 := b3 hc
      have e3 : trm (n + 1) L = if 1 < L.length ∧ eqPt (gP L 0) (lastP L) then trm n L.dropLast else L := rfl
      have hl1 : 1 < L.length := by omega
      have hdl : L.dropLast.length = L.length - 1 := List.length_dropLast
      refine ⟨by omega, by show 0 < L.length; omega, by omega, by omega, by omega, fun he => ⟨by omega, by omega, ⟨L.dropLast, n⟩, ⟨?_, ?_, fun _ => ?_, fun h => by rw [hc] at h; cases h⟩, ⟨hdl.symm, fun i hi => ?_⟩, Nat.lt_succ_self n⟩, fun he => same ?_⟩
      · show L.dropLast.length ≤ l.n
        omega
      · show L.dropLast.length ≤ n
        omega
      · simp only [Bool.and_true, Bool.and_eq_true, decide_eq_true_eq] at he
        rw [e3, if_pos ⟨hl1, he⟩] at b3
        exact b3
      · have hi : i < L.dropLast.length := hi
        show (gP L i).x = (gP L.dropLast i).x ∧ (gP L i).y = (gP L.dropLast i).y
        rw [gP_drop L (by omega)]
        exact ⟨rfl, rfl⟩
      · rw [e3, if_neg fun hcc => ?_] at b3
        · exact b3
        · have h1 : (gP L 0).x = (gP L (L.length - 1)).x := hcc.2.1
          have h2 : (gP L 0).y = (gP L (L.length - 1)).y := hcc.2.2
          simp [h1, h2] at he
    · have b3 := b3 hc
      rw [← b3]
      have h1 : ¬ 1 < L.length := by
        have h1 : ¬ (1 : Int) < (L.length : Int) := h1
        omega
      cases n with
      | zero => rfl
      | succ n => exact (if_neg fun hcc => h1 hcc.1).symm
end Go.Proofs.Ytfjbjbmbdadmhaa.Sta
