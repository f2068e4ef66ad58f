/- Package conic, by the evaluation: abs, near, at, flat, division. -/
import Derived.Test.YtfjbjbmbdadmhaaSxz
import Derived.Test.YtfjbjbmbdadmhaaAff
set_option linter.unusedSimpArgs false
set_option linter.unusedVariables false
namespace Go.Proofs.Ytfjbjbmbdadmhaa.Con
open Go.RowKit Sx Num Aff
set_option maxRecDepth 100000
/-! abs, also of the least number. -/
def absI (x : Int) : Int := if x < wrap64 (-x) then wrap64 (-x) else x
def aI (x : Int) : Int := if x < 0 then -x else x
theorem absI_le {x : Int} (h : -4611686018427387904 < x) : absI x ≤ 32767 ↔ -32767 ≤ x ∧ x ≤ 32767 := by
  unfold absI wrap64
  omega
theorem abs_calls (x : Int) (w : World) : Calls Try.prog 106 #[.int .i64 x] w fun e w' => e = .returned (.int .i64 (absI x)) ∧ w = w' := by
  go_enter Try.func106, Try.ntmps106
  go_wp2
  · go_ret
    have e : absI x = wrap64 (-x) := if_pos h
    exact ⟨ret_int e.symm, rfl⟩
  · go_ret
    have e : absI x = x := if_neg (Int.not_lt.2 h)
    exact ⟨ret_int e.symm, rfl⟩
structure Pt where
  x : Int
  y : Int
def ptL (p : Pt) : List SV := [.int .i64 p.x, .int .i64 p.y]
def ptS (p : Pt) : SV := .agg 2 (lst (ptL p))
def ptD (g : Nat → SV) : Pt := ⟨intOf (g 0), intOf (g 1)⟩
def spAbs : FSpec := mkSpec 106 (γ := Int) (fun | [.int _ x] => some x | _ => none) (fun x => [.int .i64 x]) (fun x => -4611686018427387904 ≤ x ∧ x ≤ 4611686018427387904) (fun x => .int .i64 (aI x))
theorem ok_abs : SpecOK Try.prog spAbs := by
  refine spec_sound (specs := []) (all_ok trivial) (eqs := []) (fun _ _ h => (List.not_mem_nil h).elim) Aff.mixed Try.func106 rfl (by kernel_rfl) (fun _ _ => by kernel_rfl) (fun g => A0) (fun g => Nat.le_of_ble_eq_true (by kernel_rfl)) ?_
  rintro x ⟨h1, h2⟩
  refine vc_of (B := True ∧ True ∧ True ∧ Sx.Ask ((-9223372036854775808 : Int) ≤ (0 : Int) - x ∧ (0 : Int) - x ≤ (9223372036854775807 : Int)) ∧ True ∧ True ∧ True ∧ Sx.Ask (IntKind.i64 = IntKind.i64) ∧ Sx.Ask ((if (0 : Int) - x > x then (0 : Int) - x else x) = aI x)) (by kernel_rfl) ?_
  simp only [ask_iff, br_iff, eq_self, true_and, and_true, implies_true, forall_const, decide_eq_true_eq, decide_eq_false_iff_not, ne_eq, Nat.mul_one, Nat.add_zero, Nat.zero_add]
  unfold aI
  omega
/-! near. -/
structure NrG where
  a : Pt
  m : Pt
  b : Pt
def Pt.in (p : Pt) (n : Int) : Prop := (-n ≤ p.x ∧ p.x ≤ n) ∧ -n ≤ p.y ∧ p.y ≤ n
def nearP (g : NrG) : Prop := ((min g.a.x g.b.x - 1 ≤ g.m.x ∧ g.m.x ≤ max g.a.x g.b.x + 1) ∧ min g.a.y g.b.y - 1 ≤ g.m.y ∧ g.m.y ≤ max g.a.y g.b.y + 1) ∧
  aI ((g.b.x - g.a.x) * (g.m.y - g.a.y) - (g.b.y - g.a.y) * (g.m.x - g.a.x)) ≤ max (max (aI (g.b.x - g.a.x)) (aI (g.b.y - g.a.y))) 1
instance (g : NrG) : Decidable (nearP g) := by unfold nearP; infer_instance
def spNearC : FSpec := mkSpec 107 (γ := NrG) (fun | [.agg _ a, .agg _ m, .agg _ b] => some ⟨ptD a, ptD m, ptD b⟩ | _ => none) (fun g => [ptS g.a, ptS g.m, ptS g.b]) (fun g => g.a.in 32768 ∧ g.m.in 32768 ∧ g.b.in 32768) (fun g => .bool (decide (nearP g)))
theorem ok_nearC : SpecOK Try.prog spNearC := by
  refine spec_sound (specs := [spAbs]) (all_ok (⟨ok_abs, trivial⟩)) (eqs := []) (fun _ _ h => (List.not_mem_nil h).elim) Aff.mixed Try.func107 rfl (by kernel_rfl) (fun _ _ => by kernel_rfl) (fun g => A0) (fun g => Nat.le_of_ble_eq_true (by kernel_rfl)) ?_
  rintro ⟨⟨ax, ay⟩, ⟨mx, my⟩, ⟨bx, by_⟩⟩ ⟨⟨⟨a1, a2⟩, a3, a4⟩, ⟨⟨m1, m2⟩, m3, m4⟩, ⟨b1, b2⟩, b3, b4⟩
  simp only at a1 a2 a3 a4 m1 m2 m3 m4 b1 b2 b3 b4
  refine vc_of (B := let z15 := (mx - ax);let z14 := (my - ay);let z12 := (4611686018427387904 : Int);let z11 := (IntKind.i64 = IntKind.i64);let z10 := (-4611686018427387904 : Int);let z9 := (if bx > ax then bx else ax);let z8 := (if bx < ax then bx else ax);let z7 := (if by_ > ay then by_ else ay);let z6 := (if by_ < ay then by_ else ay);let z5 := (bx - ax);let z4 := (1 : Int);let z3 := (by_ - ay);let z2 := (nearP (NrG.mk (Pt.mk ax ay) (Pt.mk mx my) (Pt.mk bx by_))); let z13 := (false = decide z2);let z1 := (9223372036854775807 : Int);let z0 := (-9223372036854775808 : Int);True ∧ True ∧ True ∧ True ∧ True ∧ True ∧ True ∧ True ∧ True ∧ True ∧ True ∧ Sx.Ask (z0 ≤ z8 - z4 ∧ z8 - z4 ≤ z1) ∧ True ∧ True ∧ Sx.Br (decide (mx < z8 - z4)) (True ∧ True ∧ True ∧ True ∧ True ∧ True ∧ True ∧ Sx.Ask z13) (True ∧ True ∧ True ∧ True ∧ True ∧ True ∧ True ∧ Sx.Ask (z0 ≤ z9 + z4 ∧ z9 + z4 ≤ z1) ∧ True ∧ True ∧ True ∧ Sx.Br (decide (z9 + z4 < mx)) (True ∧ True ∧ True ∧ True ∧ True ∧ Sx.Ask z13) (True ∧ True ∧ True ∧ True ∧ True ∧ True ∧ True ∧ Sx.Ask (z0 ≤ z6 - z4 ∧ z6 - z4 ≤ z1) ∧ True ∧ True ∧ True ∧ Sx.Br (decide (my < z6 - z4)) (True ∧ True ∧ True ∧ Sx.Ask z13) (True ∧ True ∧ True ∧ True ∧ True ∧ True ∧ True ∧ Sx.Ask (z0 ≤ z7 + z4 ∧ z7 + z4 ≤ z1) ∧ True ∧ True ∧ Sx.Br (decide (z7 + z4 < my)) (True ∧ True ∧ Sx.Ask z13) (True ∧ True ∧ True ∧ True ∧ Sx.Ask (z0 ≤ bx - ax ∧ bx - ax ≤ z1) ∧ True ∧ True ∧ True ∧ True ∧ Sx.Ask (z0 ≤ by_ - ay ∧ by_ - ay ≤ z1) ∧ True ∧ True ∧ True ∧ True ∧ True ∧ True ∧ True ∧ Sx.Ask (z0 ≤ my - ay ∧ my - ay ≤ z1) ∧ Sx.Ask (z0 ≤ z5 * z14 ∧ z5 * z14 ≤ z1) ∧ True ∧ True ∧ True ∧ True ∧ True ∧ Sx.Ask (z0 ≤ mx - ax ∧ mx - ax ≤ z1) ∧ Sx.Ask (z0 ≤ z3 * z15 ∧ z3 * z15 ≤ z1) ∧ Sx.Ask (z0 ≤ z5 * z14 - z3 * z15 ∧ z5 * z14 - z3 * z15 ≤ z1) ∧ (((Sx.Ask z11 ∧ Sx.Ask (z5 * z14 - z3 * z15 = z5 * z14 - z3 * z15)) ∧ True) ∧ Sx.Ask (z10 ≤ z5 * z14 - z3 * z15 ∧ z5 * z14 - z3 * z15 ≤ z12)) ∧ True ∧ (((Sx.Ask z11 ∧ Sx.Ask (bx - ax = bx - ax)) ∧ True) ∧ Sx.Ask (z10 ≤ bx - ax ∧ bx - ax ≤ z12)) ∧ True ∧ (((Sx.Ask z11 ∧ Sx.Ask (by_ - ay = by_ - ay)) ∧ True) ∧ Sx.Ask (z10 ≤ by_ - ay ∧ by_ - ay ≤ z12)) ∧ True ∧ True ∧ True ∧ True ∧ Sx.Ask (decide (aI (z5 * z14 - z3 * z15) ≤ if z4 > if aI z3 > aI z5 then aI z3 else aI z5 then z4 else if aI z3 > aI z5 then aI z3 else aI z5) = decide z2)))))) (by kernel_rfl) ?_
  simp only [ask_iff, br_iff, eq_self, true_and, and_true, implies_true, forall_const, decide_eq_true_eq, decide_eq_false_iff_not, ne_eq, Nat.mul_one, Nat.add_zero, Nat.zero_add]
  have d1 := mul_in (a := bx - ax) (x := my - ay) (A := 65536) (X := 65536) (by omega) (by omega)
  have d2 := mul_in (a := by_ - ay) (x := mx - ax) (A := 65536) (X := 65536) (by omega) (by omega)
  have no : ∀ {g : NrG}, ¬ nearP g → false = decide (nearP g) := fun h => (decide_eq_false h).symm
  refine ⟨by omega, fun h => no fun hc => ?_, fun h => ⟨by omega, fun h => no fun hc => ?_, fun h => ⟨by omega, fun h => no fun hc => ?_, fun h => ⟨by omega, fun h => no fun hc => ?_, fun h => ⟨by omega, by omega, by omega, by omega, by omega, by omega, by omega, by omega, by omega, by omega, ?_⟩⟩⟩⟩⟩
  · unfold nearP at hc
    simp only at hc
    omega
  · unfold nearP at hc
    simp only at hc
    omega
  · unfold nearP at hc
    simp only at hc
    omega
  · unfold nearP at hc
    simp only at hc
    omega
  · refine decide_eq_decide.2 ?_
    unfold nearP
    simp only
    generalize aI (bx - ax) = A
    generalize aI (by_ - ay) = B
    generalize aI ((bx - ax) * (my - ay) - (by_ - ay) * (mx - ax)) = C
    omega
/-! at. -/
structure Cur where
  x0 : Int
  y0 : Int
  x1 : Int
  y1 : Int
  x2 : Int
  y2 : Int
  w : Int
def curL (c : Cur) : List SV := [.int .i64 c.x0, .int .i64 c.y0, .int .i64 c.x1, .int .i64 c.y1, .int .i64 c.x2, .int .i64 c.y2, .int .i64 c.w]
def curS (c : Cur) : SV := .agg 7 (lst (curL c))
def curD (g : Nat → SV) : Cur := ⟨intOf (g 0), intOf (g 1), intOf (g 2), intOf (g 3), intOf (g 4), intOf (g 5), intOf (g 6)⟩
def inC (x : Int) : Prop := -32767 ≤ x ∧ x ≤ 32767
def Cur.ok (c : Cur) : Prop := ((inC c.x0 ∧ inC c.y0) ∧ inC c.x1 ∧ inC c.y1) ∧ (inC c.x2 ∧ inC c.y2) ∧ 16 ≤ c.w ∧ c.w ≤ 4096
def sumC (w k n : Int) : Int := 256 * (n - k) * (n - k) + 2 * k * (n - k) * w + 256 * k * k
def atC (x0 x1 x2 w k n : Int) : Int := nr (256 * (n - k) * (n - k) * x0 + 2 * k * (n - k) * w * x1 + 256 * k * k * x2) (sumC w k n)
def Cur.at (c : Cur) (k n : Int) : Pt := ⟨atC c.x0 c.x1 c.x2 c.w k n, atC c.y0 c.y1 c.y2 c.w k n⟩
structure AtG where
  c : Cur
  k : Int
  n : Int
def AtG.ok (g : AtG) : Prop := g.c.ok ∧ (0 ≤ g.k ∧ g.k ≤ g.n) ∧ 1 ≤ g.n ∧ g.n ≤ 1024
def spAt : FSpec := mkSpec 63 (γ := AtG) (fun | [.agg _ c, .int _ k, .int _ n] => some ⟨curD c, k, n⟩ | _ => none) (fun g => [curS g.c, .int .i64 g.k, .int .i64 g.n]) AtG.ok (fun g => ptS (g.c.at g.k g.n))
theorem one_le {x : Int} (h : 1 ≤ x) : 1 ≤ x * x := by
  have := Int.mul_le_mul h h (by omega) (by omega)
  rwa [Int.one_mul] at this
theorem parts_in {w k n : Int} (hw : 16 ≤ w ∧ w ≤ 4096) (hk : 0 ≤ k ∧ k ≤ n) (hn : 1 ≤ n ∧ n ≤ 1024) :
    (0 ≤ 256 * (n - k) * (n - k) ∧ 256 * (n - k) * (n - k) ≤ 268435456) ∧ (0 ≤ 2 * k * (n - k) ∧ 2 * k * (n - k) ≤ 2097152) ∧ (0 ≤ 2 * k * (n - k) * w ∧ 2 * k * (n - k) * w ≤ 8589934592) ∧ (0 ≤ 256 * k * k ∧ 256 * k * k ≤ 268435456) ∧ 1 ≤ sumC w k n := by
  have p1 : 0 ≤ 256 * (n - k) * (n - k) ∧ 256 * (n - k) * (n - k) ≤ 262144 * 1024 := ⟨Int.mul_nonneg (by omega) (by omega), Int.mul_le_mul (by omega) (by omega) (by omega) (by omega)⟩
  have p2 : 0 ≤ 2 * k * (n - k) ∧ 2 * k * (n - k) ≤ 2048 * 1024 := ⟨Int.mul_nonneg (by omega) (by omega), Int.mul_le_mul (by omega) (by omega) (by omega) (by omega)⟩
  have p3 : 0 ≤ 2 * k * (n - k) * w ∧ 2 * k * (n - k) * w ≤ 2097152 * 4096 := ⟨Int.mul_nonneg p2.1 (by omega), Int.mul_le_mul (by omega) hw.2 (by omega) (by omega)⟩
  have p4 : 0 ≤ 256 * k * k ∧ 256 * k * k ≤ 262144 * 1024 := ⟨Int.mul_nonneg (by omega) (by omega), Int.mul_le_mul (by omega) (by omega) (by omega) (by omega)⟩
  refine ⟨by omega, by omega, by omega, by omega, ?_⟩
  unfold sumC
  by_cases h : k = 0
  · have : 256 * 1 ≤ 256 * (n - k) * (n - k) := by rw [Int.mul_assoc]; exact Int.mul_le_mul_of_nonneg_left (one_le (by omega)) (by omega)
    omega
  · have : 256 * 1 ≤ 256 * k * k := by rw [Int.mul_assoc]; exact Int.mul_le_mul_of_nonneg_left (one_le (by omega)) (by omega)
    omega
theorem nr_between {x b lo hi : Int} (hb : 1 ≤ b) (h1 : lo * b ≤ x) (h2 : x ≤ hi * b) : lo ≤ nr x b ∧ nr x b ≤ hi := by
  have hs := nr_spec x b hb
  generalize nr x b = m at *
  constructor
  · refine Int.not_lt.1 fun hc => ?_
    have : (m + 1) * b ≤ lo * b := Int.mul_le_mul_of_nonneg_right (by omega) (by omega)
    rw [Int.add_mul] at this
    omega
  · refine Int.not_lt.1 fun hc => ?_
    have : (hi + 1) * b ≤ m * b := Int.mul_le_mul_of_nonneg_right (by omega) (by omega)
    rw [Int.add_mul] at this
    omega
theorem atC_between {x0 x1 x2 w k n lo hi : Int} (hw : 16 ≤ w ∧ w ≤ 4096) (hk : 0 ≤ k ∧ k ≤ n) (hn : 1 ≤ n ∧ n ≤ 1024) (h0 : lo ≤ x0 ∧ x0 ≤ hi) (h1 : lo ≤ x1 ∧ x1 ≤ hi) (h2 : lo ≤ x2 ∧ x2 ≤ hi) :
    lo ≤ atC x0 x1 x2 w k n ∧ atC x0 x1 x2 w k n ≤ hi := by
  obtain ⟨p1, p2, p3, p4, p5⟩ := parts_in hw hk hn
  have e : ∀ t : Int, t * sumC w k n = 256 * (n - k) * (n - k) * t + 2 * k * (n - k) * w * t + 256 * k * k * t := fun t => by
    unfold sumC
    rw [Int.mul_comm t, Int.add_mul, Int.add_mul]
  refine nr_between p5 ?_ ?_
  · rw [e]
    have a := Int.mul_le_mul_of_nonneg_left h0.1 p1.1
    have b := Int.mul_le_mul_of_nonneg_left h1.1 p3.1
    have c := Int.mul_le_mul_of_nonneg_left h2.1 p4.1
    omega
  · rw [e]
    have a := Int.mul_le_mul_of_nonneg_left h0.2 p1.1
    have b := Int.mul_le_mul_of_nonneg_left h1.2 p3.1
    have c := Int.mul_le_mul_of_nonneg_left h2.2 p4.1
    omega
theorem ok_at : SpecOK Try.prog spAt := by
  refine spec_sound (specs := [spNear]) (all_ok (⟨ok_near, trivial⟩)) (eqs := []) (fun _ _ h => (List.not_mem_nil h).elim) Aff.mixed Try.func63 rfl (by kernel_rfl) (fun _ _ => by kernel_rfl) (fun g => A0) (fun g => Nat.le_of_ble_eq_true (by kernel_rfl)) ?_
  rintro ⟨⟨x0, y0, x1, y1, x2, y2, w⟩, k, n⟩ ⟨⟨⟨⟨hx0, hy0⟩, hx1, hy1⟩, ⟨hx2, hy2⟩, hw⟩, hk, hn⟩
  simp only at hx0 hy0 hx1 hy1 hx2 hy2 hw hk hn
  obtain ⟨p1, p2, p3, p4, p5⟩ := parts_in hw hk hn
  refine vc_of (B := let z6 := (4611686018427387904 : Int);let z5 := (IntKind.i64 = IntKind.i64);let z3 := (2 : Int);let z2 := (9223372036854775807 : Int);let z1 := (-9223372036854775808 : Int);let z0 := (256 : Int); let z7 := (z0 * (n - k) * (n - k) + z3 * k * (n - k) * w + z0 * k * k); let z4 := (Sx.Ask z5 ∧ Sx.Ask (z0 * (n - k) * (n - k) + z3 * k * (n - k) * w + z0 * k * k = z0 * (n - k) * (n - k) + z3 * k * (n - k) * w + z0 * k * k));True ∧ True ∧ True ∧ True ∧ Sx.Ask (z1 ≤ n - k ∧ n - k ≤ z2) ∧ True ∧ True ∧ Sx.Ask (z1 ≤ z0 * (n - k) ∧ z0 * (n - k) ≤ z2) ∧ True ∧ Sx.Ask (z1 ≤ z0 * (n - k) * (n - k) ∧ z0 * (n - k) * (n - k) ≤ z2) ∧ True ∧ Sx.Ask (z1 ≤ z3 * k ∧ z3 * k ≤ z2) ∧ True ∧ Sx.Ask (z1 ≤ z3 * k * (n - k) ∧ z3 * k * (n - k) ≤ z2) ∧ True ∧ True ∧ Sx.Ask (z1 ≤ z3 * k * (n - k) * w ∧ z3 * k * (n - k) * w ≤ z2) ∧ True ∧ Sx.Ask (z1 ≤ z0 * k ∧ z0 * k ≤ z2) ∧ True ∧ Sx.Ask (z1 ≤ z0 * k * k ∧ z0 * k * k ≤ z2) ∧ True ∧ True ∧ True ∧ True ∧ True ∧ Sx.Ask (z1 ≤ z0 * (n - k) * (n - k) + z3 * k * (n - k) * w ∧ z0 * (n - k) * (n - k) + z3 * k * (n - k) * w ≤ z2) ∧ True ∧ Sx.Ask (z1 ≤ z0 * (n - k) * (n - k) + z3 * k * (n - k) * w + z0 * k * k ∧ z0 * (n - k) * (n - k) + z3 * k * (n - k) * w + z0 * k * k ≤ z2) ∧ True ∧ True ∧ True ∧ True ∧ True ∧ Sx.Ask (z1 ≤ z0 * (n - k) * (n - k) * x0 ∧ z0 * (n - k) * (n - k) * x0 ≤ z2) ∧ True ∧ True ∧ True ∧ True ∧ Sx.Ask (z1 ≤ z3 * k * (n - k) * w * x1 ∧ z3 * k * (n - k) * w * x1 ≤ z2) ∧ Sx.Ask (z1 ≤ z0 * (n - k) * (n - k) * x0 + z3 * k * (n - k) * w * x1 ∧ z0 * (n - k) * (n - k) * x0 + z3 * k * (n - k) * w * x1 ≤ z2) ∧ True ∧ True ∧ True ∧ True ∧ Sx.Ask (z1 ≤ z0 * k * k * x2 ∧ z0 * k * k * x2 ≤ z2) ∧ Sx.Ask (z1 ≤ z0 * (n - k) * (n - k) * x0 + z3 * k * (n - k) * w * x1 + z0 * k * k * x2 ∧ z0 * (n - k) * (n - k) * x0 + z3 * k * (n - k) * w * x1 + z0 * k * k * x2 ≤ z2) ∧ True ∧ (((Sx.Ask z5 ∧ Sx.Ask (z0 * (n - k) * (n - k) * x0 + z3 * k * (n - k) * w * x1 + z0 * k * k * x2 = z0 * (n - k) * (n - k) * x0 + z3 * k * (n - k) * w * x1 + z0 * k * k * x2)) ∧ z4 ∧ True) ∧ Sx.Ask (((-4611686018427387904 : Int) ≤ z0 * (n - k) * (n - k) * x0 + z3 * k * (n - k) * w * x1 + z0 * k * k * x2 ∧ z0 * (n - k) * (n - k) * x0 + z3 * k * (n - k) * w * x1 + z0 * k * k * x2 ≤ z6) ∧ (1 : Int) ≤ z0 * (n - k) * (n - k) + z3 * k * (n - k) * w + z0 * k * k ∧ z0 * (n - k) * (n - k) + z3 * k * (n - k) * w + z0 * k * k ≤ z6)) ∧ True ∧ True ∧ True ∧ True ∧ Sx.Ask (z1 ≤ z0 * (n - k) * (n - k) * y0 ∧ z0 * (n - k) * (n - k) * y0 ≤ z2) ∧ True ∧ True ∧ True ∧ True ∧ Sx.Ask (z1 ≤ z3 * k * (n - k) * w * y1 ∧ z3 * k * (n - k) * w * y1 ≤ z2) ∧ Sx.Ask (z1 ≤ z0 * (n - k) * (n - k) * y0 + z3 * k * (n - k) * w * y1 ∧ z0 * (n - k) * (n - k) * y0 + z3 * k * (n - k) * w * y1 ≤ z2) ∧ True ∧ True ∧ True ∧ True ∧ Sx.Ask (z1 ≤ z0 * k * k * y2 ∧ z0 * k * k * y2 ≤ z2) ∧ Sx.Ask (z1 ≤ z0 * (n - k) * (n - k) * y0 + z3 * k * (n - k) * w * y1 + z0 * k * k * y2 ∧ z0 * (n - k) * (n - k) * y0 + z3 * k * (n - k) * w * y1 + z0 * k * k * y2 ≤ z2) ∧ True ∧ (((Sx.Ask z5 ∧ Sx.Ask (z0 * (n - k) * (n - k) * y0 + z3 * k * (n - k) * w * y1 + z0 * k * k * y2 = z0 * (n - k) * (n - k) * y0 + z3 * k * (n - k) * w * y1 + z0 * k * k * y2)) ∧ z4 ∧ True) ∧ Sx.Ask (((-4611686018427387904 : Int) ≤ z0 * (n - k) * (n - k) * y0 + z3 * k * (n - k) * w * y1 + z0 * k * k * y2 ∧ z0 * (n - k) * (n - k) * y0 + z3 * k * (n - k) * w * y1 + z0 * k * k * y2 ≤ z6) ∧ (1 : Int) ≤ z0 * (n - k) * (n - k) + z3 * k * (n - k) * w + z0 * k * k ∧ z0 * (n - k) * (n - k) + z3 * k * (n - k) * w + z0 * k * k ≤ z6)) ∧ True ∧ True ∧ (True ∧ True) ∧ (True ∧ Sx.Ask z5 ∧ Sx.Ask (nr (z0 * (n - k) * (n - k) * x0 + z3 * k * (n - k) * w * x1 + z0 * k * k * x2) z7 = atC x0 x1 x2 w k n)) ∧ Sx.Ask z5 ∧ Sx.Ask (nr (z0 * (n - k) * (n - k) * y0 + z3 * k * (n - k) * w * y1 + z0 * k * k * y2) z7 = atC y0 y1 y2 w k n)) (by kernel_rfl) ?_
  simp only [ask_iff, br_iff, eq_self, true_and, and_true, implies_true, forall_const, decide_eq_true_eq, decide_eq_false_iff_not, ne_eq, Nat.mul_one, Nat.add_zero, Nat.zero_add]
  unfold inC at hx0 hy0 hx1 hy1 hx2 hy2
  have q1 := mul_in (a := 256 * (n - k) * (n - k)) (x := x0) (A := 268435456) (X := 32767) (by omega) (by omega)
  have q2 := mul_in (a := 2 * k * (n - k) * w) (x := x1) (A := 8589934592) (X := 32767) (by omega) (by omega)
  have q3 := mul_in (a := 256 * k * k) (x := x2) (A := 268435456) (X := 32767) (by omega) (by omega)
  have r1 := mul_in (a := 256 * (n - k) * (n - k)) (x := y0) (A := 268435456) (X := 32767) (by omega) (by omega)
  have r2 := mul_in (a := 2 * k * (n - k) * w) (x := y1) (A := 8589934592) (X := 32767) (by omega) (by omega)
  have r3 := mul_in (a := 256 * k * k) (x := y2) (A := 268435456) (X := 32767) (by omega) (by omega)
  have p5' : 1 ≤ 256 * (n - k) * (n - k) + 2 * k * (n - k) * w + 256 * k * k := p5
  refine ⟨by omega, by omega, by omega, by omega, by omega, by omega, by omega, by omega, by omega, by omega, by omega, by omega, by omega, by omega, by omega, by omega, by omega, by omega, by omega, by omega, by omega, by omega, ?_⟩
  exact ⟨rfl, rfl⟩
theorem at_in {c : Cur} (hc : c.ok) {k n : Int} (hk : 0 ≤ k ∧ k ≤ n) (hn : 1 ≤ n ∧ n ≤ 1024) : (c.at k n).in 32768 := by
  obtain ⟨⟨⟨hx0, hy0⟩, hx1, hy1⟩, ⟨hx2, hy2⟩, hw⟩ := hc
  have a := atC_between hw hk hn hx0 hx1 hx2
  have b := atC_between hw hk hn hy0 hy1 hy2
  unfold Pt.in Cur.at
  simp only
  omega
/-! flat, division. -/
def midP (c : Cur) (n k : Int) : Prop := nearP ⟨c.at k n, c.at (2 * k + 1) (2 * n), c.at (k + 1) n⟩
instance (c : Cur) (n k : Int) : Decidable (midP c n k) := by unfold midP; infer_instance
def flatB (c : Cur) (n : Int) : Bool := (List.range n.toNat).all fun k => decide (midP c n k)
theorem flatB_iff {c : Cur} {n : Int} : flatB c n = true ↔ ∀ k : Nat, k < n.toNat → midP c n k := by
  simp [flatB]
structure FlG where
  c : Cur
  n : Int
def flInv (g : FlG) : Inv := ⟨Int, fun i => (0 ≤ i ∧ i ≤ g.n) ∧ ∀ j : Nat, (j : Int) < i → midP g.c g.n j,
  fun i => ⟨[(1, .int .i64 g.n), (2, .own 0 0), (6, .int .i64 g.n), (7, .int .i64 i)], [.cells 7 (lst (curL g.c)) 98]⟩, fun i => (g.n - i).toNat⟩
def spFlat : FSpec := mkSpec 84 (γ := FlG) (fun | [.agg _ c, .int _ n] => some ⟨curD c, n⟩ | _ => none) (fun g => [curS g.c, .int .i64 g.n]) (fun g => g.c.ok ∧ 1 ≤ g.n ∧ g.n ≤ 512) (fun g => .bool (flatB g.c g.n))
theorem ok_flat : SpecOK Try.prog spFlat := by
  refine spec_sound (specs := [spAt, spNearC]) (all_ok (⟨ok_at, ok_nearC, trivial⟩)) (eqs := []) (fun _ _ h => (List.not_mem_nil h).elim) Aff.mixed Try.func84 rfl (by kernel_rfl) (fun _ _ => by kernel_rfl) (fun g => (⟨[(2, .inv (flInv g))], []⟩ : Ann)) (fun g => Nat.le_of_ble_eq_true (by kernel_rfl)) ?_
  rintro ⟨c, n⟩ ⟨hc, h1, h2⟩
  simp only at hc h1 h2
  refine vc_of (B := let z10 := (flInv (FlG.mk c n));let z7 := (9223372036854775807 : Int);let z6 := (2 : Int);let z5 := (-9223372036854775808 : Int);let z4 := (1 : Int);let z1 := (IntKind.i64 = IntKind.i64); let z3 := (Sx.Ask z1 ∧ Sx.Ask (n = n));let z0 := (((((((True ∧ Sx.Ask z1 ∧ Sx.Ask (c.x0 = c.x0)) ∧ Sx.Ask z1 ∧ Sx.Ask (c.y0 = c.y0)) ∧ Sx.Ask z1 ∧ Sx.Ask (c.x1 = c.x1)) ∧ Sx.Ask z1 ∧ Sx.Ask (c.y1 = c.y1)) ∧ Sx.Ask z1 ∧ Sx.Ask (c.x2 = c.x2)) ∧ Sx.Ask z1 ∧ Sx.Ask (c.y2 = c.y2)) ∧ Sx.Ask z1 ∧ Sx.Ask (c.w = c.w));True ∧ True ∧ True ∧ True ∧ (∃ (g : Int), Sx.Ask (z10.pre g) ∧ (z3 ∧ Sx.Ask ((0 : Nat) = (0 : Nat)) ∧ z3 ∧ (Sx.Ask z1 ∧ Sx.Ask ((0 : Int) = g)) ∧ True) ∧ z0 ∧ True) ∧ ∀ (g : Int), let z11 := (Pt.mk (atC c.x0 c.x1 c.x2 c.w g n) (atC c.y0 c.y1 c.y2 c.w g n)); let z9 := (Pt.mk (atC c.x0 c.x1 c.x2 c.w (g + z4) n) (atC c.y0 c.y1 c.y2 c.w (g + z4) n)); let z2 := (z6 * g + z4); let z8 := (Pt.mk (atC c.x0 c.x1 c.x2 c.w z2 (z6 * n)) (atC c.y0 c.y1 c.y2 c.w z2 (z6 * n))); z10.pre g → True ∧ Sx.Br (decide (g < n)) (True ∧ True ∧ True ∧ True ∧ True ∧ ((z0 ∧ (Sx.Ask z1 ∧ Sx.Ask (g = g)) ∧ z3 ∧ True) ∧ Sx.Ask (AtG.mk c g n).ok) ∧ True ∧ True ∧ Sx.Ask (z5 ≤ z6 * g ∧ z6 * g ≤ z7) ∧ Sx.Ask (z5 ≤ z6 * g + z4 ∧ z6 * g + z4 ≤ z7) ∧ True ∧ Sx.Ask (z5 ≤ z6 * n ∧ z6 * n ≤ z7) ∧ ((z0 ∧ (Sx.Ask z1 ∧ Sx.Ask (z6 * g + z4 = z6 * g + z4)) ∧ (Sx.Ask z1 ∧ Sx.Ask (z6 * n = z6 * n)) ∧ True) ∧ Sx.Ask (AtG.mk c z2 (z6 * n)).ok) ∧ True ∧ True ∧ Sx.Ask (z5 ≤ g + z4 ∧ g + z4 ≤ z7) ∧ True ∧ ((z0 ∧ (Sx.Ask z1 ∧ Sx.Ask (g + z4 = g + z4)) ∧ z3 ∧ True) ∧ Sx.Ask (AtG.mk c (g + z4) n).ok) ∧ ((((True ∧ Sx.Ask z1 ∧ Sx.Ask (atC c.x0 c.x1 c.x2 c.w g n = atC c.x0 c.x1 c.x2 c.w g n)) ∧ Sx.Ask z1 ∧ Sx.Ask (atC c.y0 c.y1 c.y2 c.w g n = atC c.y0 c.y1 c.y2 c.w g n)) ∧ ((True ∧ Sx.Ask z1 ∧ Sx.Ask (atC c.x0 c.x1 c.x2 c.w z2 (z6 * n) = atC c.x0 c.x1 c.x2 c.w z2 (z6 * n))) ∧ Sx.Ask z1 ∧ Sx.Ask (atC c.y0 c.y1 c.y2 c.w z2 (z6 * n) = atC c.y0 c.y1 c.y2 c.w z2 (z6 * n))) ∧ ((True ∧ Sx.Ask z1 ∧ Sx.Ask (atC c.x0 c.x1 c.x2 c.w (g + z4) n = atC c.x0 c.x1 c.x2 c.w (g + z4) n)) ∧ Sx.Ask z1 ∧ Sx.Ask (atC c.y0 c.y1 c.y2 c.w (g + z4) n = atC c.y0 c.y1 c.y2 c.w (g + z4) n)) ∧ True) ∧ Sx.Ask (z11.in (32768 : Int) ∧ z8.in (32768 : Int) ∧ z9.in (32768 : Int))) ∧ True ∧ Sx.Br (!decide (nearP (NrG.mk z11 z8 z9))) (True ∧ True ∧ Sx.Ask (false = flatB c n)) (Sx.Ask (z5 ≤ g + z4 ∧ g + z4 ≤ z7) ∧ True ∧ ∃ (g' : Int), Sx.Ask (z10.pre g') ∧ ((z3 ∧ Sx.Ask ((0 : Nat) = (0 : Nat)) ∧ z3 ∧ (Sx.Ask z1 ∧ Sx.Ask (g + z4 = g')) ∧ True) ∧ z0 ∧ True) ∧ Sx.Ask (z10.meas g' < z10.meas g))) (True ∧ True ∧ Sx.Ask (true = flatB c n))) (by kernel_rfl) ?_
  simp only [ask_iff, br_iff, eq_self, true_and, and_true, implies_true, forall_const, decide_eq_true_eq, decide_eq_false_iff_not, ne_eq, Nat.mul_one, Nat.add_zero, Nat.zero_add]
  have hm : ∀ i : Int, 0 ≤ i → i < n → AtG.ok ⟨c, i, n⟩ ∧ AtG.ok ⟨c, 2 * i + 1, 2 * n⟩ ∧ AtG.ok ⟨c, i + 1, n⟩ := fun i h3 h4 =>
    ⟨⟨hc, ⟨h3, show i ≤ n by omega⟩, h1, by show n ≤ 1024; omega⟩, ⟨hc, ⟨show 0 ≤ 2 * i + 1 by omega, show 2 * i + 1 ≤ 2 * n by omega⟩, show 1 ≤ 2 * n by omega, show 2 * n ≤ 1024 by omega⟩, hc, ⟨show 0 ≤ i + 1 by omega, show i + 1 ≤ n by omega⟩, h1, by show n ≤ 1024; omega⟩
  refine ⟨⟨(0 : Int), ⟨⟨Int.le_refl 0, by show 0 ≤ n; omega⟩, fun j hj => absurd hj (by omega)⟩, rfl⟩, fun i hi => ?_⟩
  have hi' : (0 ≤ i ∧ i ≤ n) ∧ ∀ j : Nat, (j : Int) < i → midP c n j := hi
  refine ⟨fun hlt => ?_, fun hge => ?_⟩
  · obtain ⟨m1, m2, m3⟩ := hm i hi'.1.1 hlt
    have r1 := at_in hc m1.2.1 m1.2.2
    have r2 := at_in hc m2.2.1 m2.2.2
    have r3 := at_in hc m3.2.1 m3.2.2
    refine ⟨m1, by omega, by omega, by omega, m2, by omega, m3, ⟨r1, r2, r3⟩, fun hn => ?_, fun hy => ⟨by omega, (i + 1 : Int), ⟨⟨show 0 ≤ i + 1 by omega, show i + 1 ≤ n by omega⟩, fun j hj => ?_⟩, rfl, ?_⟩⟩
    · have hn2 : ¬ midP c n i := by
        simp only [Bool.not_eq_true', decide_eq_false_iff_not] at hn
        exact hn
      refine (Bool.eq_false_iff.2 fun hc2 => hn2 ?_).symm
      have := flatB_iff.1 hc2 i.toNat (by omega)
      rwa [Int.toNat_of_nonneg hi'.1.1] at this
    · by_cases hj2 : (j : Int) < i
      · exact hi'.2 j hj2
      · have hj3 : (j : Int) < i + 1 := hj
        obtain rfl : (j : Int) = i := by omega
        simp only [Bool.not_eq_false', decide_eq_true_eq] at hy
        exact hy
    · show (n - (i + 1)).toNat < (n - i).toNat
      omega
  · exact (flatB_iff.2 fun k hk => hi'.2 k (by omega)).symm
def divF : Nat → Cur → Int → Int
  | 0, _, n => n
  | f + 1, c, n => if n < 512 then bif flatB c n then n else divF f c (n * 2) else n
def divN (c : Cur) : Int := divF 9 c 1
theorem divF_range (c : Cur) : ∀ (f : Nat) (n : Int), 1 ≤ n → n * 2 ^ f ≤ 512 → n ≤ divF f c n ∧ divF f c n ≤ 512
  | 0, n, h, h' => by simp at h'; exact ⟨Int.le_refl n, h'⟩
  | f + 1, n, h, h' => by
    have hp : n * 2 ^ (f + 1) = n * 2 * 2 ^ f := by rw [Int.pow_succ, Int.mul_comm (2 ^ f), Int.mul_assoc]
    have hq : (1 : Int) ≤ 2 ^ f := Int.pow_pos (by decide)
    have hn : n * 2 ≤ n * 2 * 2 ^ f := by
      have := Int.mul_le_mul_of_nonneg_left hq (show 0 ≤ n * 2 by omega)
      omega
    unfold divF
    split
    · cases flatB c n
      · have := divF_range c f (n * 2) (by omega) (by omega)
        exact ⟨by show n ≤ divF f c (n * 2); omega, this.2⟩
      · exact ⟨Int.le_refl n, by show n ≤ 512; omega⟩
    · exact ⟨Int.le_refl n, by omega⟩
def dvInv (c : Cur) : Inv := ⟨Int × Nat, fun g => (1 ≤ g.1 ∧ g.1 * 2 ^ g.2 = 512) ∧ divF g.2 c g.1 = divN c,
  fun g => ⟨[(1, .own 0 0), (3, .int .i64 g.1)], [.cells 7 (lst (curL c)) 98]⟩, fun g => g.2⟩
def spDiv : FSpec := mkSpec 62 (γ := Cur) (fun | [.agg _ c] => some (curD c) | _ => none) (fun c => [curS c]) Cur.ok (fun c => .int .i64 (divN c))
theorem ok_div : SpecOK Try.prog spDiv := by
  refine spec_sound (specs := [spFlat]) (all_ok (⟨ok_flat, trivial⟩)) (eqs := []) (fun _ _ h => (List.not_mem_nil h).elim) Aff.mixed Try.func62 rfl (by kernel_rfl) (fun _ _ => by kernel_rfl) (fun g => (⟨[(2, .inv (dvInv g))], []⟩ : Ann)) (fun g => Nat.le_of_ble_eq_true (by kernel_rfl)) ?_
  rintro c hc
  refine vc_of (B := let z1 := (IntKind.i64 = IntKind.i64);let z0 := (((((((True ∧ Sx.Ask z1 ∧ Sx.Ask (c.x0 = c.x0)) ∧ Sx.Ask z1 ∧ Sx.Ask (c.y0 = c.y0)) ∧ Sx.Ask z1 ∧ Sx.Ask (c.x1 = c.x1)) ∧ Sx.Ask z1 ∧ Sx.Ask (c.y1 = c.y1)) ∧ Sx.Ask z1 ∧ Sx.Ask (c.x2 = c.x2)) ∧ Sx.Ask z1 ∧ Sx.Ask (c.y2 = c.y2)) ∧ Sx.Ask z1 ∧ Sx.Ask (c.w = c.w));True ∧ True ∧ True ∧ (∃ (g : Int × Nat), Sx.Ask ((dvInv c).pre g) ∧ (Sx.Ask ((0 : Nat) = (0 : Nat)) ∧ (Sx.Ask z1 ∧ Sx.Ask ((1 : Int) = g.fst)) ∧ True) ∧ z0 ∧ True) ∧ ∀ (g : Int × Nat), (dvInv c).pre g → True ∧ True ∧ True ∧ Sx.Br (decide (g.fst < (512 : Int))) (True ∧ True ∧ ((z0 ∧ (Sx.Ask z1 ∧ Sx.Ask (g.fst = g.fst)) ∧ True) ∧ Sx.Ask (c.ok ∧ (1 : Int) ≤ g.fst ∧ g.fst ≤ (512 : Int))) ∧ True ∧ True ∧ Sx.Br (!flatB c g.fst) (True ∧ Sx.Ask ((-9223372036854775808 : Int) ≤ g.fst * (2 : Int) ∧ g.fst * (2 : Int) ≤ (9223372036854775807 : Int)) ∧ True ∧ ∃ (g' : Int × Nat), Sx.Ask ((dvInv c).pre g') ∧ ((Sx.Ask ((0 : Nat) = (0 : Nat)) ∧ (Sx.Ask z1 ∧ Sx.Ask (g.fst * (2 : Int) = g'.fst)) ∧ True) ∧ z0 ∧ True) ∧ Sx.Ask ((dvInv c).meas g' < (dvInv c).meas g)) (True ∧ True ∧ True ∧ Sx.Ask z1 ∧ Sx.Ask (g.fst = divN c))) (True ∧ True ∧ True ∧ True ∧ Sx.Ask z1 ∧ Sx.Ask (g.fst = divN c))) (by kernel_rfl) ?_
  simp only [ask_iff, br_iff, eq_self, true_and, and_true, implies_true, forall_const, decide_eq_true_eq, decide_eq_false_iff_not, ne_eq, Nat.mul_one, Nat.add_zero, Nat.zero_add]
  refine ⟨⟨(1, 9), ⟨⟨by decide, by decide⟩, rfl⟩, rfl⟩, fun g hg => ?_⟩
  obtain ⟨n, f⟩ := g
  have hg' : (1 ≤ n ∧ n * 2 ^ f = 512) ∧ divF f c n = divN c := hg
  obtain ⟨⟨g1, g2⟩, g3⟩ := hg'
  have hq : (1 : Int) ≤ 2 ^ f := Int.pow_pos (by decide)
  have hn : n ≤ n * 2 ^ f := by
    have := Int.mul_le_mul_of_nonneg_left hq (show 0 ≤ n by omega)
    omega
  refine ⟨fun hlt => ⟨⟨hc, g1, by show n ≤ 512; omega⟩, fun hf => ?_, fun hf => ?_⟩, fun hge => ?_⟩
  · have hf' : flatB c n = false := by simpa using hf
    have hlt' : n < 512 := hlt
    cases f with
    | zero => simp at g2; omega
    | succ f =>
      refine ⟨by show _ ∧ n * 2 ≤ _; constructor <;> omega, (n * 2, f), ⟨⟨show 1 ≤ n * 2 by omega, ?_⟩, ?_⟩, rfl, Nat.lt_succ_self f⟩
      · show n * 2 * 2 ^ f = 512
        rw [← g2, Int.pow_succ, Int.mul_comm (2 ^ f), Int.mul_assoc]
      · show divF f c (n * 2) = divN c
        rw [← g3]
        unfold divF
        rw [if_pos hlt', hf']
        cases f <;> rfl
  · have hf' : flatB c n = true := by simpa using hf
    show n = divN c
    rw [← g3]
    cases f with
    | zero => rfl
    | succ f =>
      unfold divF
      rw [hf']
      split <;> rfl
  · have hge' : ¬ n < 512 := hge
    show n = divN c
    rw [← g3]
    cases f with
    | zero => rfl
    | succ f =>
      unfold divF
      rw [if_neg hge']
end Go.Proofs.Ytfjbjbmbdadmhaa.Con
