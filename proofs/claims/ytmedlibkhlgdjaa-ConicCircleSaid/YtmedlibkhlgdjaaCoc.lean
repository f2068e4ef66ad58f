/- printworkskeep1.ConicCircle, by the evaluation. -/
import Derived.Test.YtmedlibkhlgdjaaCoh
set_option linter.unusedSimpArgs false
set_option linter.unusedVariables false
namespace Go.Proofs.Ytmedlibkhlgdjaa.Coc
open Go.RowKit Sx Num Aff Con Cop Coh
set_option maxRecDepth 100000
/-! The plain law: a point of the arc. With A = 256 j j, B = 362 k j, D = 256 k k and S their sum, u = 2 r (A + B), v = 2 r (B + D): u u + v v = 4 r r (S S - 28 j j k k). -/
theorem sq_le {a b : Int} (h : 0 ≤ a) (h' : a ≤ b) : a * a ≤ b * b := Int.mul_le_mul h' h' h (by omega)
/-- A square, up to one in each direction. -/
theorem sq_hi {P u S : Int} (h : P ≤ u + S) (h' : u - S ≤ P) (hu : 0 ≤ u) (hS : 0 ≤ S) : P * P ≤ u * u + 2 * (u * S) + S * S := by
  have h2 : -(u + S) ≤ P := by omega
  have : P * P ≤ (u + S) * (u + S) := by
    have := Int.mul_nonneg (show 0 ≤ u + S - P by omega) (show 0 ≤ u + S + P by omega)
    have e : (u + S - P) * (u + S + P) = (u + S) * (u + S) - P * P := by grind
    omega
  have e : (u + S) * (u + S) = u * u + 2 * (u * S) + S * S := by grind
  omega
theorem sq_lo {P u S : Int} (h' : u - S ≤ P) (hu : 0 ≤ u) (hS : 0 ≤ S) : u * u - 2 * (u * S) ≤ P * P := by
  have hP : 0 ≤ P * P := by
    rcases Int.le_total 0 P with h | h
    · exact Int.mul_nonneg h h
    · have := Int.mul_nonneg (show 0 ≤ -P by omega) (show 0 ≤ -P by omega)
      rwa [Int.neg_mul_neg] at this
  by_cases hc : u ≤ S
  · have : u * u ≤ u * S := Int.mul_le_mul_of_nonneg_left hc hu
    have : 0 ≤ u * S := Int.mul_nonneg hu hS
    omega
  · have := sq_le (a := u - S) (b := P) (by omega) h'
    have e : (u - S) * (u - S) = u * u - 2 * (u * S) + S * S := by grind
    have : 0 ≤ S * S := Int.mul_nonneg hS hS
    omega
theorem cancel {s a b : Int} (hs : 1 ≤ s) (h : s * a ≤ s * b) : a ≤ b := Int.le_of_mul_le_mul_left h (by omega)
theorem circle {r A B D t S X Y : Int} (hr : 4 ≤ r) (hr' : r ≤ 30000) (ht : 0 ≤ t) (hA : 0 ≤ A) (hD : 0 ≤ D) (hB : B = 362 * t) (hAD : A * D = 65536 * (t * t)) (hS : S = A + B + D) (hS1 : 1 ≤ S) (hs : 874 * t ≤ S)
    (x1 : 2 * (X * S) ≤ 2 * ((A + B) * r) + S) (x2 : 2 * ((A + B) * r) + S < 2 * (X * S) + 2 * S) (y1 : 2 * (Y * S) ≤ 2 * ((B + D) * r) + S) (y2 : 2 * ((B + D) * r) + S < 2 * (Y * S) + 2 * S) :
    (r - 2) * (r - 2) ≤ X * X + Y * Y ∧ X * X + Y * Y ≤ (r + 2) * (r + 2) := by
  obtain ⟨u, hu⟩ : ∃ u, u = 2 * ((A + B) * r) := ⟨_, rfl⟩
  obtain ⟨v, hv⟩ : ∃ v, v = 2 * ((B + D) * r) := ⟨_, rfl⟩
  have hu0 : 0 ≤ u := by have := Int.mul_nonneg (show 0 ≤ A + B by omega) (show 0 ≤ r by omega); omega
  have hv0 : 0 ≤ v := by have := Int.mul_nonneg (show 0 ≤ B + D by omega) (show 0 ≤ r by omega); omega
  have p1 := sq_hi (P := 2 * (X * S)) (u := u) (S := S) (by omega) (by omega) hu0 (by omega)
  have q1 := sq_hi (P := 2 * (Y * S)) (u := v) (S := S) (by omega) (by omega) hv0 (by omega)
  have p2 := sq_lo (P := 2 * (X * S)) (u := u) (S := S) (by omega) hu0 (by omega)
  have q2 := sq_lo (P := 2 * (Y * S)) (u := v) (S := S) (by omega) hv0 (by omega)
  have h2 : u * u + v * v = 4 * (r * r * (S * S)) - 112 * (r * r * (t * t)) := by subst hu hv hS hB; grind
  have h3 : u + v ≤ 3 * (r * S) := by
    have a : u + v = 2 * (r * (S + B)) := by subst hu hv hS; grind
    have b : r * (2 * B) ≤ r * S := Int.mul_le_mul_of_nonneg_left (by omega) (by omega)
    have c : r * (S + B) = r * S + r * B := Int.mul_add _ _ _
    have d : r * (2 * B) = 2 * (r * B) := by grind
    omega
  have h4 : u * S + v * S ≤ 3 * (r * (S * S)) := by
    have a : (u + v) * S ≤ 3 * (r * S) * S := Int.mul_le_mul_of_nonneg_right h3 (by omega)
    have b : 3 * (r * S) * S = 3 * (r * (S * S)) := by grind
    rw [Int.add_mul] at a
    omega
  have h5 : 763876 * (t * t) ≤ S * S := by
    have a := sq_le (a := 874 * t) (b := S) (by omega) hs
    have b : 874 * t * (874 * t) = 763876 * (t * t) := by grind
    omega
  have tt : 0 ≤ t * t := Int.mul_nonneg ht ht
  have h6 : 763876 * (r * (t * t)) ≤ r * (S * S) := by
    have a : r * (763876 * (t * t)) ≤ r * (S * S) := Int.mul_le_mul_of_nonneg_left h5 (by omega)
    have b : r * (763876 * (t * t)) = 763876 * (r * (t * t)) := by grind
    omega
  have h7 : r * r * (t * t) ≤ 30000 * (r * (t * t)) := by
    have a : r * (r * (t * t)) ≤ 30000 * (r * (t * t)) := Int.mul_le_mul_of_nonneg_right hr' (Int.mul_nonneg (by omega) tt)
    rwa [← Int.mul_assoc] at a
  have h8 : 0 ≤ r * r * (t * t) := Int.mul_nonneg (Int.mul_nonneg (by omega) (by omega)) tt
  have h9 : 4 * (S * S) ≤ r * (S * S) := Int.mul_le_mul_of_nonneg_right hr (Int.mul_nonneg (by omega) (by omega))
  have hSS : 1 ≤ S * S := one_le hS1
  have e1 : 2 * (X * S) * (2 * (X * S)) + 2 * (Y * S) * (2 * (Y * S)) = 4 * (S * S) * (X * X + Y * Y) := by grind
  have e2 : 4 * (S * S) * ((r + 2) * (r + 2)) = 4 * (r * r * (S * S)) + 16 * (r * (S * S)) + 16 * (S * S) := by grind
  have e3 : 4 * (S * S) * ((r - 2) * (r - 2)) = 4 * (r * r * (S * S)) - 16 * (r * (S * S)) + 16 * (S * S) := by grind
  have h10 : 0 ≤ r * (t * t) := Int.mul_nonneg (by omega) tt
  constructor
  · refine cancel (s := 4 * (S * S)) (by omega) ?_
    rw [e3, ← e1]
    omega
  · refine cancel (s := 4 * (S * S)) (by omega) ?_
    rw [e2, ← e1]
    omega
theorem arc_at {r i n : Int} (hr : 4 ≤ r ∧ r ≤ 30000) (hi : 0 ≤ i) (hi' : i < n) (hd : 1 ≤ n ∧ n ≤ 512) :
    atC r r 0 181 (i + 1) n * atC r r 0 181 (i + 1) n + atC 0 r r 181 (i + 1) n * atC 0 r r 181 (i + 1) n ≤ (r + 2) * (r + 2) ∧ (r - 2) * (r - 2) ≤ atC r r 0 181 (i + 1) n * atC r r 0 181 (i + 1) n + atC 0 r r 181 (i + 1) n * atC 0 r r 181 (i + 1) n := by
  generalize hk : i + 1 = k
  obtain ⟨p1, p2, p3, p4, p5⟩ := parts_in (w := 181) (k := k) (n := n) (by omega) (by omega) (by omega)
  have hx := nr_spec (256 * (n - k) * (n - k) * r + 2 * k * (n - k) * 181 * r + 256 * k * k * 0) (sumC 181 k n) p5
  have hy := nr_spec (256 * (n - k) * (n - k) * 0 + 2 * k * (n - k) * 181 * r + 256 * k * k * r) (sumC 181 k n) p5
  have hX : nr (256 * (n - k) * (n - k) * r + 2 * k * (n - k) * 181 * r + 256 * k * k * 0) (sumC 181 k n) = atC r r 0 181 k n := rfl
  have hY : nr (256 * (n - k) * (n - k) * 0 + 2 * k * (n - k) * 181 * r + 256 * k * k * r) (sumC 181 k n) = atC 0 r r 181 k n := rfl
  rw [hX] at hx
  rw [hY] at hy
  have eS : sumC 181 k n = 256 * (n - k) * (n - k) + 2 * k * (n - k) * 181 + 256 * k * k := rfl
  generalize atC r r 0 181 k n = X at *
  generalize atC 0 r r 181 k n = Y at *
  generalize sumC 181 k n = S at *
  generalize hj : n - k = j at *
  have hj0 : 0 ≤ j := by omega
  have jk : 0 ≤ j * k := Int.mul_nonneg hj0 (by omega)
  have eB : 2 * k * j * 181 = 362 * (j * k) := by grind
  have d2 : 0 ≤ (j - k) * (j - k) := by
    rcases Int.le_total k j with h | h
    · exact Int.mul_nonneg (by omega) (by omega)
    · have := Int.mul_nonneg (show 0 ≤ k - j by omega) (show 0 ≤ k - j by omega)
      have e : (k - j) * (k - j) = (j - k) * (j - k) := by grind
      omega
  have d3 : (j - k) * (j - k) = j * j + k * k - 2 * (j * k) := by grind
  have eA : 256 * j * j = 256 * (j * j) := Int.mul_assoc _ _ _
  have eD : 256 * k * k = 256 * (k * k) := Int.mul_assoc _ _ _
  have c := circle (r := r) (A := 256 * j * j) (B := 2 * k * j * 181) (D := 256 * k * k) (t := j * k) (S := S) (X := X) (Y := Y) hr.1 hr.2 jk p1.1 p4.1 eB (by grind) eS p5 (by omega)
    (by rw [Int.add_mul]; omega) (by rw [Int.add_mul]; omega) (by rw [Int.add_mul]; omega) (by rw [Int.add_mul]; omega)
  exact ⟨c.2, c.1⟩
theorem arc_E {r : Int} (hr : 4 ≤ r ∧ r ≤ 30000) : ptsE (arcG r) = 0 := by
  have a : inC r := ⟨by omega, by omega⟩
  have b : inC 0 := by unfold inC; omega
  have e : segE (arcG r).s = 0 := by
    have hP : inC (0 : Int) ∧ inC r ∧ inC r ∧ inC r := ⟨b, a, a, a⟩
    show (if (3 : Int) = 1 ∨ (3 : Int) = 2 then _ else if (3 : Int) = 4 then _ else if (3 : Int) = 3 then if (181 : Int) < 16 ∨ (4096 : Int) < 181 then 3 else Seg.inB ⟨3, 0, r, r, r, 181⟩ else 14) = 0
    rw [if_neg (by decide), if_neg (by decide), if_pos rfl, if_neg (by decide)]
    exact if_pos hP
  have h1 : ¬((arcG r).s.k ≠ 2 ∧ (arcG r).s.k ≠ 3) := by show ¬((3 : Int) ≠ 2 ∧ (3 : Int) ≠ 3); decide
  unfold ptsE
  rw [if_neg h1, if_neg (by omega)]
  exact if_pos ⟨a, b⟩
theorem sq0 (x : Int) : 0 ≤ x * x := by
  rcases Int.le_total 0 x with h | h
  · exact Int.mul_nonneg h h
  · have := Int.mul_nonneg (show 0 ≤ -x by omega) (show 0 ≤ -x by omega)
    rwa [Int.neg_mul_neg] at this
def rr (r : Int) : Int := cutI r 4 30000
def ciInv (r : Int) : Inv := ⟨Int, fun i => 0 ≤ i ∧ i ≤ ptsN (arcG (rr r)),
  fun i => ⟨[(0, .int .i64 (rr r)), (19, ptsS (ptsN (arcG (rr r))) (fun i => (arcG (rr r)).pt i)), (20, .int .i64 (ptsN (arcG (rr r)))), (21, .int .i64 i)], []⟩, fun i => (ptsN (arcG (rr r)) - i).toNat⟩
def spCircle : FSpec := mkSpec 10 (γ := Int) (fun | [.int _ r] => some r | _ => none) (fun r => [.int .i64 r]) (fun _ => True) (fun _ => .bool true)
theorem ok_circle : SpecOK Try.prog spCircle := by
  refine spec_sound (specs := [spArcs, spCut, spArc]) (all_ok (⟨ok_arcs, ok_cut, ok_arc, trivial⟩)) (eqs := eqG) (all_eq eqG_ok) Aff.mixed Try.func10 rfl (by kernel_rfl) (fun _ _ => by kernel_rfl) (fun g => (⟨[(8, .inv (ciInv g))], []⟩ : Ann)) (fun g => Nat.le_of_ble_eq_true (by kernel_rfl)) ?_
  rintro r _
  refine vc_of (B := True ∧ (True ∧ Sx.Ask True) ∧ True ∧ True ∧ (((Sx.Ask (IntKind.i64 = IntKind.i64) ∧ Sx.Ask (r = r)) ∧ (Sx.Ask (IntKind.i64 = IntKind.i64) ∧ Sx.Ask ((4 : Int) = (4 : Int))) ∧ (Sx.Ask (IntKind.i64 = IntKind.i64) ∧ Sx.Ask ((30000 : Int) = (30000 : Int))) ∧ True) ∧ Sx.Ask (((-2305843009213693952 : Int) ≤ (4 : Int) ∧ (4 : Int) ≤ (30000 : Int)) ∧ (30000 : Int) ≤ (4611686018427387903 : Int) ∧ (30000 : Int) - (4 : Int) ≤ (4611686018427387903 : Int))) ∧ True ∧ True ∧ (((Sx.Ask (IntKind.i64 = IntKind.i64) ∧ Sx.Ask (cutI r (4 : Int) (30000 : Int) = cutI r (4 : Int) (30000 : Int))) ∧ True) ∧ Sx.Ask True) ∧ True ∧ True ∧ True ∧ True ∧ True ∧ True ∧ True ∧ Sx.Br (decide (Go.Proofs.Ytmedlibkhlgdjaa.Cop.ptsE (Go.Proofs.Ytmedlibkhlgdjaa.Cop.arcG (cutI r (4 : Int) (30000 : Int))) ≠ (0 : Int))) (True ∧ True ∧ Sx.Ask (false = true)) (True ∧ True ∧ True ∧ (∃ (g : Int), Sx.Ask ((ciInv r).pre g) ∧ ((Sx.Ask (IntKind.i64 = IntKind.i64) ∧ Sx.Ask (cutI r (4 : Int) (30000 : Int) = rr r)) ∧ (Sx.Ask (Go.Proofs.Ytmedlibkhlgdjaa.Cop.ptsN (Go.Proofs.Ytmedlibkhlgdjaa.Cop.arcG (cutI r (4 : Int) (30000 : Int))) = Go.Proofs.Ytmedlibkhlgdjaa.Cop.ptsN (Go.Proofs.Ytmedlibkhlgdjaa.Cop.arcG (rr r))) ∧ ∀ (i : Nat), i < Go.Proofs.Ytmedlibkhlgdjaa.Cop.ptsN (Go.Proofs.Ytmedlibkhlgdjaa.Cop.arcG (rr r)) → (True ∧ Sx.Ask (IntKind.i64 = IntKind.i64) ∧ Sx.Ask (Go.Proofs.Ytmedlibkhlgdjaa.Con.atC (cutI r (4 : Int) (30000 : Int)) (cutI r (4 : Int) (30000 : Int)) (0 : Int) (181 : Int) ((↑i : Int) + (1 : Int)) (Go.Proofs.Ytmedlibkhlgdjaa.Con.divN (Go.Proofs.Ytmedlibkhlgdjaa.Cop.arcG (cutI r (4 : Int) (30000 : Int))).cur) = Go.Proofs.Ytmedlibkhlgdjaa.Con.atC (rr r) (rr r) (0 : Int) (181 : Int) ((↑i : Int) + (1 : Int)) (Go.Proofs.Ytmedlibkhlgdjaa.Con.divN (Go.Proofs.Ytmedlibkhlgdjaa.Cop.arcG (rr r)).cur))) ∧ Sx.Ask (IntKind.i64 = IntKind.i64) ∧ Sx.Ask (Go.Proofs.Ytmedlibkhlgdjaa.Con.atC (0 : Int) (cutI r (4 : Int) (30000 : Int)) (cutI r (4 : Int) (30000 : Int)) (181 : Int) ((↑i : Int) + (1 : Int)) (Go.Proofs.Ytmedlibkhlgdjaa.Con.divN (Go.Proofs.Ytmedlibkhlgdjaa.Cop.arcG (cutI r (4 : Int) (30000 : Int))).cur) = Go.Proofs.Ytmedlibkhlgdjaa.Con.atC (0 : Int) (rr r) (rr r) (181 : Int) ((↑i : Int) + (1 : Int)) (Go.Proofs.Ytmedlibkhlgdjaa.Con.divN (Go.Proofs.Ytmedlibkhlgdjaa.Cop.arcG (rr r)).cur))) ∧ (Sx.Ask (IntKind.i64 = IntKind.i64) ∧ Sx.Ask ((↑(Go.Proofs.Ytmedlibkhlgdjaa.Cop.ptsN (Go.Proofs.Ytmedlibkhlgdjaa.Cop.arcG (cutI r (4 : Int) (30000 : Int)))) : Int) = (↑(Go.Proofs.Ytmedlibkhlgdjaa.Cop.ptsN (Go.Proofs.Ytmedlibkhlgdjaa.Cop.arcG (rr r))) : Int))) ∧ (Sx.Ask (IntKind.i64 = IntKind.i64) ∧ Sx.Ask ((0 : Int) = g)) ∧ True) ∧ True) ∧ ∀ (g : Int), (ciInv r).pre g → True ∧ Sx.Br (decide (g < (↑(Go.Proofs.Ytmedlibkhlgdjaa.Cop.ptsN (Go.Proofs.Ytmedlibkhlgdjaa.Cop.arcG (rr r))) : Int))) (Sx.Ask ((0 : Int) ≤ g ∧ g < (↑(Go.Proofs.Ytmedlibkhlgdjaa.Cop.ptsN (Go.Proofs.Ytmedlibkhlgdjaa.Cop.arcG (rr r))) : Int)) ∧ True ∧ True ∧ True ∧ True ∧ True ∧ True ∧ True ∧ Sx.Ask ((-9223372036854775808 : Int) ≤ Go.Proofs.Ytmedlibkhlgdjaa.Con.atC (rr r) (rr r) (0 : Int) (181 : Int) ((↑g.toNat : Int) + (1 : Int)) (Go.Proofs.Ytmedlibkhlgdjaa.Con.divN (Go.Proofs.Ytmedlibkhlgdjaa.Cop.arcG (rr r)).cur) * Go.Proofs.Ytmedlibkhlgdjaa.Con.atC (rr r) (rr r) (0 : Int) (181 : Int) ((↑g.toNat : Int) + (1 : Int)) (Go.Proofs.Ytmedlibkhlgdjaa.Con.divN (Go.Proofs.Ytmedlibkhlgdjaa.Cop.arcG (rr r)).cur) ∧ Go.Proofs.Ytmedlibkhlgdjaa.Con.atC (rr r) (rr r) (0 : Int) (181 : Int) ((↑g.toNat : Int) + (1 : Int)) (Go.Proofs.Ytmedlibkhlgdjaa.Con.divN (Go.Proofs.Ytmedlibkhlgdjaa.Cop.arcG (rr r)).cur) * Go.Proofs.Ytmedlibkhlgdjaa.Con.atC (rr r) (rr r) (0 : Int) (181 : Int) ((↑g.toNat : Int) + (1 : Int)) (Go.Proofs.Ytmedlibkhlgdjaa.Con.divN (Go.Proofs.Ytmedlibkhlgdjaa.Cop.arcG (rr r)).cur) ≤ (9223372036854775807 : Int)) ∧ True ∧ True ∧ True ∧ True ∧ Sx.Ask ((-9223372036854775808 : Int) ≤ Go.Proofs.Ytmedlibkhlgdjaa.Con.atC (0 : Int) (rr r) (rr r) (181 : Int) ((↑g.toNat : Int) + (1 : Int)) (Go.Proofs.Ytmedlibkhlgdjaa.Con.divN (Go.Proofs.Ytmedlibkhlgdjaa.Cop.arcG (rr r)).cur) * Go.Proofs.Ytmedlibkhlgdjaa.Con.atC (0 : Int) (rr r) (rr r) (181 : Int) ((↑g.toNat : Int) + (1 : Int)) (Go.Proofs.Ytmedlibkhlgdjaa.Con.divN (Go.Proofs.Ytmedlibkhlgdjaa.Cop.arcG (rr r)).cur) ∧ Go.Proofs.Ytmedlibkhlgdjaa.Con.atC (0 : Int) (rr r) (rr r) (181 : Int) ((↑g.toNat : Int) + (1 : Int)) (Go.Proofs.Ytmedlibkhlgdjaa.Con.divN (Go.Proofs.Ytmedlibkhlgdjaa.Cop.arcG (rr r)).cur) * Go.Proofs.Ytmedlibkhlgdjaa.Con.atC (0 : Int) (rr r) (rr r) (181 : Int) ((↑g.toNat : Int) + (1 : Int)) (Go.Proofs.Ytmedlibkhlgdjaa.Con.divN (Go.Proofs.Ytmedlibkhlgdjaa.Cop.arcG (rr r)).cur) ≤ (9223372036854775807 : Int)) ∧ Sx.Ask ((-9223372036854775808 : Int) ≤ Go.Proofs.Ytmedlibkhlgdjaa.Con.atC (rr r) (rr r) (0 : Int) (181 : Int) ((↑g.toNat : Int) + (1 : Int)) (Go.Proofs.Ytmedlibkhlgdjaa.Con.divN (Go.Proofs.Ytmedlibkhlgdjaa.Cop.arcG (rr r)).cur) * Go.Proofs.Ytmedlibkhlgdjaa.Con.atC (rr r) (rr r) (0 : Int) (181 : Int) ((↑g.toNat : Int) + (1 : Int)) (Go.Proofs.Ytmedlibkhlgdjaa.Con.divN (Go.Proofs.Ytmedlibkhlgdjaa.Cop.arcG (rr r)).cur) + Go.Proofs.Ytmedlibkhlgdjaa.Con.atC (0 : Int) (rr r) (rr r) (181 : Int) ((↑g.toNat : Int) + (1 : Int)) (Go.Proofs.Ytmedlibkhlgdjaa.Con.divN (Go.Proofs.Ytmedlibkhlgdjaa.Cop.arcG (rr r)).cur) * Go.Proofs.Ytmedlibkhlgdjaa.Con.atC (0 : Int) (rr r) (rr r) (181 : Int) ((↑g.toNat : Int) + (1 : Int)) (Go.Proofs.Ytmedlibkhlgdjaa.Con.divN (Go.Proofs.Ytmedlibkhlgdjaa.Cop.arcG (rr r)).cur) ∧ Go.Proofs.Ytmedlibkhlgdjaa.Con.atC (rr r) (rr r) (0 : Int) (181 : Int) ((↑g.toNat : Int) + (1 : Int)) (Go.Proofs.Ytmedlibkhlgdjaa.Con.divN (Go.Proofs.Ytmedlibkhlgdjaa.Cop.arcG (rr r)).cur) * Go.Proofs.Ytmedlibkhlgdjaa.Con.atC (rr r) (rr r) (0 : Int) (181 : Int) ((↑g.toNat : Int) + (1 : Int)) (Go.Proofs.Ytmedlibkhlgdjaa.Con.divN (Go.Proofs.Ytmedlibkhlgdjaa.Cop.arcG (rr r)).cur) + Go.Proofs.Ytmedlibkhlgdjaa.Con.atC (0 : Int) (rr r) (rr r) (181 : Int) ((↑g.toNat : Int) + (1 : Int)) (Go.Proofs.Ytmedlibkhlgdjaa.Con.divN (Go.Proofs.Ytmedlibkhlgdjaa.Cop.arcG (rr r)).cur) * Go.Proofs.Ytmedlibkhlgdjaa.Con.atC (0 : Int) (rr r) (rr r) (181 : Int) ((↑g.toNat : Int) + (1 : Int)) (Go.Proofs.Ytmedlibkhlgdjaa.Con.divN (Go.Proofs.Ytmedlibkhlgdjaa.Cop.arcG (rr r)).cur) ≤ (9223372036854775807 : Int)) ∧ True ∧ True ∧ True ∧ Sx.Ask ((-9223372036854775808 : Int) ≤ rr r - (2 : Int) ∧ rr r - (2 : Int) ≤ (9223372036854775807 : Int)) ∧ True ∧ Sx.Ask ((-9223372036854775808 : Int) ≤ rr r - (2 : Int) ∧ rr r - (2 : Int) ≤ (9223372036854775807 : Int)) ∧ Sx.Ask ((-9223372036854775808 : Int) ≤ (rr r - (2 : Int)) * (rr r - (2 : Int)) ∧ (rr r - (2 : Int)) * (rr r - (2 : Int)) ≤ (9223372036854775807 : Int)) ∧ True ∧ True ∧ Sx.Br (decide (Go.Proofs.Ytmedlibkhlgdjaa.Con.atC (rr r) (rr r) (0 : Int) (181 : Int) ((↑g.toNat : Int) + (1 : Int)) (Go.Proofs.Ytmedlibkhlgdjaa.Con.divN (Go.Proofs.Ytmedlibkhlgdjaa.Cop.arcG (rr r)).cur) * Go.Proofs.Ytmedlibkhlgdjaa.Con.atC (rr r) (rr r) (0 : Int) (181 : Int) ((↑g.toNat : Int) + (1 : Int)) (Go.Proofs.Ytmedlibkhlgdjaa.Con.divN (Go.Proofs.Ytmedlibkhlgdjaa.Cop.arcG (rr r)).cur) + Go.Proofs.Ytmedlibkhlgdjaa.Con.atC (0 : Int) (rr r) (rr r) (181 : Int) ((↑g.toNat : Int) + (1 : Int)) (Go.Proofs.Ytmedlibkhlgdjaa.Con.divN (Go.Proofs.Ytmedlibkhlgdjaa.Cop.arcG (rr r)).cur) * Go.Proofs.Ytmedlibkhlgdjaa.Con.atC (0 : Int) (rr r) (rr r) (181 : Int) ((↑g.toNat : Int) + (1 : Int)) (Go.Proofs.Ytmedlibkhlgdjaa.Con.divN (Go.Proofs.Ytmedlibkhlgdjaa.Cop.arcG (rr r)).cur) < (rr r - (2 : Int)) * (rr r - (2 : Int)))) (True ∧ True ∧ True ∧ Sx.Ask (false = true)) (True ∧ True ∧ Sx.Ask ((-9223372036854775808 : Int) ≤ rr r + (2 : Int) ∧ rr r + (2 : Int) ≤ (9223372036854775807 : Int)) ∧ True ∧ Sx.Ask ((-9223372036854775808 : Int) ≤ rr r + (2 : Int) ∧ rr r + (2 : Int) ≤ (9223372036854775807 : Int)) ∧ Sx.Ask ((-9223372036854775808 : Int) ≤ (rr r + (2 : Int)) * (rr r + (2 : Int)) ∧ (rr r + (2 : Int)) * (rr r + (2 : Int)) ≤ (9223372036854775807 : Int)) ∧ True ∧ True ∧ Sx.Br (decide ((rr r + (2 : Int)) * (rr r + (2 : Int)) < Go.Proofs.Ytmedlibkhlgdjaa.Con.atC (rr r) (rr r) (0 : Int) (181 : Int) ((↑g.toNat : Int) + (1 : Int)) (Go.Proofs.Ytmedlibkhlgdjaa.Con.divN (Go.Proofs.Ytmedlibkhlgdjaa.Cop.arcG (rr r)).cur) * Go.Proofs.Ytmedlibkhlgdjaa.Con.atC (rr r) (rr r) (0 : Int) (181 : Int) ((↑g.toNat : Int) + (1 : Int)) (Go.Proofs.Ytmedlibkhlgdjaa.Con.divN (Go.Proofs.Ytmedlibkhlgdjaa.Cop.arcG (rr r)).cur) + Go.Proofs.Ytmedlibkhlgdjaa.Con.atC (0 : Int) (rr r) (rr r) (181 : Int) ((↑g.toNat : Int) + (1 : Int)) (Go.Proofs.Ytmedlibkhlgdjaa.Con.divN (Go.Proofs.Ytmedlibkhlgdjaa.Cop.arcG (rr r)).cur) * Go.Proofs.Ytmedlibkhlgdjaa.Con.atC (0 : Int) (rr r) (rr r) (181 : Int) ((↑g.toNat : Int) + (1 : Int)) (Go.Proofs.Ytmedlibkhlgdjaa.Con.divN (Go.Proofs.Ytmedlibkhlgdjaa.Cop.arcG (rr r)).cur))) (True ∧ True ∧ Sx.Ask (false = true)) (Sx.Ask ((-9223372036854775808 : Int) ≤ g + (1 : Int) ∧ g + (1 : Int) ≤ (9223372036854775807 : Int)) ∧ True ∧ ∃ (g' : Int), Sx.Ask ((ciInv r).pre g') ∧ (((Sx.Ask (IntKind.i64 = IntKind.i64) ∧ Sx.Ask (rr r = rr r)) ∧ (Sx.Ask (Go.Proofs.Ytmedlibkhlgdjaa.Cop.ptsN (Go.Proofs.Ytmedlibkhlgdjaa.Cop.arcG (rr r)) = Go.Proofs.Ytmedlibkhlgdjaa.Cop.ptsN (Go.Proofs.Ytmedlibkhlgdjaa.Cop.arcG (rr r))) ∧ ∀ (i : Nat), i < Go.Proofs.Ytmedlibkhlgdjaa.Cop.ptsN (Go.Proofs.Ytmedlibkhlgdjaa.Cop.arcG (rr r)) → (True ∧ Sx.Ask (IntKind.i64 = IntKind.i64) ∧ Sx.Ask (Go.Proofs.Ytmedlibkhlgdjaa.Con.atC (rr r) (rr r) (0 : Int) (181 : Int) ((↑i : Int) + (1 : Int)) (Go.Proofs.Ytmedlibkhlgdjaa.Con.divN (Go.Proofs.Ytmedlibkhlgdjaa.Cop.arcG (rr r)).cur) = Go.Proofs.Ytmedlibkhlgdjaa.Con.atC (rr r) (rr r) (0 : Int) (181 : Int) ((↑i : Int) + (1 : Int)) (Go.Proofs.Ytmedlibkhlgdjaa.Con.divN (Go.Proofs.Ytmedlibkhlgdjaa.Cop.arcG (rr r)).cur))) ∧ Sx.Ask (IntKind.i64 = IntKind.i64) ∧ Sx.Ask (Go.Proofs.Ytmedlibkhlgdjaa.Con.atC (0 : Int) (rr r) (rr r) (181 : Int) ((↑i : Int) + (1 : Int)) (Go.Proofs.Ytmedlibkhlgdjaa.Con.divN (Go.Proofs.Ytmedlibkhlgdjaa.Cop.arcG (rr r)).cur) = Go.Proofs.Ytmedlibkhlgdjaa.Con.atC (0 : Int) (rr r) (rr r) (181 : Int) ((↑i : Int) + (1 : Int)) (Go.Proofs.Ytmedlibkhlgdjaa.Con.divN (Go.Proofs.Ytmedlibkhlgdjaa.Cop.arcG (rr r)).cur))) ∧ (Sx.Ask (IntKind.i64 = IntKind.i64) ∧ Sx.Ask ((↑(Go.Proofs.Ytmedlibkhlgdjaa.Cop.ptsN (Go.Proofs.Ytmedlibkhlgdjaa.Cop.arcG (rr r))) : Int) = (↑(Go.Proofs.Ytmedlibkhlgdjaa.Cop.ptsN (Go.Proofs.Ytmedlibkhlgdjaa.Cop.arcG (rr r))) : Int))) ∧ (Sx.Ask (IntKind.i64 = IntKind.i64) ∧ Sx.Ask (g + (1 : Int) = g')) ∧ True) ∧ True) ∧ Sx.Ask ((ciInv r).meas g' < (ciInv r).meas g)))) (True ∧ True ∧ Sx.Ask (true = true)))) (by kernel_rfl) ?_
  simp only [ask_iff, br_iff, eq_self, true_and, and_true, implies_true, forall_const, decide_eq_true_eq, decide_eq_false_iff_not, ne_eq, Nat.mul_one, Nat.add_zero, Nat.zero_add]
  have hR : 4 ≤ rr r ∧ rr r ≤ 30000 := cutI_range r 4 30000 (by omega)
  have hE := arc_E hR
  have hn : (arcG (rr r)).n = divN (arcG (rr r)).cur := if_neg (show ¬(3 : Int) = 2 by decide)
  have hd : 1 ≤ divN (arcG (rr r)).cur ∧ divN (arcG (rr r)).cur ≤ 512 := divF_range _ 9 1 (by decide) (by decide)
  have hN : (ptsN (arcG (rr r)) : Int) = divN (arcG (rr r)).cur := by
    have : ptsN (arcG (rr r)) = (arcG (rr r)).n.toNat := if_pos hE
    rw [this, hn]
    omega
  refine ⟨by omega, fun h => absurd hE h, fun _ => ⟨⟨(0 : Int), ⟨Int.le_refl 0, Int.natCast_nonneg _⟩, rfl, ⟨rfl, fun _ _ => ⟨rfl, rfl⟩⟩, rfl, rfl⟩, fun i hi => fun hlt => ?_⟩⟩
  have hi' : 0 ≤ i ∧ i ≤ ptsN (arcG (rr r)) := hi
  have q := arc_at hR hi'.1 (by omega) hd
  rw [Int.toNat_of_nonneg hi'.1]
  have ms : ((ptsN (arcG (rr r)) : Int) - (i + 1)).toNat < ((ptsN (arcG (rr r)) : Int) - i).toNat := by omega
  generalize atC (rr r) (rr r) 0 181 (i + 1) (divN (arcG (rr r)).cur) = X at q ⊢
  generalize atC 0 (rr r) (rr r) 181 (i + 1) (divN (arcG (rr r)).cur) = Y at q ⊢
  have sx := sq0 X
  have sy := sq0 Y
  have hb : (rr r + 2) * (rr r + 2) ≤ 30002 * 30002 := Int.mul_le_mul (by omega) (by omega) (by omega) (by omega)
  have hc : 0 ≤ (rr r - 2) * (rr r - 2) := sq0 _
  exact ⟨by omega, by omega, by omega, by omega, by omega, by omega, by omega, fun h => absurd h (by omega), fun _ => ⟨by omega, by omega, by omega, fun h => absurd h (by omega), fun _ => ⟨by omega, (i + 1 : Int), ⟨show 0 ≤ i + 1 by omega, show i + 1 ≤ (ptsN (arcG (rr r)) : Int) by omega⟩, rfl, ms⟩⟩⟩
end Go.Proofs.Ytmedlibkhlgdjaa.Coc
