/- num.MulDiv, num.Floor, printworkskeep1.NumMulDivHolds, by the evaluation. -/
import Derived.Test.YtbmgclpgompjmaaDiv
set_option linter.unusedSimpArgs false
set_option linter.unusedVariables false
namespace Go.Proofs.Ytbmgclpgompjmaa.Mdv
open Go.RowKit Sx Num Aff Dvl Go.Proofs.Ytbmgclpgompjmaa.Div
set_option maxRecDepth 100000
def fitC (x : Int) : Prop := -1099511627776 ≤ x ∧ x ≤ 1099511627776
instance (x : Int) : Decidable (fitC x) := inferInstanceAs (Decidable (_ ∧ _))
def allF (n : Nat) (f : Nat → Int) : Bool := (List.range n).all fun i => decide (fitC (f i))
theorem allF_iff {n : Nat} {f : Nat → Int} : allF n f = true ↔ ∀ i, i < n → fitC (f i) := by
  simp [allF]
structure WiG where
  n : Nat
  f : Nat → Int
def intsS (g : WiG) : SV := .sl g.n 1 (fun i _ => .int .i64 (g.f i))
def fiInv (g : WiG) : Inv := ⟨Int, fun i => (0 ≤ i ∧ i ≤ g.n) ∧ ∀ j : Nat, (j : Int) < i → fitC (g.f j), fun i => ⟨[(5, intsS g), (6, .int .i64 g.n), (7, .int .i64 i)], []⟩, fun i => (g.n - i).toNat⟩
def spFits : FSpec := mkSpec 65 (γ := WiG) (fun | [s] => some ⟨slLen s, slCell 0 s⟩ | _ => none) (fun g => [intsS g]) (fun g => g.n ≤ 4294967296) (fun g => .bool (allF g.n g.f))
theorem ok_fits : SpecOK Try.prog spFits := by
  refine spec_sound (specs := []) (all_ok trivial) (eqs := []) (fun _ _ h => (List.not_mem_nil h).elim) Aff.mixed Try.func65 rfl (by kernel_rfl) (fun _ _ => by kernel_rfl) (fun g => (⟨[(2, .inv (fiInv g))], []⟩ : Ann)) (fun g => Nat.le_of_ble_eq_true (by kernel_rfl)) ?_
  rintro ⟨n, f⟩ hn
  simp only at hn
  refine vc_of (B := True ∧ True ∧ True ∧ True ∧ (∃ (g : Int), Sx.Ask ((fiInv (WiG.mk n f)).pre g) ∧ ((Sx.Ask (n = n) ∧ ∀ (i : Nat), i < n → True ∧ Sx.Ask (IntKind.i64 = IntKind.i64) ∧ Sx.Ask (f i = f i)) ∧ (Sx.Ask (IntKind.i64 = IntKind.i64) ∧ Sx.Ask ((↑n : Int) = (↑n : Int))) ∧ (Sx.Ask (IntKind.i64 = IntKind.i64) ∧ Sx.Ask ((0 : Int) = g)) ∧ True) ∧ True) ∧ ∀ (g : Int), (fiInv (WiG.mk n f)).pre g → True ∧ Sx.Br (decide (g < (↑n : Int))) (Sx.Ask ((0 : Int) ≤ g ∧ g < (↑n : Int)) ∧ True ∧ True ∧ True ∧ True ∧ True ∧ Sx.Br (decide (f g.toNat < (-1099511627776 : Int))) (True ∧ True ∧ True ∧ Sx.Ask (false = allF n f)) (True ∧ True ∧ True ∧ Sx.Br (decide ((1099511627776 : Int) < f g.toNat)) (True ∧ True ∧ Sx.Ask (false = allF n f)) (Sx.Ask ((-9223372036854775808 : Int) ≤ g + (1 : Int) ∧ g + (1 : Int) ≤ (9223372036854775807 : Int)) ∧ True ∧ ∃ (g' : Int), Sx.Ask ((fiInv (WiG.mk n f)).pre g') ∧ (((Sx.Ask (n = n) ∧ ∀ (i : Nat), i < n → True ∧ Sx.Ask (IntKind.i64 = IntKind.i64) ∧ Sx.Ask (f i = f i)) ∧ (Sx.Ask (IntKind.i64 = IntKind.i64) ∧ Sx.Ask ((↑n : Int) = (↑n : Int))) ∧ (Sx.Ask (IntKind.i64 = IntKind.i64) ∧ Sx.Ask (g + (1 : Int) = g')) ∧ True) ∧ True) ∧ Sx.Ask ((fiInv (WiG.mk n f)).meas g' < (fiInv (WiG.mk n f)).meas g)))) (True ∧ True ∧ Sx.Ask (true = allF n f))) (by kernel_rfl) ?_
  simp only [ask_iff, br_iff, eq_self, true_and, and_true, implies_true, forall_const, decide_eq_true_eq, decide_eq_false_iff_not, ne_eq, Nat.mul_one, Nat.add_zero, Nat.zero_add]
  have no : ¬ (∀ i, i < n → fitC (f i)) → false = allF n f := fun h => (Bool.eq_false_iff.2 fun hc => h (allF_iff.1 hc)).symm
  refine ⟨⟨(0 : Int), ⟨⟨Int.le_refl 0, Int.natCast_nonneg n⟩, fun j hj => absurd hj (by omega)⟩, rfl⟩, fun i hi => ?_⟩
  have hi' : (0 ≤ i ∧ i ≤ n) ∧ ∀ j : Nat, (j : Int) < i → fitC (f j) := hi
  refine ⟨fun hlt => ⟨by omega, fun h1 => no fun hc => ?_, fun h1 => ⟨fun h2 => no fun hc => ?_, fun h2 => ⟨by omega, (i + 1 : Int), ⟨⟨show 0 ≤ i + 1 by omega, show i + 1 ≤ n by omega⟩, fun j hj => ?_⟩, rfl, ?_⟩⟩⟩, fun hge => ?_⟩
  · have := hc i.toNat (by omega)
    unfold fitC at this
    omega
  · have := hc i.toNat (by omega)
    unfold fitC at this
    omega
  · by_cases hj2 : (j : Int) < i
    · exact hi'.2 j hj2
    · have hj3 : (j : Int) < i + 1 := hj
      obtain rfl : j = i.toNat := by omega
      show -1099511627776 ≤ f i.toNat ∧ f i.toNat ≤ 1099511627776
      omega
  · show (n - (i + 1)).toNat < (n - i).toNat
    omega
  · exact (allF_iff.2 fun k hk => hi'.2 k (by omega)).symm
def absU (x : Int) : Int := if x < 0 then 0 - x else x
def spSizeU : FSpec := mkSpec 67 (γ := Int) (fun | [.int _ x] => some x | _ => none) (fun x => [.int .i64 x]) (fun x => -4611686018427387904 ≤ x ∧ x ≤ 4611686018427387904) (fun x => .int .u64 (absU x))
theorem ok_sizeU : SpecOK Try.prog spSizeU := by
  refine spec_sound (specs := []) (all_ok trivial) (eqs := []) (fun _ _ h => (List.not_mem_nil h).elim) Aff.mixed Try.func67 rfl (by kernel_rfl) (fun _ _ => by kernel_rfl) (fun g => A0) (fun g => Nat.le_of_ble_eq_true (by kernel_rfl)) ?_
  rintro x ⟨x0, x1⟩
  refine vc_of (B := True ∧ True ∧ True ∧ Sx.Br (decide (x < (0 : Int))) (True ∧ Sx.Ask True ∧ Sx.Ask True ∧ True ∧ True ∧ Sx.Ask (IntKind.u64 = IntKind.u64) ∧ Sx.Ask (IntKind.u64.wrap ((0 : Int) - IntKind.u64.wrap x) = absU x)) (True ∧ Sx.Ask True ∧ True ∧ True ∧ Sx.Ask (IntKind.u64 = IntKind.u64) ∧ Sx.Ask (IntKind.u64.wrap x = absU x))) (by kernel_rfl) ?_
  simp only [ask_iff, br_iff, eq_self, true_and, and_true, implies_true, forall_const, decide_eq_true_eq, decide_eq_false_iff_not, ne_eq, Nat.mul_one, Nat.add_zero, Nat.zero_add]
  unfold absU
  refine ⟨fun h => ?_, fun h => ?_⟩
  · rw [if_pos h, IntKind.wrap_u64, IntKind.wrap_u64]; omega
  · rw [if_neg h, IntKind.wrap_u64]; omega
def spMul : FSpec := mkSpec 66 (γ := Int × Int) (fun | [.int _ x, .int _ y] => some (x, y) | _ => none) (fun g => [.int .u64 g.1, .int .u64 g.2]) (fun g => (0 ≤ g.1 ∧ g.1 < 18446744073709551616) ∧ 0 ≤ g.2 ∧ g.2 < 18446744073709551616)
  (fun g => .tup 2 (lst [.int .u64 (g.1 * g.2 / 18446744073709551616), .int .u64 (g.1 * g.2 % 18446744073709551616)]))
theorem ok_mul : SpecOK Try.prog spMul := by
  refine specOK_of (fun _ _ => by kernel_rfl) ?_
  rintro ⟨x, y⟩ ⟨⟨x0, x1⟩, y0, y1⟩ vals w X hsz hr hX
  simp only at x0 x1 y0 y1
  have r0 := hr 0 (by simp)
  have r1 := hr 1 (by simp)
  simp only [List.getD_cons_zero, List.getD_cons_succ] at r0 r1
  generalize e0 : vals.getD 0 undef = v0 at r0
  generalize e1 : vals.getD 1 undef = v1 at r1
  cases r0
  cases r1
  obtain ⟨a, rfl⟩ := Int.eq_ofNat_of_zero_le x0
  obtain ⟨b, rfl⟩ := Int.eq_ofNat_of_zero_le y0
  have hvals : vals = #[.int .u64 a, .int .u64 b] := by
    obtain ⟨l⟩ := vals
    match l, hsz with
    | [p, q], _ => simp at e0 e1; rw [e0, e1]
  rw [hvals]
  refine (Try.bits_Mul64 a b (by omega) (by omega) w).mono ?_
  rintro e w' ⟨rfl, rfl⟩
  refine ⟨_, rfl, ?_, Below.refl _ _⟩
  refine .tup rfl fun i hi => ?_
  match i, hi with
  | 0, _ => exact .int
  | 1, _ => exact .int
structure MdG where
  a : Int
  b : Int
  c : Int
def MdG.ok (g : MdG) : Prop := (fitC g.a ∧ fitC g.b ∧ 1 ≤ g.c ∧ g.c ≤ 1099511627776) ∧ ((g.a * g.b).natAbs : Int) ≤ g.c * 1099511627776
def spMd : FSpec := mkSpec 26 (γ := MdG) (fun | [.int _ a, .int _ b, .int _ c] => some ⟨a, b, c⟩ | _ => none) (fun g => [.int .i64 g.a, .int .i64 g.b, .int .i64 g.c]) MdG.ok (fun g => .tup 2 (lst [.int .i64 (g.a * g.b / g.c), .int .i64 0]))
theorem ok_md : SpecOK Try.prog spMd := by
  refine spec_sound (specs := [giv spFits, spSizeU, spMul, spDiv]) (all_ok (⟨giv_ok ok_fits, ok_sizeU, ok_mul, ok_div, trivial⟩)) (eqs := []) (fun _ _ h => (List.not_mem_nil h).elim) Aff.mixed Try.func26 rfl (by kernel_rfl) (fun _ _ => by kernel_rfl) (fun g => A0) (fun g => Nat.le_of_ble_eq_true (by kernel_rfl)) ?_
  rintro g hg
  refine vc_of (B := True ∧ True ∧ True ∧ True ∧ True ∧ True ∧ (((Sx.Ask ((3 : Nat) = (3 : Nat)) ∧ ∀ (i : Nat), i < (3 : Nat) → True ∧ Sx.Ask (IntKind.i64 = IntKind.i64) ∧ Sx.Ask ((bif decide (i = (2 : Nat)) then g.c else bif decide (i = (1 : Nat)) then g.b else g.a) = bif decide (i = (2 : Nat)) then g.c else bif decide (i = (1 : Nat)) then g.b else g.a)) ∧ True) ∧ Sx.Ask ((3 : Nat) ≤ (4294967296 : Nat))) ∧ True ∧ Sx.Br (!allF (3 : Nat) fun (i : Nat) => bif decide (i = (2 : Nat)) then g.c else bif decide (i = (1 : Nat)) then g.b else g.a) (True ∧ True ∧ True ∧ (True ∧ Sx.Ask (IntKind.i64 = IntKind.i64) ∧ Sx.Ask ((0 : Int) = g.a * g.b / g.c)) ∧ Sx.Ask (IntKind.i64 = IntKind.i64) ∧ Sx.Ask ((3 : Int) = (0 : Int))) (True ∧ True ∧ Sx.Br (decide (g.c < (1 : Int))) (True ∧ True ∧ True ∧ (True ∧ Sx.Ask (IntKind.i64 = IntKind.i64) ∧ Sx.Ask ((0 : Int) = g.a * g.b / g.c)) ∧ Sx.Ask (IntKind.i64 = IntKind.i64) ∧ Sx.Ask ((1 : Int) = (0 : Int))) (True ∧ (((Sx.Ask (IntKind.i64 = IntKind.i64) ∧ Sx.Ask (g.a = g.a)) ∧ True) ∧ Sx.Ask ((-4611686018427387904 : Int) ≤ g.a ∧ g.a ≤ (4611686018427387904 : Int))) ∧ True ∧ (((Sx.Ask (IntKind.i64 = IntKind.i64) ∧ Sx.Ask (g.b = g.b)) ∧ True) ∧ Sx.Ask ((-4611686018427387904 : Int) ≤ g.b ∧ g.b ≤ (4611686018427387904 : Int))) ∧ (((Sx.Ask (IntKind.u64 = IntKind.u64) ∧ Sx.Ask (absU g.a = absU g.a)) ∧ (Sx.Ask (IntKind.u64 = IntKind.u64) ∧ Sx.Ask (absU g.b = absU g.b)) ∧ True) ∧ Sx.Ask (((0 : Int) ≤ absU g.a ∧ absU g.a < (18446744073709551616 : Int)) ∧ (0 : Int) ≤ absU g.b ∧ absU g.b < (18446744073709551616 : Int))) ∧ True ∧ True ∧ True ∧ True ∧ True ∧ True ∧ True ∧ Sx.Ask True ∧ True ∧ Sx.Br (decide (IntKind.u64.wrap g.c ≤ absU g.a * absU g.b / (18446744073709551616 : Int))) (True ∧ True ∧ True ∧ (True ∧ Sx.Ask (IntKind.i64 = IntKind.i64) ∧ Sx.Ask ((0 : Int) = g.a * g.b / g.c)) ∧ Sx.Ask (IntKind.i64 = IntKind.i64) ∧ Sx.Ask ((10 : Int) = (0 : Int))) (True ∧ True ∧ True ∧ Sx.Ask True ∧ (((Sx.Ask (IntKind.u64 = IntKind.u64) ∧ Sx.Ask (absU g.a * absU g.b / (18446744073709551616 : Int) = absU g.a * absU g.b / (18446744073709551616 : Int))) ∧ (Sx.Ask (IntKind.u64 = IntKind.u64) ∧ Sx.Ask (absU g.a * absU g.b % (18446744073709551616 : Int) = absU g.a * absU g.b % (18446744073709551616 : Int))) ∧ (Sx.Ask (IntKind.u64 = IntKind.u64) ∧ Sx.Ask (IntKind.u64.wrap g.c = IntKind.u64.wrap g.c)) ∧ True) ∧ Sx.Ask (Go.Proofs.Ytbmgclpgompjmaa.Dvl.Dv.mk (absU g.a * absU g.b / (18446744073709551616 : Int)) (absU g.a * absU g.b % (18446744073709551616 : Int)) (IntKind.u64.wrap g.c)).ok) ∧ True ∧ True ∧ True ∧ True ∧ True ∧ True ∧ True ∧ Sx.Br (decide ((1099511627776 : Int) < (Go.Proofs.Ytbmgclpgompjmaa.Dvl.Dv.mk (absU g.a * absU g.b / (18446744073709551616 : Int)) (absU g.a * absU g.b % (18446744073709551616 : Int)) (IntKind.u64.wrap g.c)).M / IntKind.u64.wrap g.c)) (True ∧ True ∧ True ∧ (True ∧ Sx.Ask (IntKind.i64 = IntKind.i64) ∧ Sx.Ask ((0 : Int) = g.a * g.b / g.c)) ∧ Sx.Ask (IntKind.i64 = IntKind.i64) ∧ Sx.Ask ((10 : Int) = (0 : Int))) (True ∧ True ∧ True ∧ True ∧ True ∧ True ∧ True ∧ True ∧ Sx.Br (!decide (g.a < (0 : Int)) == decide (g.b < (0 : Int))) (True ∧ True ∧ True ∧ Sx.Br (decide ((0 : Int) < (Go.Proofs.Ytbmgclpgompjmaa.Dvl.Dv.mk (absU g.a * absU g.b / (18446744073709551616 : Int)) (absU g.a * absU g.b % (18446744073709551616 : Int)) (IntKind.u64.wrap g.c)).M % IntKind.u64.wrap g.c)) (True ∧ Sx.Ask True ∧ True ∧ True ∧ True ∧ Sx.Br (decide ((1099511627776 : Int) < IntKind.u64.wrap ((Go.Proofs.Ytbmgclpgompjmaa.Dvl.Dv.mk (absU g.a * absU g.b / (18446744073709551616 : Int)) (absU g.a * absU g.b % (18446744073709551616 : Int)) (IntKind.u64.wrap g.c)).M / IntKind.u64.wrap g.c + (1 : Int)))) (True ∧ True ∧ True ∧ (True ∧ Sx.Ask (IntKind.i64 = IntKind.i64) ∧ Sx.Ask ((0 : Int) = g.a * g.b / g.c)) ∧ Sx.Ask (IntKind.i64 = IntKind.i64) ∧ Sx.Ask ((10 : Int) = (0 : Int))) (True ∧ Sx.Br (!decide (g.a < (0 : Int)) == decide (g.b < (0 : Int))) (True ∧ Sx.Ask ((-9223372036854775808 : Int) ≤ IntKind.u64.wrap ((Go.Proofs.Ytbmgclpgompjmaa.Dvl.Dv.mk (absU g.a * absU g.b / (18446744073709551616 : Int)) (absU g.a * absU g.b % (18446744073709551616 : Int)) (IntKind.u64.wrap g.c)).M / IntKind.u64.wrap g.c + (1 : Int)) ∧ IntKind.u64.wrap ((Go.Proofs.Ytbmgclpgompjmaa.Dvl.Dv.mk (absU g.a * absU g.b / (18446744073709551616 : Int)) (absU g.a * absU g.b % (18446744073709551616 : Int)) (IntKind.u64.wrap g.c)).M / IntKind.u64.wrap g.c + (1 : Int)) ≤ (9223372036854775807 : Int)) ∧ Sx.Ask ((-9223372036854775808 : Int) ≤ (0 : Int) - IntKind.u64.wrap ((Go.Proofs.Ytbmgclpgompjmaa.Dvl.Dv.mk (absU g.a * absU g.b / (18446744073709551616 : Int)) (absU g.a * absU g.b % (18446744073709551616 : Int)) (IntKind.u64.wrap g.c)).M / IntKind.u64.wrap g.c + (1 : Int)) ∧ (0 : Int) - IntKind.u64.wrap ((Go.Proofs.Ytbmgclpgompjmaa.Dvl.Dv.mk (absU g.a * absU g.b / (18446744073709551616 : Int)) (absU g.a * absU g.b % (18446744073709551616 : Int)) (IntKind.u64.wrap g.c)).M / IntKind.u64.wrap g.c + (1 : Int)) ≤ (9223372036854775807 : Int)) ∧ True ∧ True ∧ True ∧ (True ∧ Sx.Ask (IntKind.i64 = IntKind.i64) ∧ Sx.Ask ((0 : Int) - IntKind.u64.wrap ((Go.Proofs.Ytbmgclpgompjmaa.Dvl.Dv.mk (absU g.a * absU g.b / (18446744073709551616 : Int)) (absU g.a * absU g.b % (18446744073709551616 : Int)) (IntKind.u64.wrap g.c)).M / IntKind.u64.wrap g.c + (1 : Int)) = g.a * g.b / g.c)) ∧ Sx.Ask (IntKind.i64 = IntKind.i64) ∧ Sx.Ask ((0 : Int) = (0 : Int))) (True ∧ Sx.Ask ((-9223372036854775808 : Int) ≤ IntKind.u64.wrap ((Go.Proofs.Ytbmgclpgompjmaa.Dvl.Dv.mk (absU g.a * absU g.b / (18446744073709551616 : Int)) (absU g.a * absU g.b % (18446744073709551616 : Int)) (IntKind.u64.wrap g.c)).M / IntKind.u64.wrap g.c + (1 : Int)) ∧ IntKind.u64.wrap ((Go.Proofs.Ytbmgclpgompjmaa.Dvl.Dv.mk (absU g.a * absU g.b / (18446744073709551616 : Int)) (absU g.a * absU g.b % (18446744073709551616 : Int)) (IntKind.u64.wrap g.c)).M / IntKind.u64.wrap g.c + (1 : Int)) ≤ (9223372036854775807 : Int)) ∧ True ∧ True ∧ True ∧ (True ∧ Sx.Ask (IntKind.i64 = IntKind.i64) ∧ Sx.Ask (IntKind.u64.wrap ((Go.Proofs.Ytbmgclpgompjmaa.Dvl.Dv.mk (absU g.a * absU g.b / (18446744073709551616 : Int)) (absU g.a * absU g.b % (18446744073709551616 : Int)) (IntKind.u64.wrap g.c)).M / IntKind.u64.wrap g.c + (1 : Int)) = g.a * g.b / g.c)) ∧ Sx.Ask (IntKind.i64 = IntKind.i64) ∧ Sx.Ask ((0 : Int) = (0 : Int))))) (True ∧ True ∧ Sx.Br (decide ((1099511627776 : Int) < (Go.Proofs.Ytbmgclpgompjmaa.Dvl.Dv.mk (absU g.a * absU g.b / (18446744073709551616 : Int)) (absU g.a * absU g.b % (18446744073709551616 : Int)) (IntKind.u64.wrap g.c)).M / IntKind.u64.wrap g.c)) (True ∧ True ∧ True ∧ (True ∧ Sx.Ask (IntKind.i64 = IntKind.i64) ∧ Sx.Ask ((0 : Int) = g.a * g.b / g.c)) ∧ Sx.Ask (IntKind.i64 = IntKind.i64) ∧ Sx.Ask ((10 : Int) = (0 : Int))) (True ∧ Sx.Br (!decide (g.a < (0 : Int)) == decide (g.b < (0 : Int))) (True ∧ Sx.Ask ((-9223372036854775808 : Int) ≤ (Go.Proofs.Ytbmgclpgompjmaa.Dvl.Dv.mk (absU g.a * absU g.b / (18446744073709551616 : Int)) (absU g.a * absU g.b % (18446744073709551616 : Int)) (IntKind.u64.wrap g.c)).M / IntKind.u64.wrap g.c ∧ (Go.Proofs.Ytbmgclpgompjmaa.Dvl.Dv.mk (absU g.a * absU g.b / (18446744073709551616 : Int)) (absU g.a * absU g.b % (18446744073709551616 : Int)) (IntKind.u64.wrap g.c)).M / IntKind.u64.wrap g.c ≤ (9223372036854775807 : Int)) ∧ Sx.Ask ((-9223372036854775808 : Int) ≤ (0 : Int) - (Go.Proofs.Ytbmgclpgompjmaa.Dvl.Dv.mk (absU g.a * absU g.b / (18446744073709551616 : Int)) (absU g.a * absU g.b % (18446744073709551616 : Int)) (IntKind.u64.wrap g.c)).M / IntKind.u64.wrap g.c ∧ (0 : Int) - (Go.Proofs.Ytbmgclpgompjmaa.Dvl.Dv.mk (absU g.a * absU g.b / (18446744073709551616 : Int)) (absU g.a * absU g.b % (18446744073709551616 : Int)) (IntKind.u64.wrap g.c)).M / IntKind.u64.wrap g.c ≤ (9223372036854775807 : Int)) ∧ True ∧ True ∧ True ∧ (True ∧ Sx.Ask (IntKind.i64 = IntKind.i64) ∧ Sx.Ask ((0 : Int) - (Go.Proofs.Ytbmgclpgompjmaa.Dvl.Dv.mk (absU g.a * absU g.b / (18446744073709551616 : Int)) (absU g.a * absU g.b % (18446744073709551616 : Int)) (IntKind.u64.wrap g.c)).M / IntKind.u64.wrap g.c = g.a * g.b / g.c)) ∧ Sx.Ask (IntKind.i64 = IntKind.i64) ∧ Sx.Ask ((0 : Int) = (0 : Int))) (True ∧ Sx.Ask ((-9223372036854775808 : Int) ≤ (Go.Proofs.Ytbmgclpgompjmaa.Dvl.Dv.mk (absU g.a * absU g.b / (18446744073709551616 : Int)) (absU g.a * absU g.b % (18446744073709551616 : Int)) (IntKind.u64.wrap g.c)).M / IntKind.u64.wrap g.c ∧ (Go.Proofs.Ytbmgclpgompjmaa.Dvl.Dv.mk (absU g.a * absU g.b / (18446744073709551616 : Int)) (absU g.a * absU g.b % (18446744073709551616 : Int)) (IntKind.u64.wrap g.c)).M / IntKind.u64.wrap g.c ≤ (9223372036854775807 : Int)) ∧ True ∧ True ∧ True ∧ (True ∧ Sx.Ask (IntKind.i64 = IntKind.i64) ∧ Sx.Ask ((Go.Proofs.Ytbmgclpgompjmaa.Dvl.Dv.mk (absU g.a * absU g.b / (18446744073709551616 : Int)) (absU g.a * absU g.b % (18446744073709551616 : Int)) (IntKind.u64.wrap g.c)).M / IntKind.u64.wrap g.c = g.a * g.b / g.c)) ∧ Sx.Ask (IntKind.i64 = IntKind.i64) ∧ Sx.Ask ((0 : Int) = (0 : Int)))))) (True ∧ True ∧ True ∧ Sx.Br (decide ((1099511627776 : Int) < (Go.Proofs.Ytbmgclpgompjmaa.Dvl.Dv.mk (absU g.a * absU g.b / (18446744073709551616 : Int)) (absU g.a * absU g.b % (18446744073709551616 : Int)) (IntKind.u64.wrap g.c)).M / IntKind.u64.wrap g.c)) (True ∧ True ∧ True ∧ (True ∧ Sx.Ask (IntKind.i64 = IntKind.i64) ∧ Sx.Ask ((0 : Int) = g.a * g.b / g.c)) ∧ Sx.Ask (IntKind.i64 = IntKind.i64) ∧ Sx.Ask ((10 : Int) = (0 : Int))) (True ∧ Sx.Br (!decide (g.a < (0 : Int)) == decide (g.b < (0 : Int))) (True ∧ Sx.Ask ((-9223372036854775808 : Int) ≤ (Go.Proofs.Ytbmgclpgompjmaa.Dvl.Dv.mk (absU g.a * absU g.b / (18446744073709551616 : Int)) (absU g.a * absU g.b % (18446744073709551616 : Int)) (IntKind.u64.wrap g.c)).M / IntKind.u64.wrap g.c ∧ (Go.Proofs.Ytbmgclpgompjmaa.Dvl.Dv.mk (absU g.a * absU g.b / (18446744073709551616 : Int)) (absU g.a * absU g.b % (18446744073709551616 : Int)) (IntKind.u64.wrap g.c)).M / IntKind.u64.wrap g.c ≤ (9223372036854775807 : Int)) ∧ Sx.Ask ((-9223372036854775808 : Int) ≤ (0 : Int) - (Go.Proofs.Ytbmgclpgompjmaa.Dvl.Dv.mk (absU g.a * absU g.b / (18446744073709551616 : Int)) (absU g.a * absU g.b % (18446744073709551616 : Int)) (IntKind.u64.wrap g.c)).M / IntKind.u64.wrap g.c ∧ (0 : Int) - (Go.Proofs.Ytbmgclpgompjmaa.Dvl.Dv.mk (absU g.a * absU g.b / (18446744073709551616 : Int)) (absU g.a * absU g.b % (18446744073709551616 : Int)) (IntKind.u64.wrap g.c)).M / IntKind.u64.wrap g.c ≤ (9223372036854775807 : Int)) ∧ True ∧ True ∧ True ∧ (True ∧ Sx.Ask (IntKind.i64 = IntKind.i64) ∧ Sx.Ask ((0 : Int) - (Go.Proofs.Ytbmgclpgompjmaa.Dvl.Dv.mk (absU g.a * absU g.b / (18446744073709551616 : Int)) (absU g.a * absU g.b % (18446744073709551616 : Int)) (IntKind.u64.wrap g.c)).M / IntKind.u64.wrap g.c = g.a * g.b / g.c)) ∧ Sx.Ask (IntKind.i64 = IntKind.i64) ∧ Sx.Ask ((0 : Int) = (0 : Int))) (True ∧ Sx.Ask ((-9223372036854775808 : Int) ≤ (Go.Proofs.Ytbmgclpgompjmaa.Dvl.Dv.mk (absU g.a * absU g.b / (18446744073709551616 : Int)) (absU g.a * absU g.b % (18446744073709551616 : Int)) (IntKind.u64.wrap g.c)).M / IntKind.u64.wrap g.c ∧ (Go.Proofs.Ytbmgclpgompjmaa.Dvl.Dv.mk (absU g.a * absU g.b / (18446744073709551616 : Int)) (absU g.a * absU g.b % (18446744073709551616 : Int)) (IntKind.u64.wrap g.c)).M / IntKind.u64.wrap g.c ≤ (9223372036854775807 : Int)) ∧ True ∧ True ∧ True ∧ (True ∧ Sx.Ask (IntKind.i64 = IntKind.i64) ∧ Sx.Ask ((Go.Proofs.Ytbmgclpgompjmaa.Dvl.Dv.mk (absU g.a * absU g.b / (18446744073709551616 : Int)) (absU g.a * absU g.b % (18446744073709551616 : Int)) (IntKind.u64.wrap g.c)).M / IntKind.u64.wrap g.c = g.a * g.b / g.c)) ∧ Sx.Ask (IntKind.i64 = IntKind.i64) ∧ Sx.Ask ((0 : Int) = (0 : Int)))))))))) (by kernel_rfl) ?_
  simp only [ask_iff, br_iff, eq_self, true_and, and_true, implies_true, forall_const, decide_eq_true_eq, decide_eq_false_iff_not, ne_eq, Nat.mul_one, Nat.add_zero, Nat.zero_add]
  obtain ⟨⟨⟨a0, a1⟩, ⟨b0, b1⟩, c0, c1⟩, hP⟩ := hg
  have hall : (allF 3 fun i => bif decide (i = 2) then g.c else bif decide (i = 1) then g.b else g.a) = true := allF_iff.2 fun i hi => by
    match i, hi with
    | 0, _ => exact ⟨a0, a1⟩
    | 1, _ => exact ⟨b0, b1⟩
    | 2, _ => exact ⟨by show -1099511627776 ≤ g.c; omega, c1⟩
  have ua : 0 ≤ absU g.a ∧ absU g.a ≤ 1099511627776 := by unfold absU; omega
  have ub : 0 ≤ absU g.b ∧ absU g.b ≤ 1099511627776 := by unfold absU; omega
  have wc : IntKind.u64.wrap g.c = g.c := ww ⟨by omega, by omega⟩
  have hP0 : 0 ≤ absU g.a * absU g.b := Int.mul_nonneg ua.1 ub.1
  have hPP : absU g.a * absU g.b = ((g.a * g.b).natAbs : Int) := by
    rw [Int.natAbs_mul, Int.natCast_mul, show absU g.a = (g.a.natAbs : Int) by unfold absU; omega, show absU g.b = (g.b.natAbs : Int) by unfold absU; omega]
  have eM : Dv.M ⟨absU g.a * absU g.b / 18446744073709551616, absU g.a * absU g.b % 18446744073709551616, g.c⟩ = absU g.a * absU g.b := by unfold Dv.M; simp only; omega
  have hm : ∀ m, (!decide (g.a < 0) == decide (g.b < 0)) = m → (m = true → g.a * g.b = -(absU g.a * absU g.b)) ∧ (m = false → g.a * g.b = absU g.a * absU g.b) := fun m e => by
    subst e
    unfold absU
    by_cases ha : g.a < 0 <;> by_cases hb : g.b < 0
    · rw [decide_eq_true ha, decide_eq_true hb, if_pos ha, if_pos hb]
      exact ⟨fun h => absurd h (by decide), fun _ => by grind⟩
    · rw [decide_eq_true ha, decide_eq_false hb, if_pos ha, if_neg hb]
      exact ⟨fun _ => by grind, fun h => absurd h (by decide)⟩
    · rw [decide_eq_false ha, decide_eq_true hb, if_neg ha, if_pos hb]
      exact ⟨fun _ => by grind, fun h => absurd h (by decide)⟩
    · rw [decide_eq_false ha, decide_eq_false hb, if_neg ha, if_neg hb]
      exact ⟨fun h => absurd h (by decide), fun _ => by grind⟩
  simp only [hall, wc, eM, Bool.not_true]
  rw [← hPP] at hP
  generalize hmm : (!decide (g.a < 0) == decide (g.b < 0)) = m
  have hm := hm m hmm
  generalize absU g.a * absU g.b = P at *
  have hd := Int.emod_add_mul_ediv P g.c
  have r0 := Int.emod_nonneg P (b := g.c) (by omega)
  have r1 := Int.emod_lt_of_pos P (b := g.c) (by omega)
  have q0 := Int.ediv_nonneg hP0 (show 0 ≤ g.c by omega)
  have hF1 : m = false → g.a * g.b / g.c = P / g.c := fun h => by rw [hm.2 h]
  have hF2 : m = true → g.a * g.b / g.c = if P % g.c = 0 then -(P / g.c) else -(P / g.c) - 1 := fun h => by
    rw [hm.1 h]
    rw [Int.mul_comm g.c] at hd
    split
    · rename_i hz
      rw [show -P = -(P / g.c) * g.c by rw [Int.neg_mul]; omega]
      exact Int.mul_ediv_cancel _ (by omega)
    · rename_i hz
      rw [show -P = g.c - P % g.c + (-(P / g.c) - 1) * g.c by rw [Int.sub_mul, Int.neg_mul, Int.one_mul]; omega, Int.add_mul_ediv_right _ _ (by omega), Int.ediv_eq_zero_of_lt (by omega) (by omega), Int.zero_add]
  have hQ : P / g.c ≤ 1099511627776 ∧ (P % g.c ≠ 0 → P / g.c + 1 ≤ 1099511627776) := by
    have k : 1099511627776 ≤ P / g.c → g.c * 1099511627776 ≤ g.c * (P / g.c) := fun h => Int.mul_le_mul_of_nonneg_left h (by omega)
    have k2 : 1099511627777 ≤ P / g.c → g.c * 1099511627777 ≤ g.c * (P / g.c) := fun h => Int.mul_le_mul_of_nonneg_left h (by omega)
    omega
  have hlt : P / 18446744073709551616 < g.c := by omega
  have hdv : Dv.ok ⟨P / 18446744073709551616, P % 18446744073709551616, g.c⟩ := by
    refine ⟨⟨?_, hlt⟩, ⟨?_, ?_⟩, ?_, ?_⟩ <;> simp only <;> omega
  generalize P / g.c = Q at *
  generalize P % g.c = R at *
  generalize g.a * g.b / g.c = F at *
  have w1 : IntKind.u64.wrap (Q + 1) = Q + 1 := ww ⟨by omega, by omega⟩
  simp only [w1]
  refine ⟨by decide, fun h => absurd h (by decide), fun _ => ⟨fun h => by omega, fun _ => ⟨by omega, by omega, ⟨⟨ua.1, by omega⟩, ub.1, by omega⟩, fun h => by omega, fun _ => ⟨hdv, fun h => by omega, fun _ => ?_⟩⟩⟩⟩
  clear hmm hm hdv hd hall wc
  cases m with
  | true =>
    have hF := hF2 rfl
    clear hF1 hF2
    repeat' (first | apply And.intro | intro _)
    all_goals first | contradiction | omega
  | false =>
    have hF := hF1 rfl
    clear hF1 hF2
    repeat' (first | apply And.intro | intro _)
    all_goals first | contradiction | omega
def spFloor : FSpec := mkSpec 27 (γ := Int × Int) (fun | [.int _ a, .int _ b] => some (a, b) | _ => none) (fun g => [.int .i64 g.1, .int .i64 g.2]) (fun g => fitC g.1 ∧ fitC g.2 ∧ 1 ≤ g.2) (fun g => .tup 3 (lst [.int .i64 (g.1 / g.2), .int .i64 (g.1 - g.1 / g.2 * g.2), .int .i64 0]))
theorem ok_floor : SpecOK Try.prog spFloor := by
  refine spec_sound (specs := [giv spFits, spQuo]) (all_ok (⟨giv_ok ok_fits, ok_quo, trivial⟩)) (eqs := []) (fun _ _ h => (List.not_mem_nil h).elim) Aff.mixed Try.func27 rfl (by kernel_rfl) (fun _ _ => by kernel_rfl) (fun g => A0) (fun g => Nat.le_of_ble_eq_true (by kernel_rfl)) ?_
  rintro g hg
  refine vc_of (B := True ∧ True ∧ True ∧ True ∧ True ∧ True ∧ (((Sx.Ask ((2 : Nat) = (2 : Nat)) ∧ ∀ (i : Nat), i < (2 : Nat) → True ∧ Sx.Ask (IntKind.i64 = IntKind.i64) ∧ Sx.Ask ((bif decide (i = (1 : Nat)) then g.snd else g.fst) = bif decide (i = (1 : Nat)) then g.snd else g.fst)) ∧ True) ∧ Sx.Ask ((2 : Nat) ≤ (4294967296 : Nat))) ∧ True ∧ Sx.Br (!allF (2 : Nat) fun (i : Nat) => bif decide (i = (1 : Nat)) then g.snd else g.fst) (True ∧ True ∧ True ∧ True ∧ ((True ∧ Sx.Ask (IntKind.i64 = IntKind.i64) ∧ Sx.Ask ((0 : Int) = g.fst / g.snd)) ∧ Sx.Ask (IntKind.i64 = IntKind.i64) ∧ Sx.Ask ((0 : Int) = g.fst - g.fst / g.snd * g.snd)) ∧ Sx.Ask (IntKind.i64 = IntKind.i64) ∧ Sx.Ask ((3 : Int) = (0 : Int))) (True ∧ True ∧ Sx.Br (decide (g.snd < (1 : Int))) (True ∧ True ∧ True ∧ True ∧ ((True ∧ Sx.Ask (IntKind.i64 = IntKind.i64) ∧ Sx.Ask ((0 : Int) = g.fst / g.snd)) ∧ Sx.Ask (IntKind.i64 = IntKind.i64) ∧ Sx.Ask ((0 : Int) = g.fst - g.fst / g.snd * g.snd)) ∧ Sx.Ask (IntKind.i64 = IntKind.i64) ∧ Sx.Ask ((1 : Int) = (0 : Int))) (True ∧ True ∧ (((Sx.Ask (IntKind.i64 = IntKind.i64) ∧ Sx.Ask (g.fst = g.fst)) ∧ (Sx.Ask (IntKind.i64 = IntKind.i64) ∧ Sx.Ask (g.snd = g.snd)) ∧ True) ∧ Sx.Ask (((-4611686018427387904 : Int) ≤ g.fst ∧ g.fst ≤ (4611686018427387904 : Int)) ∧ (1 : Int) ≤ g.snd ∧ g.snd ≤ (9223372036854775807 : Int))) ∧ True ∧ True ∧ True ∧ True ∧ True ∧ Sx.Ask ((-9223372036854775808 : Int) ≤ g.fst / g.snd * g.snd ∧ g.fst / g.snd * g.snd ≤ (9223372036854775807 : Int)) ∧ Sx.Ask ((-9223372036854775808 : Int) ≤ g.fst - g.fst / g.snd * g.snd ∧ g.fst - g.fst / g.snd * g.snd ≤ (9223372036854775807 : Int)) ∧ True ∧ True ∧ True ∧ True ∧ ((True ∧ Sx.Ask (IntKind.i64 = IntKind.i64) ∧ Sx.Ask (g.fst / g.snd = g.fst / g.snd)) ∧ Sx.Ask (IntKind.i64 = IntKind.i64) ∧ Sx.Ask (g.fst - g.fst / g.snd * g.snd = g.fst - g.fst / g.snd * g.snd)) ∧ Sx.Ask (IntKind.i64 = IntKind.i64) ∧ Sx.Ask ((0 : Int) = (0 : Int))))) (by kernel_rfl) ?_
  simp only [ask_iff, br_iff, eq_self, true_and, and_true, implies_true, forall_const, decide_eq_true_eq, decide_eq_false_iff_not, ne_eq, Nat.mul_one, Nat.add_zero, Nat.zero_add]
  obtain ⟨a, b⟩ := g
  obtain ⟨⟨a0, a1⟩, ⟨b0, b1⟩, b2⟩ := hg
  simp only at a0 a1 b0 b1 b2 ⊢
  have hall : (allF 2 fun i => bif decide (i = 1) then b else a) = true := allF_iff.2 fun i hi => by
    match i, hi with
    | 0, _ => exact ⟨a0, a1⟩
    | 1, _ => exact ⟨b0, b1⟩
  have q := quo_spec a b b2
  simp only [hall, Bool.not_true]
  refine ⟨by decide, fun h => absurd h (by decide), fun _ => ⟨fun h => by omega, fun _ => ⟨⟨by omega, by omega⟩, by omega, by omega⟩⟩⟩
structure NmG where
  a : Int
  b : Int
  c : Int
def spNm : FSpec := mkSpec 6 (γ := NmG) (fun | [.int _ a, .int _ b, .int _ c] => some ⟨a, b, c⟩ | _ => none) (fun g => [.int .i64 g.a, .int .i64 g.b, .int .i64 g.c]) (fun _ => True) (fun _ => .bool true)
theorem ok_nm : SpecOK Try.prog spNm := by
  refine spec_sound (specs := [spMd, spCut, spFloor]) (all_ok (⟨ok_md, ok_cut, ok_floor, trivial⟩)) (eqs := []) (fun _ _ h => (List.not_mem_nil h).elim) Aff.mixed Try.func6 rfl (by kernel_rfl) (fun _ _ => by kernel_rfl) (fun g => A0) (fun g => Nat.le_of_ble_eq_true (by kernel_rfl)) ?_
  rintro g _
  refine vc_of (B := True ∧ (((Sx.Ask (IntKind.i64 = IntKind.i64) ∧ Sx.Ask ((7 : Int) = (7 : Int))) ∧ (Sx.Ask (IntKind.i64 = IntKind.i64) ∧ Sx.Ask ((-3 : Int) = (-3 : Int))) ∧ (Sx.Ask (IntKind.i64 = IntKind.i64) ∧ Sx.Ask ((2 : Int) = (2 : Int))) ∧ True) ∧ Sx.Ask (MdG.mk (7 : Int) (-3 : Int) (2 : Int)).ok) ∧ True ∧ True ∧ True ∧ True ∧ True ∧ True ∧ True ∧ True ∧ True ∧ True ∧ True ∧ True ∧ (((Sx.Ask (IntKind.i64 = IntKind.i64) ∧ Sx.Ask (g.a = g.a)) ∧ (Sx.Ask (IntKind.i64 = IntKind.i64) ∧ Sx.Ask ((-1099511627776 : Int) = (-1099511627776 : Int))) ∧ (Sx.Ask (IntKind.i64 = IntKind.i64) ∧ Sx.Ask ((1099511627776 : Int) = (1099511627776 : Int))) ∧ True) ∧ Sx.Ask (((-2305843009213693952 : Int) ≤ (-1099511627776 : Int) ∧ (-1099511627776 : Int) ≤ (1099511627776 : Int)) ∧ (1099511627776 : Int) ≤ (4611686018427387903 : Int) ∧ (1099511627776 : Int) - (-1099511627776 : Int) ≤ (4611686018427387903 : Int))) ∧ True ∧ True ∧ (((Sx.Ask (IntKind.i64 = IntKind.i64) ∧ Sx.Ask (g.a = g.a)) ∧ (Sx.Ask (IntKind.i64 = IntKind.i64) ∧ Sx.Ask ((-524288 : Int) = (-524288 : Int))) ∧ (Sx.Ask (IntKind.i64 = IntKind.i64) ∧ Sx.Ask ((524288 : Int) = (524288 : Int))) ∧ True) ∧ Sx.Ask (((-2305843009213693952 : Int) ≤ (-524288 : Int) ∧ (-524288 : Int) ≤ (524288 : Int)) ∧ (524288 : Int) ≤ (4611686018427387903 : Int) ∧ (524288 : Int) - (-524288 : Int) ≤ (4611686018427387903 : Int))) ∧ True ∧ (((Sx.Ask (IntKind.i64 = IntKind.i64) ∧ Sx.Ask (g.b = g.b)) ∧ (Sx.Ask (IntKind.i64 = IntKind.i64) ∧ Sx.Ask ((-524288 : Int) = (-524288 : Int))) ∧ (Sx.Ask (IntKind.i64 = IntKind.i64) ∧ Sx.Ask ((524288 : Int) = (524288 : Int))) ∧ True) ∧ Sx.Ask (((-2305843009213693952 : Int) ≤ (-524288 : Int) ∧ (-524288 : Int) ≤ (524288 : Int)) ∧ (524288 : Int) ≤ (4611686018427387903 : Int) ∧ (524288 : Int) - (-524288 : Int) ≤ (4611686018427387903 : Int))) ∧ True ∧ (((Sx.Ask (IntKind.i64 = IntKind.i64) ∧ Sx.Ask (g.c = g.c)) ∧ (Sx.Ask (IntKind.i64 = IntKind.i64) ∧ Sx.Ask ((1 : Int) = (1 : Int))) ∧ (Sx.Ask (IntKind.i64 = IntKind.i64) ∧ Sx.Ask ((1099511627776 : Int) = (1099511627776 : Int))) ∧ True) ∧ Sx.Ask (((-2305843009213693952 : Int) ≤ (1 : Int) ∧ (1 : Int) ≤ (1099511627776 : Int)) ∧ (1099511627776 : Int) ≤ (4611686018427387903 : Int) ∧ (1099511627776 : Int) - (1 : Int) ≤ (4611686018427387903 : Int))) ∧ True ∧ True ∧ True ∧ True ∧ True ∧ True ∧ (((Sx.Ask (IntKind.i64 = IntKind.i64) ∧ Sx.Ask (cutI g.a (-524288 : Int) (524288 : Int) = cutI g.a (-524288 : Int) (524288 : Int))) ∧ (Sx.Ask (IntKind.i64 = IntKind.i64) ∧ Sx.Ask (cutI g.b (-524288 : Int) (524288 : Int) = cutI g.b (-524288 : Int) (524288 : Int))) ∧ (Sx.Ask (IntKind.i64 = IntKind.i64) ∧ Sx.Ask (cutI g.c (1 : Int) (1099511627776 : Int) = cutI g.c (1 : Int) (1099511627776 : Int))) ∧ True) ∧ Sx.Ask (MdG.mk (cutI g.a (-524288 : Int) (524288 : Int)) (cutI g.b (-524288 : Int) (524288 : Int)) (cutI g.c (1 : Int) (1099511627776 : Int))).ok) ∧ True ∧ True ∧ True ∧ True ∧ True ∧ True ∧ True ∧ Sx.Ask ((-9223372036854775808 : Int) ≤ cutI g.a (-524288 : Int) (524288 : Int) * cutI g.b (-524288 : Int) (524288 : Int) ∧ cutI g.a (-524288 : Int) (524288 : Int) * cutI g.b (-524288 : Int) (524288 : Int) ≤ (9223372036854775807 : Int)) ∧ True ∧ (((Sx.Ask (IntKind.i64 = IntKind.i64) ∧ Sx.Ask (cutI g.a (-524288 : Int) (524288 : Int) * cutI g.b (-524288 : Int) (524288 : Int) = cutI g.a (-524288 : Int) (524288 : Int) * cutI g.b (-524288 : Int) (524288 : Int))) ∧ (Sx.Ask (IntKind.i64 = IntKind.i64) ∧ Sx.Ask (cutI g.c (1 : Int) (1099511627776 : Int) = cutI g.c (1 : Int) (1099511627776 : Int))) ∧ True) ∧ Sx.Ask (fitC (cutI g.a (-524288 : Int) (524288 : Int) * cutI g.b (-524288 : Int) (524288 : Int)) ∧ fitC (cutI g.c (1 : Int) (1099511627776 : Int)) ∧ (1 : Int) ≤ cutI g.c (1 : Int) (1099511627776 : Int))) ∧ True ∧ True ∧ True ∧ True ∧ True ∧ True ∧ True ∧ True ∧ True ∧ True ∧ (((Sx.Ask (IntKind.i64 = IntKind.i64) ∧ Sx.Ask (cutI g.a (-1099511627776 : Int) (1099511627776 : Int) = cutI g.a (-1099511627776 : Int) (1099511627776 : Int))) ∧ (Sx.Ask (IntKind.i64 = IntKind.i64) ∧ Sx.Ask (cutI g.c (1 : Int) (1099511627776 : Int) = cutI g.c (1 : Int) (1099511627776 : Int))) ∧ (Sx.Ask (IntKind.i64 = IntKind.i64) ∧ Sx.Ask (cutI g.c (1 : Int) (1099511627776 : Int) = cutI g.c (1 : Int) (1099511627776 : Int))) ∧ True) ∧ Sx.Ask (MdG.mk (cutI g.a (-1099511627776 : Int) (1099511627776 : Int)) (cutI g.c (1 : Int) (1099511627776 : Int)) (cutI g.c (1 : Int) (1099511627776 : Int))).ok) ∧ True ∧ True ∧ True ∧ True ∧ True ∧ True ∧ True ∧ True ∧ True ∧ True ∧ True ∧ True ∧ True ∧ True ∧ True ∧ True ∧ True ∧ Sx.Br (decide (cutI g.a (-524288 : Int) (524288 : Int) * cutI g.b (-524288 : Int) (524288 : Int) / cutI g.c (1 : Int) (1099511627776 : Int) = cutI g.a (-524288 : Int) (524288 : Int) * cutI g.b (-524288 : Int) (524288 : Int) / cutI g.c (1 : Int) (1099511627776 : Int))) (True ∧ True ∧ True ∧ True ∧ True ∧ True ∧ True ∧ True ∧ True ∧ True ∧ Sx.Ask (decide (cutI g.a (-1099511627776 : Int) (1099511627776 : Int) * cutI g.c (1 : Int) (1099511627776 : Int) / cutI g.c (1 : Int) (1099511627776 : Int) = cutI g.a (-1099511627776 : Int) (1099511627776 : Int)) = true)) (True ∧ True ∧ True ∧ True ∧ True ∧ Sx.Ask (false = true))) (by kernel_rfl) ?_
  simp only [ask_iff, br_iff, eq_self, true_and, and_true, implies_true, forall_const, decide_eq_true_eq, decide_eq_false_iff_not, ne_eq, Nat.mul_one, Nat.add_zero, Nat.zero_add]
  have ca : -524288 ≤ cutI g.a (-524288) 524288 ∧ cutI g.a (-524288) 524288 ≤ 524288 := cutI_range g.a (-524288) 524288 (by decide)
  have cb : -524288 ≤ cutI g.b (-524288) 524288 ∧ cutI g.b (-524288) 524288 ≤ 524288 := cutI_range g.b (-524288) 524288 (by decide)
  have cc : 1 ≤ cutI g.c 1 1099511627776 ∧ cutI g.c 1 1099511627776 ≤ 1099511627776 := cutI_range g.c 1 1099511627776 (by decide)
  have cg : -1099511627776 ≤ cutI g.a (-1099511627776) 1099511627776 ∧ cutI g.a (-1099511627776) 1099511627776 ≤ 1099511627776 := cutI_range g.a (-1099511627776) 1099511627776 (by decide)
  generalize cutI g.a (-524288) 524288 = A at *
  generalize cutI g.b (-524288) 524288 = B at *
  generalize cutI g.c 1 1099511627776 = C at *
  generalize cutI g.a (-1099511627776) 1099511627776 = G at *
  have hab : (A * B).natAbs ≤ 524288 * 524288 := by
    rw [Int.natAbs_mul]
    exact Nat.mul_le_mul (by omega) (by omega)
  have hgc : (G * C).natAbs ≤ 1099511627776 * C.natAbs := by
    rw [Int.natAbs_mul]
    exact Nat.mul_le_mul_right _ (by omega)
  refine ⟨⟨⟨by unfold fitC; decide, by unfold fitC; decide, by decide, by decide⟩, by decide⟩, by omega, by omega, by omega, by omega, ⟨⟨⟨by show -1099511627776 ≤ A; omega, by show A ≤ 1099511627776; omega⟩, ⟨by show -1099511627776 ≤ B; omega, by show B ≤ 1099511627776; omega⟩, cc⟩, ?_⟩, by omega, ⟨⟨by omega, by omega⟩, ⟨by omega, by omega⟩, by omega⟩, ⟨⟨cg, ⟨by show -1099511627776 ≤ C; omega, cc.2⟩, cc⟩, ?_⟩, Int.mul_ediv_cancel _ (by omega), fun h => absurd trivial h⟩
  · show ((A * B).natAbs : Int) ≤ C * 1099511627776
    omega
  · show ((G * C).natAbs : Int) ≤ C * 1099511627776
    omega
end Go.Proofs.Ytbmgclpgompjmaa.Mdv
