/- path.number of a numeral: by the evaluation. -/
import Derived.Test.YthappngbapbkfaaDoorTxa
set_option linter.unusedSimpArgs false
set_option linter.unusedVariables false
namespace Go.Proofs.YthappngbapbkfaaDoor.Txn
open Go.RowKit Sx Num Aff Con Cop Coh Pth Pmp Pte Txp Txa
set_option maxRecDepth 100000
def mns : ByteArray := ⟨#[45]⟩
/-- What is left behind a minus, and whether there is one. -/
def dgs (s : ByteArray) : ByteArray := CpG.t ⟨s, mns⟩
def neg (s : ByteArray) : Bool := CpG.b ⟨s, mns⟩
/-- The value of the first i digits. -/
def dvp (t : ByteArray) : Nat → Int
  | 0 => 0
  | i + 1 => 10 * dvp t i + (byteAt t i - 48)
def numV (s : ByteArray) : Int := bif neg s then 0 - dvp (dgs s) (dgs s).size else dvp (dgs s) (dgs s).size
/-- A numeral of at most five digits. -/
structure Dig (s : ByteArray) : Prop where
  n : 1 ≤ (dgs s).size ∧ (dgs s).size ≤ 5
  d : ∀ i, i < (dgs s).size → 48 ≤ byteAt (dgs s) i ∧ byteAt (dgs s) i ≤ 57
  z : byteAt (dgs s) 0 = 48 → neg s = false ∧ (dgs s).size = 1
def nmI (s : ByteArray) : Inv := ⟨Nat, fun i => i ≤ (dgs s).size, fun i => ⟨[(4, .str (dgs s)), (5, .bool (neg s)), (6, .int .i64 (dvp (dgs s) i)), (35, .int .i64 (dgs s).size), (36, .int .i64 i)], []⟩, fun i => (dgs s).size - i⟩
def spNumber : FSpec := mkSpec 16 (γ := ByteArray) (fun | [.str s] => some s | _ => none) (fun s => [.str s]) Dig (fun s => .tup 2 (lst [.int .i64 (numV s), .lit true]))
theorem dvp_le {s : ByteArray} (h : Dig s) : ∀ i, i ≤ (dgs s).size → 0 ≤ dvp (dgs s) i ∧ dvp (dgs s) i + 1 ≤ 10 ^ i
  | 0, _ => ⟨Int.le_refl 0, Int.le_refl 1⟩
  | i + 1, hi => by
    have h1 := dvp_le h i (by omega)
    have h2 := h.d i (by omega)
    show 0 ≤ 10 * dvp (dgs s) i + (byteAt (dgs s) i - 48) ∧ 10 * dvp (dgs s) i + (byteAt (dgs s) i - 48) + 1 ≤ 10 ^ (i + 1)
    rw [Int.pow_succ]
    omega
theorem dvp_5 {s : ByteArray} (h : Dig s) {i : Nat} (hi : i ≤ (dgs s).size) : 0 ≤ dvp (dgs s) i ∧ dvp (dgs s) i ≤ 99999 := by
  have h1 := dvp_le h i hi
  have h5 := h.n.2
  have : (10 : Int) ^ i ≤ 10 ^ 5 := by
    match i, (by omega : i ≤ 5) with
    | 0, _ => decide
    | 1, _ => decide
    | 2, _ => decide
    | 3, _ => decide
    | 4, _ => decide
    | 5, _ => decide
  have e : (10 : Int) ^ 5 = 100000 := by decide
  omega
theorem ok_number : SpecOK Tryd.prog spNumber := by
  refine spec_sound (specs := [spCutP]) (all_ok (⟨ok_cutP, trivial⟩)) (eqs := []) (fun _ _ h => (List.not_mem_nil h).elim) Aff.mixed Tryd.func16 rfl (by kernel_rfl) (fun _ _ => by kernel_rfl) (fun g => (⟨[(6, .inv (nmI g))], []⟩ : Ann)) (fun g => Nat.le_of_ble_eq_true (by kernel_rfl)) ?_
  rintro s hs
  refine vc_of (B := let z19 := (1 : Int);let z16 := (10 : Int);let z10 := (0 : Int);let z6 := (↑(dgs s).size : Int);let z5 := (9223372036854775807 : Int);let z4 := (-9223372036854775808 : Int);let z1 := (Txa.CpG.mk s (ByteArray.mk #[(45 : UInt8)])); let z15 := (↑z1.t.size : Int);let z0 := (IntKind.i64 = IntKind.i64); let z3 := (∃ (g : Nat), Sx.Ask ((nmI s).pre g) ∧ (Sx.Ask (z1.t = dgs s) ∧ Sx.Ask (z1.b = neg s) ∧ (Sx.Ask z0 ∧ Sx.Ask (z10 = dvp (dgs s) g)) ∧ (Sx.Ask z0 ∧ Sx.Ask (z15 = z6)) ∧ (Sx.Ask z0 ∧ Sx.Ask (z10 = (↑g : Int))) ∧ True) ∧ True); let z2 := (True ∧ Sx.Ask z0 ∧ Sx.Ask (z10 = numV s)); let z14 := (True ∧ True ∧ True ∧ True ∧ True ∧ True ∧ z2 ∧ Sx.Ask (false = true)); let z11 := (True ∧ True ∧ True ∧ z2 ∧ Sx.Ask (false = true)); let z9 := (True ∧ True ∧ True ∧ True ∧ z2 ∧ Sx.Ask (false = true));True ∧ True ∧ True ∧ ((Sx.Ask (s = s) ∧ Sx.Ask (ByteArray.mk #[(45 : UInt8)] = ByteArray.mk #[(45 : UInt8)]) ∧ True) ∧ Sx.Ask True) ∧ True ∧ True ∧ True ∧ True ∧ True ∧ True ∧ True ∧ True ∧ True ∧ Sx.Br (decide (z15 < z19)) z14 (True ∧ True ∧ True ∧ True ∧ True ∧ Sx.Br (decide ((5 : Int) < z15)) z9 (True ∧ Sx.Ask (z10 ≤ z10 ∧ z10 < z15) ∧ True ∧ True ∧ Sx.Br (decide (byteAt z1.t (Int.toNat z10) = (48 : Int))) (True ∧ True ∧ Sx.Br z1.b z14 (True ∧ True ∧ True ∧ True ∧ True ∧ True ∧ Sx.Br (decide (z19 < z15)) z11 (True ∧ True ∧ True ∧ True ∧ z3 ∧ ∀ (g : Nat), let z12 := (↑g : Int); let z17 := (z10 ≤ z12 ∧ z12 < z6); let z7 := (byteAt (dgs s) z12.toNat - (48 : Int)); (nmI s).pre g → True ∧ Sx.Br (decide (z12 < z6)) (True ∧ True ∧ True ∧ True ∧ Sx.Ask z17 ∧ True ∧ True ∧ Sx.Br (decide (byteAt (dgs s) z12.toNat < (48 : Int))) z9 (True ∧ True ∧ Sx.Ask z17 ∧ True ∧ True ∧ Sx.Br (decide ((57 : Int) < byteAt (dgs s) z12.toNat)) z11 (True ∧ Sx.Ask (z4 ≤ z16 * dvp (dgs s) g ∧ z16 * dvp (dgs s) g ≤ z5) ∧ True ∧ True ∧ Sx.Ask z17 ∧ Sx.Ask True ∧ Sx.Ask (z4 ≤ IntKind.u8.wrap z7 ∧ IntKind.u8.wrap z7 ≤ z5) ∧ Sx.Ask (z4 ≤ z16 * dvp (dgs s) g + IntKind.u8.wrap z7 ∧ z16 * dvp (dgs s) g + IntKind.u8.wrap z7 ≤ z5) ∧ True ∧ Sx.Ask (z4 ≤ z12 + z19 ∧ z12 + z19 ≤ z5) ∧ True ∧ ∃ (g' : Nat), Sx.Ask ((nmI s).pre g') ∧ ((Sx.Ask (dgs s = dgs s) ∧ Sx.Ask (neg s = neg s) ∧ (Sx.Ask z0 ∧ Sx.Ask (z16 * dvp (dgs s) g + IntKind.u8.wrap z7 = dvp (dgs s) g')) ∧ (Sx.Ask z0 ∧ Sx.Ask (z6 = z6)) ∧ (Sx.Ask z0 ∧ Sx.Ask (z12 + z19 = (↑g' : Int))) ∧ True) ∧ True) ∧ Sx.Ask ((nmI s).meas g' < (nmI s).meas g)))) (True ∧ Sx.Br (neg s) (True ∧ Sx.Ask (z4 ≤ z10 - dvp (dgs s) g ∧ z10 - dvp (dgs s) g ≤ z5) ∧ True ∧ True ∧ True ∧ True ∧ True ∧ (True ∧ Sx.Ask z0 ∧ Sx.Ask (z10 - dvp (dgs s) g = numV s)) ∧ Sx.Ask (true = true)) (True ∧ True ∧ True ∧ True ∧ (True ∧ Sx.Ask z0 ∧ Sx.Ask (dvp (dgs s) g = numV s)) ∧ Sx.Ask (true = true)))))) (True ∧ True ∧ True ∧ True ∧ True ∧ True ∧ z3 ∧ ∀ (g : Nat), let z13 := (↑g : Int); let z18 := (z10 ≤ z13 ∧ z13 < z6); let z8 := (byteAt (dgs s) z13.toNat - (48 : Int)); (nmI s).pre g → True ∧ Sx.Br (decide (z13 < z6)) (True ∧ True ∧ True ∧ True ∧ Sx.Ask z18 ∧ True ∧ True ∧ Sx.Br (decide (byteAt (dgs s) z13.toNat < (48 : Int))) z9 (True ∧ True ∧ Sx.Ask z18 ∧ True ∧ True ∧ Sx.Br (decide ((57 : Int) < byteAt (dgs s) z13.toNat)) z11 (True ∧ Sx.Ask (z4 ≤ z16 * dvp (dgs s) g ∧ z16 * dvp (dgs s) g ≤ z5) ∧ True ∧ True ∧ Sx.Ask z18 ∧ Sx.Ask True ∧ Sx.Ask (z4 ≤ IntKind.u8.wrap z8 ∧ IntKind.u8.wrap z8 ≤ z5) ∧ Sx.Ask (z4 ≤ z16 * dvp (dgs s) g + IntKind.u8.wrap z8 ∧ z16 * dvp (dgs s) g + IntKind.u8.wrap z8 ≤ z5) ∧ True ∧ Sx.Ask (z4 ≤ z13 + z19 ∧ z13 + z19 ≤ z5) ∧ True ∧ ∃ (g' : Nat), Sx.Ask ((nmI s).pre g') ∧ ((Sx.Ask (dgs s = dgs s) ∧ Sx.Ask (neg s = neg s) ∧ (Sx.Ask z0 ∧ Sx.Ask (z16 * dvp (dgs s) g + IntKind.u8.wrap z8 = dvp (dgs s) g')) ∧ (Sx.Ask z0 ∧ Sx.Ask (z6 = z6)) ∧ (Sx.Ask z0 ∧ Sx.Ask (z13 + z19 = (↑g' : Int))) ∧ True) ∧ True) ∧ Sx.Ask ((nmI s).meas g' < (nmI s).meas g)))) (True ∧ Sx.Br (neg s) (True ∧ Sx.Ask (z4 ≤ z10 - dvp (dgs s) g ∧ z10 - dvp (dgs s) g ≤ z5) ∧ True ∧ True ∧ True ∧ True ∧ True ∧ (True ∧ Sx.Ask z0 ∧ Sx.Ask (z10 - dvp (dgs s) g = numV s)) ∧ Sx.Ask (true = true)) (True ∧ True ∧ True ∧ True ∧ (True ∧ Sx.Ask z0 ∧ Sx.Ask (dvp (dgs s) g = numV s)) ∧ Sx.Ask (true = true))))))) (by kernel_rfl) ?_
  simp only [ask_iff, br_iff, eq_self, true_and, and_true, implies_true, forall_const, decide_eq_true_eq, decide_eq_false_iff_not, ne_eq, Nat.mul_one, Nat.add_zero, Nat.zero_add, Int.toNat_natCast]
  have e0 : (⟨s, ⟨#[45]⟩⟩ : CpG).t = dgs s := rfl
  have e1 : (⟨s, ⟨#[45]⟩⟩ : CpG).b = neg s := rfl
  rw [e0, e1]
  have hn := hs.n
  have hfin : ∀ k : Nat, (nmI s).pre k → ¬ (k : Int) < ((dgs s).size : Int) → (neg s = true → (-9223372036854775808 ≤ 0 - dvp (dgs s) k ∧ 0 - dvp (dgs s) k ≤ 9223372036854775807) ∧ 0 - dvp (dgs s) k = numV s) ∧ (neg s = false → dvp (dgs s) k = numV s) := fun k hk hge => by
    have hk : k ≤ (dgs s).size := hk
    have hd := dvp_5 hs hk
    obtain rfl : k = (dgs s).size := by omega
    exact ⟨fun h => ⟨by omega, by unfold numV; rw [h]; rfl⟩, fun h => by unfold numV; rw [h]; rfl⟩
  have hw : ∀ k, k < (dgs s).size → IntKind.u8.wrap (byteAt (dgs s) k - 48) = byteAt (dgs s) k - 48 := fun k hk => by
    have := hs.d k hk
    rw [IntKind.wrap_u8]; omega
  have hgo : (∃ g : Nat, (nmI s).pre g ∧ dgs s = dgs s ∧ neg s = neg s ∧ 0 = dvp (dgs s) g ∧ ((dgs s).size : Int) = ((dgs s).size : Int) ∧ 0 = (g : Int)) := ⟨0, Nat.zero_le _, rfl, rfl, rfl, rfl, rfl⟩
  have hst : ∀ k : Nat, (nmI s).pre k → (k : Int) < ((dgs s).size : Int) → (k < (dgs s).size ∧ (nmI s).pre (k + 1) ∧ (nmI s).meas (k + 1) < (nmI s).meas k) := fun k hk hlt => ⟨by omega, (by show k + 1 ≤ (dgs s).size; omega), (by show (dgs s).size - (k + 1) < (dgs s).size - k; omega)⟩
  refine ⟨fun h => by omega, fun _ => ⟨fun h => by omega, fun _ => ⟨by omega, fun hz => ⟨fun hb => ?_, fun hb => ⟨fun h => ?_, fun _ => ⟨hgo, fun k hk => ⟨fun hlt => ?_, hfin k hk⟩⟩⟩⟩, fun hz => ⟨hgo, fun k hk => ⟨fun hlt => ?_, hfin k hk⟩⟩⟩⟩⟩
  · have := (hs.z hz).1; rw [hb] at this; cases this
  · have := (hs.z hz).2; omega
  all_goals
    obtain ⟨h1, h2, h3⟩ := hst k hk hlt
    have hdk := hs.d k h1
    have hv := dvp_5 hs (i := k) (by omega)
    have hv1 := dvp_5 hs (i := k + 1) (by omega)
    rw [hw k h1]
    refine ⟨by omega, fun h => by omega, fun _ => ⟨by omega, fun h => by omega, fun _ => ⟨by omega, by omega, by omega, by omega, by omega, k + 1, h2, ⟨rfl, rfl⟩, h3⟩⟩⟩
end Go.Proofs.YthappngbapbkfaaDoor.Txn
