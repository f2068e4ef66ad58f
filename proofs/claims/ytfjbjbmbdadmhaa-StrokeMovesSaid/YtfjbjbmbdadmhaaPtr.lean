/- slices.Clone and slices.Reverse of points: by the evaluation. -/
import Derived.Test.YtfjbjbmbdadmhaaFla
set_option linter.unusedSimpArgs false
set_option linter.unusedVariables false
namespace Go.Proofs.Ytfjbjbmbdadmhaa.Ptr
open Go.RowKit Sx Num Aff Con Fla
set_option maxRecDepth 100000
structure PtG where
  n : Nat
  f : Nat → Pt
def ptsS (g : PtG) : SV := .sl g.n 2 (fun i => lst (ptL (g.f i)))
def ptRow (ver n : Nat) (f : Nat → Pt) : SO := .row ver n 2 (fun i => lst (ptL (f i))) 34
def spCloneP : FSpec := mkSpecN 36 (γ := PtG) (fun | [s] => some ⟨slLen s, pxD s⟩ | _ => none) (fun g => [ptsS g]) (fun g => g.n ≤ 4294967296) (fun _ => .osl 0 0) (fun g => ptRow 0 g.n g.f)
theorem ok_cloneP : SpecOK Try.prog spCloneP := by
  refine spec_soundN (specs := []) (all_ok trivial) (eqs := []) (fun _ _ h => (List.not_mem_nil h).elim) Aff.mixed Try.func36 rfl (by kernel_rfl) (fun _ _ => by kernel_rfl) (fun g => (⟨[], [(1, [.nilc 0]), (1000002, [.own 2 34 2])]⟩ : Ann)) (fun _ => 0) (fun g => Nat.le_of_ble_eq_true (by kernel_rfl)) ?_
  rintro g hn
  refine vc_of (B := True ∧ (g.n = (0 : Nat) → True ∧ True ∧ True ∧ True ∧ (True ∧ True) ∧ (Sx.Ask ((0 : Nat) = g.n) ∧ ∀ (i : Nat), i < g.n → (True ∧ False) ∧ False) ∧ True) ∧ True ∧ True ∧ True ∧ True ∧ Sx.Ask ((0 : Nat) + g.n ≤ (9223372036854775807 : Nat) ∧ ((0 : Nat) + g.n) * (16 : Nat) ≤ (140737488355328 : Nat)) ∧ True ∧ True ∧ (True ∧ True) ∧ (Sx.Ask ((0 : Nat) + g.n = g.n) ∧ ∀ (i : Nat), i < g.n → (True ∧ Sx.Ask (IntKind.i64 = IntKind.i64) ∧ Sx.Ask ((g.f (i - (0 : Nat))).x = (g.f i).x)) ∧ Sx.Ask (IntKind.i64 = IntKind.i64) ∧ Sx.Ask ((g.f (i - (0 : Nat))).y = (g.f i).y)) ∧ True) (by kernel_rfl) ?_
  simp only [ask_iff, br_iff, eq_self, true_and, and_true, implies_true, forall_const, decide_eq_true_eq, decide_eq_false_iff_not, ne_eq, Nat.mul_one, Nat.add_zero, Nat.zero_add, Int.toNat_natCast, and_self, List.append_assoc, false_and, and_false]
  have hn : g.n ≤ 4294967296 := hn
  refine ⟨fun h => ⟨h.symm, fun i hi => absurd hi (by omega)⟩, by omega, fun i _ => ?_⟩
  rw [Nat.sub_zero]
  exact ⟨rfl, rfl⟩
/-! Reverse. -/
def rvF (f : Nat → Pt) (n i k : Nat) : Pt := if k < i ∨ n ≤ k + i then f (n - 1 - k) else f k
theorem pt_same {a b : Pt} (h : a = b) : a.x = b.x ∧ a.y = b.y := by rw [h]; exact ⟨rfl, rfl⟩
theorem pt2 {p0 p1 q0 q1 : Prop} [Decidable p0] [Decidable p1] [Decidable q0] [Decidable q1] {r t e f : Pt} {p q : Prop} [Decidable p] [Decidable q] (h : f = if p then r else if q then t else e) (hp : (p0 ↔ p) ∧ (p1 ↔ p)) (hq : (q0 ↔ q) ∧ (q1 ↔ q)) :
    ((bif decide p0 then r.x else bif decide q0 then t.x else e.x) = f.x ∧ (bif decide p1 then r.y else bif decide q1 then t.y else e.y) = f.y) := by
  obtain ⟨a0, a1⟩ := hp
  obtain ⟨b0, b1⟩ := hq
  rw [h]
  simp only [a0, a1, b0, b1]
  by_cases hp : p
  · simp [hp]
  · by_cases hq : q <;> simp [hp, hq]
def rvInv (g : PtG) : Inv := ⟨Nat, fun i => 2 * i ≤ g.n, fun i => ⟨[(0, .osl 0 0), (2, .int .i64 i), (3, .int .i64 ((g.n : Int) - 1 - i))], [ptRow 0 g.n (rvF g.f g.n i)]⟩, fun i => g.n - i⟩
def spRevP : FSpec := mkSpecM 15 [.arg 0] (γ := PtG) (fun | [_], [.row _ n _ g _] => some ⟨n, fun i => ptD (g i)⟩ | _, _ => none) (fun _ => [.osl 0 0]) (fun g => [ptRow 0 g.n g.f]) (fun g => g.n ≤ 4294967296) (fun _ => .tup 0 (lst [])) (fun g => [ptRow 0 g.n (fun k => g.f (g.n - 1 - k))])
theorem ok_revP : SpecOK Try.prog spRevP := by
  refine spec_soundM (specs := []) (all_ok trivial) (eqs := []) (fun _ _ h => (List.not_mem_nil h).elim) Aff.mixed Try.func15 rfl (by kernel_rfl) (fun _ _ => by kernel_rfl) (fun g => (⟨[(1, .inv (rvInv g))], []⟩ : Ann)) true (fun g => Nat.le_of_ble_eq_true (by kernel_rfl)) ?_
  rintro g hg
  refine vc_of (B := let z7 := (9223372036854775807 : Int);let z6 := (-9223372036854775808 : Int);let z4 := (0 : Nat);let z3 := (1 : Int);let z2 := (↑g.n : Int);let z1 := (IntKind.i64 = IntKind.i64);True ∧ True ∧ Sx.Ask (z6 ≤ z2 - z3 ∧ z2 - z3 ≤ z7) ∧ True ∧ True ∧ (∃ (g_1 : Nat), Sx.Ask ((rvInv g).pre g_1) ∧ True ∧ (True ∧ (Sx.Ask z1 ∧ Sx.Ask ((0 : Int) = (↑g_1 : Int))) ∧ (Sx.Ask z1 ∧ Sx.Ask (z2 - z3 = z2 - z3 - (↑g_1 : Int))) ∧ True) ∧ (Sx.Ask (g.n = g.n) ∧ ∀ (i : Nat), i < g.n → (True ∧ Sx.Ask z1 ∧ Sx.Ask ((g.f i).x = (rvF g.f g.n g_1 i).x)) ∧ Sx.Ask z1 ∧ Sx.Ask ((g.f i).y = (rvF g.f g.n g_1 i).y)) ∧ True) ∧ ∀ (g_1 : Nat), let z0 := (↑g_1 : Int); let z8 := ((0 : Int) ≤ z2 - z3 - z0 ∧ z2 - z3 - z0 < z2); let z5 := (z2 - z3 - z0); (rvInv g).pre g_1 → True ∧ True ∧ True ∧ Sx.Br (decide (z0 < z2 - z3 - z0)) (True ∧ True ∧ True ∧ True ∧ True ∧ True ∧ Sx.Ask z8 ∧ Sx.Ask (z5.toNat < g.n) ∧ True ∧ True ∧ Sx.Ask ((0 : Int) ≤ z0 ∧ z0 < z2) ∧ Sx.Ask (z0.toNat < g.n) ∧ Sx.Ask ((0 : Int) ≤ z0 ∧ z0 < z2) ∧ Sx.Ask (z0.toNat < g.n) ∧ Sx.Ask z8 ∧ Sx.Ask (z5.toNat < g.n) ∧ True ∧ Sx.Ask (z6 ≤ z0 + z3 ∧ z0 + z3 ≤ z7) ∧ True ∧ Sx.Ask (z6 ≤ z2 - z3 - z0 - z3 ∧ z2 - z3 - z0 - z3 ≤ z7) ∧ True ∧ True ∧ ∃ (g' : Nat), Sx.Ask ((rvInv g).pre g') ∧ True ∧ ((True ∧ (Sx.Ask z1 ∧ Sx.Ask (z0 + z3 = (↑g' : Int))) ∧ (Sx.Ask z1 ∧ Sx.Ask (z2 - z3 - z0 - z3 = z2 - z3 - (↑g' : Int))) ∧ True) ∧ (Sx.Ask (g.n = g.n) ∧ ∀ (i : Nat), i < g.n → (True ∧ Sx.Ask z1 ∧ Sx.Ask ((bif decide (i = z5.toNat ∧ z4 ≤ z4 ∧ z4 < z4 + (2 : Nat)) then (rvF g.f g.n g_1 z0.toNat).x else bif decide (i = z0.toNat ∧ z4 ≤ z4 ∧ z4 < z4 + (2 : Nat)) then (rvF g.f g.n g_1 z5.toNat).x else (rvF g.f g.n g_1 i).x) = (rvF g.f g.n g' i).x)) ∧ Sx.Ask z1 ∧ Sx.Ask ((bif decide (i = z5.toNat ∧ z4 ≤ (1 : Nat) ∧ (1 : Nat) < z4 + (2 : Nat)) then (rvF g.f g.n g_1 z0.toNat).y else bif decide (i = z0.toNat ∧ z4 ≤ (1 : Nat) ∧ (1 : Nat) < z4 + (2 : Nat)) then (rvF g.f g.n g_1 z5.toNat).y else (rvF g.f g.n g_1 i).y) = (rvF g.f g.n g' i).y)) ∧ True) ∧ Sx.Ask ((rvInv g).meas g' < (rvInv g).meas g_1)) (True ∧ True ∧ (True ∧ True) ∧ (Sx.Ask (g.n = g.n) ∧ ∀ (i : Nat), i < g.n → (True ∧ Sx.Ask z1 ∧ Sx.Ask ((rvF g.f g.n g_1 i).x = (g.f (g.n - (1 : Nat) - i)).x)) ∧ Sx.Ask z1 ∧ Sx.Ask ((rvF g.f g.n g_1 i).y = (g.f (g.n - (1 : Nat) - i)).y)) ∧ True)) (by kernel_rfl) ?_
  simp only [ask_iff, br_iff, eq_self, true_and, and_true, implies_true, forall_const, decide_eq_true_eq, decide_eq_false_iff_not, ne_eq, Nat.mul_one, Nat.add_zero, Nat.zero_add, Int.toNat_natCast, and_self, List.append_assoc, false_and, and_false]
  have hg : g.n ≤ 4294967296 := hg
  refine ⟨by omega, ⟨0, Nat.zero_le _, ⟨rfl, by show (g.n : Int) - 1 = (g.n : Int) - 1 - ((0 : Nat) : Int); omega⟩, fun k hk => pt_same ?_⟩, fun i hi => ⟨fun hlt => ?_, fun hge k hk => pt_same ?_⟩⟩
  · unfold rvF; rw [if_neg (by omega)]
  · have hi : 2 * i ≤ g.n := hi
    have ez : ((g.n : Int) - 1 - (i : Int)).toNat = g.n - 1 - i := by omega
    rw [ez]
    refine ⟨by omega, by omega, by omega, by omega, by omega, by omega, by omega, by omega, by omega, by omega, i + 1, (show 2 * (i + 1) ≤ g.n by omega), ⟨⟨by omega, by omega⟩, fun k hk => pt2 (p := k = g.n - 1 - i) (q := k = i) ?_ ⟨by simp, by simp⟩ ⟨by simp, by simp⟩⟩, by show g.n - (i + 1) < g.n - i; omega⟩
    · unfold rvF
      by_cases c1 : k = g.n - 1 - i
      · rw [if_pos c1, if_neg (show ¬ (i < i ∨ g.n ≤ i + i) by omega), if_pos (by omega)]
        congr 1; omega
      · by_cases c2 : k = i
        · rw [if_neg c1, if_pos c2, if_neg (show ¬ (g.n - 1 - i < i ∨ g.n ≤ g.n - 1 - i + i) by omega), if_pos (by omega)]
          congr 1; omega
        · rw [if_neg c1, if_neg c2]
          by_cases c3 : k < i ∨ g.n ≤ k + i
          · rw [if_pos c3, if_pos (by omega)]
          · rw [if_neg c3, if_neg (by omega)]
  · have hi : 2 * i ≤ g.n := hi
    unfold rvF
    by_cases c3 : k < i ∨ g.n ≤ k + i
    · rw [if_pos c3]
    · rw [if_neg c3]
      congr 1; omega
end Go.Proofs.Ytfjbjbmbdadmhaa.Ptr
