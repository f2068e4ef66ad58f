/- Package fill: slices.SortStableFunc of few edges, by the evaluation; it sorts. -/
import Derived.Test.YtppdojjhegiffaaFlb
set_option linter.unusedSimpArgs false
set_option linter.unusedVariables false
namespace Go.Proofs.Ytppdojjhegiffaa.Flc
open Go.RowKit Sx Num Aff Con Fla Flb
set_option maxRecDepth 100000
structure SoG where
  n : Nat
  f : Nat → Ed
def soD : List SV → List SO → Option SoG
  | _, [.row _ n _ g _] => some ⟨n, fun i => edD (g i)⟩
  | _, _ => none
/-- Sorted by the first row. -/
def srtE (g : SoG) : Nat → Ed := insF 0 g.f (g.n - 1)
def spStable : FSpec := mkSpecM 89 [.arg 0] soD (fun g => [.osl 0 0, .int .i64 g.n, cmpS]) (fun g => [edRow 0 g.n g.f]) (fun g => g.n ≤ 19) (fun _ => .tup 0 (lst [])) (fun g => [edRow 0 g.n (srtE g)])
theorem ok_stable : SpecOK Try.prog spStable := by
  refine spec_soundM (specs := [spIns]) (all_ok (⟨ok_ins, trivial⟩)) (eqs := []) (fun _ _ h => (List.not_mem_nil h).elim) Aff.mixed Try.func89 rfl (by kernel_rfl) (fun _ _ => by kernel_rfl) (fun g => (⟨[(2, .rounds 1), (7, .rounds 1)], []⟩ : Ann)) true (fun g => Nat.le_of_ble_eq_true (by kernel_rfl)) ?_
  rintro g hg
  refine vc_of (B := True ∧ True ∧ True ∧ True ∧ True ∧ True ∧ True ∧ Sx.Br (decide ((20 : Int) ≤ (↑g.n : Int))) (True ∧ True ∧ True ∧ True ∧ ((True ∧ (True ∧ (Sx.Ask (IntKind.i64 = IntKind.i64) ∧ Sx.Ask ((0 : Int) = (↑(Int.toNat (0 : Int)) : Int))) ∧ (Sx.Ask (IntKind.i64 = IntKind.i64) ∧ Sx.Ask ((20 : Int) = (↑(Int.toNat (20 : Int)) : Int))) ∧ (Sx.Ask ((74 : Go.FuncId) = (74 : Go.FuncId)) ∧ True) ∧ True) ∧ (Sx.Ask (g.n = g.n) ∧ ∀ (i : Nat), i < g.n → (((((True ∧ Sx.Ask (IntKind.i64 = IntKind.i64) ∧ Sx.Ask ((g.f i).x = (g.f i).x)) ∧ Sx.Ask (IntKind.i64 = IntKind.i64) ∧ Sx.Ask ((g.f i).y = (g.f i).y)) ∧ Sx.Ask (IntKind.i64 = IntKind.i64) ∧ Sx.Ask ((g.f i).en = (g.f i).en)) ∧ Sx.Ask (IntKind.i64 = IntKind.i64) ∧ Sx.Ask ((g.f i).dx = (g.f i).dx)) ∧ Sx.Ask (IntKind.i64 = IntKind.i64) ∧ Sx.Ask ((g.f i).dy = (g.f i).dy)) ∧ Sx.Ask (IntKind.i64 = IntKind.i64) ∧ Sx.Ask ((g.f i).s = (g.f i).s)) ∧ True) ∧ Sx.Ask ((Int.toNat (0 : Int) ≤ Int.toNat (20 : Int) ∧ Int.toNat (20 : Int) ≤ g.n) ∧ g.n ≤ (4294967296 : Nat))) ∧ True ∧ True ∧ True ∧ True ∧ Sx.Ask ((-9223372036854775808 : Int) ≤ (20 : Int) + (20 : Int) ∧ (20 : Int) + (20 : Int) ≤ (9223372036854775807 : Int)) ∧ True ∧ False) (True ∧ True ∧ True ∧ True ∧ ((True ∧ (True ∧ (Sx.Ask (IntKind.i64 = IntKind.i64) ∧ Sx.Ask ((0 : Int) = (↑(Int.toNat (0 : Int)) : Int))) ∧ (Sx.Ask (IntKind.i64 = IntKind.i64) ∧ Sx.Ask ((↑g.n : Int) = (↑(↑g.n : Int).toNat : Int))) ∧ (Sx.Ask ((74 : Go.FuncId) = (74 : Go.FuncId)) ∧ True) ∧ True) ∧ (Sx.Ask (g.n = g.n) ∧ ∀ (i : Nat), i < g.n → (((((True ∧ Sx.Ask (IntKind.i64 = IntKind.i64) ∧ Sx.Ask ((g.f i).x = (g.f i).x)) ∧ Sx.Ask (IntKind.i64 = IntKind.i64) ∧ Sx.Ask ((g.f i).y = (g.f i).y)) ∧ Sx.Ask (IntKind.i64 = IntKind.i64) ∧ Sx.Ask ((g.f i).en = (g.f i).en)) ∧ Sx.Ask (IntKind.i64 = IntKind.i64) ∧ Sx.Ask ((g.f i).dx = (g.f i).dx)) ∧ Sx.Ask (IntKind.i64 = IntKind.i64) ∧ Sx.Ask ((g.f i).dy = (g.f i).dy)) ∧ Sx.Ask (IntKind.i64 = IntKind.i64) ∧ Sx.Ask ((g.f i).s = (g.f i).s)) ∧ True) ∧ Sx.Ask ((Int.toNat (0 : Int) ≤ (↑g.n : Int).toNat ∧ (↑g.n : Int).toNat ≤ g.n) ∧ g.n ≤ (4294967296 : Nat))) ∧ True ∧ True ∧ True ∧ Sx.Br (decide ((20 : Int) < (↑g.n : Int))) (True ∧ Sx.Ask ((-9223372036854775808 : Int) ≤ (2 : Int) * (20 : Int) ∧ (2 : Int) * (20 : Int) ≤ (9223372036854775807 : Int)) ∧ True ∧ True ∧ False) (True ∧ True ∧ (True ∧ True) ∧ (Sx.Ask (g.n = g.n) ∧ ∀ (i : Nat), i < g.n → (((((True ∧ Sx.Ask (IntKind.i64 = IntKind.i64) ∧ Sx.Ask ((Flb.insF (Int.toNat (0 : Int)) g.f ((↑g.n : Int).toNat - Int.toNat (0 : Int) - (1 : Nat)) i).x = (srtE g i).x)) ∧ Sx.Ask (IntKind.i64 = IntKind.i64) ∧ Sx.Ask ((Flb.insF (Int.toNat (0 : Int)) g.f ((↑g.n : Int).toNat - Int.toNat (0 : Int) - (1 : Nat)) i).y = (srtE g i).y)) ∧ Sx.Ask (IntKind.i64 = IntKind.i64) ∧ Sx.Ask ((Flb.insF (Int.toNat (0 : Int)) g.f ((↑g.n : Int).toNat - Int.toNat (0 : Int) - (1 : Nat)) i).en = (srtE g i).en)) ∧ Sx.Ask (IntKind.i64 = IntKind.i64) ∧ Sx.Ask ((Flb.insF (Int.toNat (0 : Int)) g.f ((↑g.n : Int).toNat - Int.toNat (0 : Int) - (1 : Nat)) i).dx = (srtE g i).dx)) ∧ Sx.Ask (IntKind.i64 = IntKind.i64) ∧ Sx.Ask ((Flb.insF (Int.toNat (0 : Int)) g.f ((↑g.n : Int).toNat - Int.toNat (0 : Int) - (1 : Nat)) i).dy = (srtE g i).dy)) ∧ Sx.Ask (IntKind.i64 = IntKind.i64) ∧ Sx.Ask ((Flb.insF (Int.toNat (0 : Int)) g.f ((↑g.n : Int).toNat - Int.toNat (0 : Int) - (1 : Nat)) i).s = (srtE g i).s)) ∧ True))) (by kernel_rfl) ?_
  simp only [ask_iff, br_iff, eq_self, true_and, and_true, implies_true, forall_const, decide_eq_true_eq, decide_eq_false_iff_not, ne_eq, Nat.mul_one, Nat.add_zero, Nat.zero_add, Int.toNat_natCast, and_self, List.append_assoc, false_and, and_false]
  exact ⟨fun h => by omega, fun h => ⟨⟨rfl, ⟨Nat.zero_le _, Nat.le_refl _⟩, by omega⟩, fun h => by omega, fun _ i _ => same_of rfl⟩⟩
def spSortE : FSpec := mkSpecM 73 [.arg 0] soD (fun _ => [.osl 0 0, cmpS]) (fun g => [edRow 0 g.n g.f]) (fun g => g.n ≤ 19) (fun _ => .tup 0 (lst [])) (fun g => [edRow 0 g.n (srtE g)])
theorem ok_sortE : SpecOK Try.prog spSortE := by
  refine spec_soundM (specs := [spStable]) (all_ok (⟨ok_stable, trivial⟩)) (eqs := []) (fun _ _ h => (List.not_mem_nil h).elim) Aff.mixed Try.func73 rfl (by kernel_rfl) (fun _ _ => by kernel_rfl) (fun g => A0) true (fun g => Nat.le_of_ble_eq_true (by kernel_rfl)) ?_
  rintro g hg
  refine vc_of (B := True ∧ True ∧ True ∧ True ∧ ((True ∧ (True ∧ (Sx.Ask (IntKind.i64 = IntKind.i64) ∧ Sx.Ask ((↑g.n : Int) = (↑g.n : Int))) ∧ (Sx.Ask ((74 : Go.FuncId) = (74 : Go.FuncId)) ∧ True) ∧ True) ∧ (Sx.Ask (g.n = g.n) ∧ ∀ (i : Nat), i < g.n → (((((True ∧ Sx.Ask (IntKind.i64 = IntKind.i64) ∧ Sx.Ask ((g.f i).x = (g.f i).x)) ∧ Sx.Ask (IntKind.i64 = IntKind.i64) ∧ Sx.Ask ((g.f i).y = (g.f i).y)) ∧ Sx.Ask (IntKind.i64 = IntKind.i64) ∧ Sx.Ask ((g.f i).en = (g.f i).en)) ∧ Sx.Ask (IntKind.i64 = IntKind.i64) ∧ Sx.Ask ((g.f i).dx = (g.f i).dx)) ∧ Sx.Ask (IntKind.i64 = IntKind.i64) ∧ Sx.Ask ((g.f i).dy = (g.f i).dy)) ∧ Sx.Ask (IntKind.i64 = IntKind.i64) ∧ Sx.Ask ((g.f i).s = (g.f i).s)) ∧ True) ∧ Sx.Ask (g.n ≤ (19 : Nat))) ∧ True ∧ True ∧ (True ∧ True) ∧ (Sx.Ask (g.n = g.n) ∧ ∀ (i : Nat), i < g.n → (((((True ∧ Sx.Ask (IntKind.i64 = IntKind.i64) ∧ Sx.Ask ((srtE g i).x = (srtE g i).x)) ∧ Sx.Ask (IntKind.i64 = IntKind.i64) ∧ Sx.Ask ((srtE g i).y = (srtE g i).y)) ∧ Sx.Ask (IntKind.i64 = IntKind.i64) ∧ Sx.Ask ((srtE g i).en = (srtE g i).en)) ∧ Sx.Ask (IntKind.i64 = IntKind.i64) ∧ Sx.Ask ((srtE g i).dx = (srtE g i).dx)) ∧ Sx.Ask (IntKind.i64 = IntKind.i64) ∧ Sx.Ask ((srtE g i).dy = (srtE g i).dy)) ∧ Sx.Ask (IntKind.i64 = IntKind.i64) ∧ Sx.Ask ((srtE g i).s = (srtE g i).s)) ∧ True) (by kernel_rfl) ?_
  simp only [ask_iff, br_iff, eq_self, true_and, and_true, implies_true, forall_const, decide_eq_true_eq, decide_eq_false_iff_not, ne_eq, Nat.mul_one, Nat.add_zero, Nat.zero_add, Int.toNat_natCast, and_self, List.append_assoc, false_and, and_false]
  exact hg
/-! It sorts. -/
def sumN (φ : Nat → Int) : Nat → Int
  | 0 => 0
  | n + 1 => sumN φ n + φ n
theorem sumN_congr {φ ψ : Nat → Int} : ∀ {n : Nat}, (∀ k, k < n → φ k = ψ k) → sumN φ n = sumN ψ n
  | 0, _ => rfl
  | n + 1, h => by
    show sumN φ n + φ n = sumN ψ n + ψ n
    rw [sumN_congr (fun k hk => h k (by omega)), h n (by omega)]
theorem sum_swp (φ : Ed → Int) (f : Nat → Ed) {j : Nat} (h0 : 1 ≤ j) : ∀ n, j < n → sumN (fun k => φ (swp f j k)) n = sumN (fun k => φ (f k)) n
  | 0, h => absurd h (Nat.not_lt_zero _)
  | n + 1, h => by
    show sumN (fun k => φ (swp f j k)) n + φ (swp f j n) = sumN (fun k => φ (f k)) n + φ (f n)
    by_cases hj : j = n
    · subst hj
      obtain ⟨m, rfl⟩ : ∃ m, j = m + 1 := ⟨j - 1, by omega⟩
      show sumN (fun k => φ (swp f (m + 1) k)) m + φ (swp f (m + 1) m) + φ (swp f (m + 1) (m + 1)) = sumN (fun k => φ (f k)) m + φ (f m) + φ (f (m + 1))
      have e1 : sumN (fun k => φ (swp f (m + 1) k)) m = sumN (fun k => φ (f k)) m := sumN_congr fun k hk => by
        unfold swp; rw [if_neg (by omega), if_neg (by omega)]
      have e2 : swp f (m + 1) m = f (m + 1) := by unfold swp; rw [if_neg (by omega), if_pos (by omega)]
      have e3 : swp f (m + 1) (m + 1) = f m := by unfold swp; rw [if_pos rfl]; rfl
      rw [e1, e2, e3]
      omega
    · rw [sum_swp φ f h0 n (by omega)]
      have e : swp f j n = f n := by unfold swp; rw [if_neg (by omega), if_neg (by omega)]
      rw [e]
theorem sum_bub (φ : Ed → Int) (a n : Nat) : ∀ (j : Nat) (f : Nat → Ed), j < n → sumN (fun k => φ (bub a f j k)) n = sumN (fun k => φ (f k)) n
  | 0, _, _ => rfl
  | j + 1, f, h => by
    simp only [bub]
    split
    · rw [sum_bub φ a n j _ (by omega), sum_swp φ f (by omega) n h]
    · rfl
theorem sum_ins (φ : Ed → Int) (f : Nat → Ed) (n : Nat) : ∀ i, i < n → sumN (fun k => φ (insF 0 f i k)) n = sumN (fun k => φ (f k)) n
  | 0, _ => rfl
  | i + 1, h => by
    show sumN (fun k => φ (bub 0 (insF 0 f i) (0 + i + 1) k)) n = _
    rw [sum_bub φ 0 n _ _ (by omega), sum_ins φ f n i (by omega)]
theorem sum_srt (g : SoG) (φ : Ed → Int) : sumN (fun k => φ (srtE g k)) g.n = sumN (fun k => φ (g.f k)) g.n := by
  unfold srtE
  cases hn : g.n with
  | zero => rfl
  | succ m => exact sum_ins φ g.f (m + 1) m (by omega)
theorem all_swp {P : Ed → Prop} {f : Nat → Ed} {n j : Nat} (h0 : 1 ≤ j) (hj : j < n) (h : ∀ k, k < n → P (f k)) : ∀ k, k < n → P (swp f j k) := fun k hk => by
  unfold swp
  split
  · exact h _ (by omega)
  · split
    · exact h _ hj
    · exact h _ hk
theorem all_bub {P : Ed → Prop} (a n : Nat) : ∀ (j : Nat) (f : Nat → Ed), j < n → (∀ k, k < n → P (f k)) → ∀ k, k < n → P (bub a f j k)
  | 0, _, _, h => h
  | j + 1, f, hj, h => by
    simp only [bub]
    split
    · exact all_bub a n j _ (by omega) (all_swp (by omega) hj h)
    · exact h
theorem all_ins {P : Ed → Prop} (f : Nat → Ed) (n : Nat) (h : ∀ k, k < n → P (f k)) : ∀ i, i < n → ∀ k, k < n → P (insF 0 f i k)
  | 0, _ => h
  | i + 1, hi => all_bub 0 n _ _ (by omega) (all_ins f n h i (by omega))
theorem all_srt {P : Ed → Prop} (g : SoG) (h : ∀ k, k < g.n → P (g.f k)) : ∀ k, k < g.n → P (srtE g k) := by
  unfold srtE
  cases hn : g.n with
  | zero => exact fun k hk => absurd hk (Nat.not_lt_zero _)
  | succ m => exact all_ins g.f (m + 1) (by rw [← hn]; exact h) m (by omega)
theorem srt_bub (i : Nat) : ∀ (j : Nat) (f : Nat → Ed), j ≤ i → (∀ p q, p < q → q ≤ i → q ≠ j → (f p).y ≤ (f q).y) → ∀ p q, p < q → q ≤ i → (bub 0 f j p).y ≤ (bub 0 f j q).y
  | 0, f, _, h => fun p q hpq hq => h p q hpq hq (by omega)
  | j + 1, f, hj, h => by
    simp only [bub]
    split
    · rename_i hc
      refine srt_bub i j (swp f (j + 1)) (by omega) fun p q hpq hq hne => ?_
      have a0 : swp f (j + 1) (j + 1) = f j := by unfold swp; rw [if_pos rfl]; rfl
      have a1 : swp f (j + 1) j = f (j + 1) := by unfold swp; rw [if_neg (by omega), if_pos (by omega)]
      have a2 : ∀ k, k ≠ j + 1 → k ≠ j → swp f (j + 1) k = f k := fun k h1 h2 => by unfold swp; rw [if_neg h1, if_neg (by omega)]
      by_cases hq1 : q = j + 1
      · subst hq1
        rw [a0]
        by_cases hp : p = j
        · subst hp; rw [a1]; omega
        · rw [a2 p (by omega) hp]
          exact h p j (by omega) (by omega) (by omega)
      · rw [a2 q hq1 hne]
        by_cases hp1 : p = j + 1
        · subst hp1; rw [a0]; exact h j q (by omega) hq hq1
        · by_cases hp : p = j
          · subst hp; rw [a1]; exact h (p + 1) q (by omega) hq hq1
          · rw [a2 p hp1 hp]; exact h p q hpq hq hq1
    · rename_i hc
      have hc : (f j).y ≤ (f (j + 1)).y := by omega
      intro p q hpq hq
      by_cases hq1 : q = j + 1
      · subst hq1
        by_cases hp : p = j
        · subst hp; exact hc
        · have := h p j (by omega) (by omega) (by omega)
          omega
      · exact h p q hpq hq hq1
theorem srt_ins (f : Nat → Ed) : ∀ i p q, p < q → q ≤ i → (insF 0 f i p).y ≤ (insF 0 f i q).y
  | 0, p, q, h, hq => by omega
  | i + 1, p, q, h, hq => by
    show (bub 0 (insF 0 f i) (0 + i + 1) p).y ≤ (bub 0 (insF 0 f i) (0 + i + 1) q).y
    rw [Nat.zero_add]
    refine srt_bub (i + 1) (i + 1) _ (Nat.le_refl _) (fun p q h1 h2 h3 => srt_ins f i p q h1 (by omega)) p q h hq
theorem srt_sorted (g : SoG) {p q : Nat} (h : p < q) (hq : q < g.n) : (srtE g p).y ≤ (srtE g q).y := srt_ins g.f (g.n - 1) p q h (by omega)
end Go.Proofs.Ytppdojjhegiffaa.Flc
